/- Contracts of functions, and their laws. -/
import Derived.Test.YtkpgmabebjmahaaSDec
import Derived.Test.YtkpgmabebjmahaaOpnA
import Derived.Test.YtkpgmabebjmahaaHpA
import Derived.KernelRfl
/- The pile of a queue: its blocks, and what its methods do to them. -/
namespace Go.Proofs.Ytkpgmabebjmahaa
open Go Go.Eng Go.Hp
set_option linter.unusedVariables false
set_option linter.unusedSimpArgs false
set_option linter.unusedSectionVars false
set_option maxRecDepth 100000
theorem ldR {b o : Nat} {cs : List Value} {x : Value} {W : AW} (h : rwCells W b = some cs) (hv : cs[o]? = some x) : ldC (.pointer (some ⟨b, o, none⟩)) W = some (x, W) := ldC_ok (rwCells_cellsAt h) hv
theorem rwOf {W : AW} {b : Nat} {cs : List Value} (h : W.get b = some (.cells cs)) : rwCells W b = some cs := by unfold rwCells; rw [h]
/-- one cell is stored -/
theorem stA {W : AW} {b o : Nat} {cs : List Value} {v : Value} (h : W.get b = some (.cells cs)) (ho : o < cs.length) (hv : v.cells = #[v]) (h1 : one v = true) : stV 1 (.pointer (some ⟨b, o, none⟩)) v W = some (undef, W.put b (.cells (cs.set o v))) := by
  rw [stV_one hv h1, rwOf h, Option.bind_some, if_pos ho]
theorem lenE : ((#[104] : Array TypeId)[0]?).bind Try.prog.underlying = some (.slice 127) := by kernel_rfl
structure En where
  b : Nat
  h : Int
  v : Int
abbrev enP (e : En) : Value := .pointer (some ⟨e.b, 0, none⟩)
abbrev enC (e : En) (i : Nat) : List Value := [.int .i64 e.h, .int .i64 e.v, .int .i64 (i : Int)]
def rowE (n : Nat) (f : Nat → En) : List Value := (List.range n).map fun i => enP (f i)
theorem rowE_len (n : Nat) (f : Nat → En) : (rowE n f).length = n := by simp [rowE]
theorem rowE_get {n : Nat} (f : Nat → En) {i : Nat} (h : i < n) : (rowE n f)[i]? = some (enP (f i)) := by
  unfold rowE
  rw [List.getElem?_map, List.getElem?_range h]; rfl
theorem rowE_succ (n : Nat) (f : Nat → En) : rowE (n + 1) f = rowE n f ++ [enP (f n)] := by
  unfold rowE
  rw [List.range_succ, List.map_append]; rfl
theorem rowE_congr {n : Nat} {f g : Nat → En} (h : ∀ i, i < n → f i = g i) : rowE n f = rowE n g := by
  unfold rowE
  exact List.map_congr_left fun i hi => by rw [h i (List.mem_range.1 hi)]
theorem rowE_set {n : Nat} (f : Nat → En) {i k : Nat} (hi : i < n) (hk : k < n) (j : List Value) : ((rowE n f ++ j).set i (enP (f k))).set k (enP (f i)) = rowE n (swp f i k) ++ j := by
  rw [List.set_append_left _ _ (by rw [rowE_len]; exact hi), List.set_append_left _ _ (by rw [List.length_set, rowE_len]; exact hk)]
  congr 1
  apply List.ext_getElem?
  intro m
  by_cases hm : m < n
  · rw [rowE_get _ hm, List.getElem?_set, List.getElem?_set]
    simp only [List.length_set, rowE_len]
    by_cases h1 : k = m
    · subst h1
      rw [if_pos rfl, if_pos hk, swp_r]
    · rw [if_neg h1]
      by_cases h2 : i = m
      · subst h2
        rw [if_pos rfl, if_pos hi, swp_l]
      · rw [if_neg h2, rowE_get _ hm, swp_ne _ (fun e => h2 e.symm) (fun e => h1 e.symm)]
  · rw [List.getElem?_eq_none (by simp [rowE_len]; omega), List.getElem?_eq_none (by simp [rowE_len]; omega)]
/-- the slice of a pile: nothing yet, or a block that is its own -/
inductive SlAt (W : AW) (n : Nat) (f : Nat → En) : Value → Option Nat → Prop
  | nil : n = 0 → SlAt W n f (.slice none 0 0) none
  | row (bl : Nat) (junk : List Value) : W.get bl = some (.cells (rowE n f ++ junk)) → bl < W.next → (∀ i, i < n → (f i).b ≠ bl) → SlAt W n f (.slice (some ⟨bl, 0, none⟩) n (BIG + 1)) (some bl)
structure Pile (W : AW) (n : Nat) (f : Nat → En) (lv : Value) (bl : Option Nat) : Prop where
  sl : SlAt W n f lv bl
  en : ∀ i, i < n → W.get (f i).b = some (.cells (enC (f i) i)) ∧ (f i).b < W.next
  inj : ∀ i j, i < n → j < n → (f i).b = (f j).b → i = j
theorem Pile.len {W : AW} {n : Nat} {f : Nat → En} {lv : Value} {bl : Option Nat} (h : Pile W n f lv bl) (W' : AW) : oBuiltin Try.prog .len #[104] 3 #[false] [lv] W' = some (.int .i64 (n : Int), W') := by
  cases h.sl with
  | nil h0 => subst h0; exact len_slice lenE _ _ _
  | row bl junk => exact len_slice lenE _ _ _
theorem Pile.get {W : AW} {n : Nat} {f : Nat → En} {lv : Value} {bl : Option Nat} (h : Pile W n f lv bl) {i : Nat} (hi : i < n) : ∃ b, bl = some b ∧ (∀ W' k, ixS 1 lv (.int k (i : Int)) W' = some (.pointer (some ⟨b, i, none⟩), W')) ∧ ldC (.pointer (some ⟨b, i, none⟩)) W = some (enP (f i), W) := by
  cases h.sl with
  | nil h0 => omega
  | row b junk h1 h2 h3 =>
    refine ⟨b, rfl, fun W' k => by rw [ixS_ok hi, Nat.zero_add, Nat.mul_one], ldR (rwOf h1) ?_⟩
    rw [List.getElem?_append_left (by rw [rowE_len]; exact hi), rowE_get f hi]
theorem Pile.cell {W : AW} {n : Nat} {f : Nat → En} {lv : Value} {bl : Option Nat} (h : Pile W n f lv bl) {i : Nat} (hi : i < n) : ldC (.pointer (some ⟨(f i).b, 0, none⟩)) W = some (.int .i64 (f i).h, W) ∧ ldC (.pointer (some ⟨(f i).b, 1, none⟩)) W = some (.int .i64 (f i).v, W) :=
  ⟨ldR (rwOf (h.en i hi).1) rfl, ldR (rwOf (h.en i hi).1) rfl⟩
/-- what a pile's methods may turn -/
def Own (n : Nat) (f : Nat → En) (bl : Option Nat) (b : Nat) : Prop := bl = some b ∨ ∃ i, i < n ∧ (f i).b = b
structure Fr (W W' : AW) (S : Nat → Prop) : Prop where
  next : W'.next = W.next
  get : ∀ b, ¬ S b → W'.get b = W.get b
theorem Fr.refl (W : AW) (S : Nat → Prop) : Fr W W S := ⟨rfl, fun _ _ => rfl⟩
theorem Fr.trans {A B C : AW} {S : Nat → Prop} (h : Fr A B S) (k : Fr B C S) : Fr A C S := ⟨k.next.trans h.next, fun b hb => (k.get b hb).trans (h.get b hb)⟩
theorem Fr.mono {A B : AW} {S T : Nat → Prop} (h : Fr A B S) (hst : ∀ b, S b → T b) : Fr A B T := ⟨h.next, fun b hb => h.get b (fun hs => hb (hst b hs))⟩
/-- the queue's block, with its pile -/
structure QP (W : AW) (q : Nat) (lv less c2 c3 : Value) (n : Nat) (f : Nat → En) (bl : Option Nat) : Prop where
  qc : W.get q = some (.cells [lv, less, c2, c3])
  lt : q < W.next
  pile : Pile W n f lv bl
  bq : bl ≠ some q
  eq : ∀ i, i < n → (f i).b ≠ q
section
variable {W : AW} {q : Nat} {lv less c2 c3 : Value} {n : Nat} {f : Nat → En} {bl : Option Nat}
theorem QP.l0 (h : QP W q lv less c2 c3 n f bl) : ldC (.pointer (some ⟨q, 0, none⟩)) W = some (lv, W) := ldR (rwOf h.qc) rfl
theorem QP.l1 (h : QP W q lv less c2 c3 n f bl) : ldC (.pointer (some ⟨q, 1, none⟩)) W = some (less, W) := ldR (rwOf h.qc) rfl
theorem QP.l2 (h : QP W q lv less c2 c3 n f bl) : ldC (.pointer (some ⟨q, 2, none⟩)) W = some (c2, W) := ldR (rwOf h.qc) rfl
theorem QP.l3 (h : QP W q lv less c2 c3 n f bl) : ldC (.pointer (some ⟨q, 3, none⟩)) W = some (c3, W) := ldR (rwOf h.qc) rfl
theorem pLen_ok (h : QP W q lv less c2 c3 n f bl) : omS (.func (.func 190) #[] #[]) [.pointer (some ⟨q, 0, none⟩)] W = some (.int .i64 (n : Int), W) := by
  refine om_drop rfl ?_ heaps_pileint_Len_om
  unfold heaps_pileint_Len
  simp only [SX, oNilCheck_ptr, Nat.zero_add, h.l0, h.pile.len, Ok_some]
  exact ⟨trivial, .refl _⟩
/-- the order of the entries -/
def bef (ls : Int → Int → Bool) (a b : En) : Bool := ls a.v b.v || (!ls b.v a.v && decide (a.h < b.h))
/-- a function's value that is an order -/
def IsLess (less : Value) (ls : Int → Int → Bool) : Prop := ∀ a b W, omS less [.int .i64 a, .int .i64 b] W = some (.bool (ls a b), W)
theorem pBefore_ok {ls : Int → Int → Bool} (hl : IsLess less ls) (h : QP W q lv less c2 c3 n f bl) {i k : Nat} (hi : i < n) (hk : k < n) : omS (.func (.func 103) #[] #[]) [.pointer (some ⟨q, 0, none⟩), enP (f i), enP (f k)] W = some (.bool (bef ls (f i) (f k)), W) := by
  refine om_drop rfl ?_ heaps_pileint_before_om
  unfold heaps_pileint_before bef
  obtain ⟨a1, a2⟩ := h.pile.cell hi
  obtain ⟨b1, b2⟩ := h.pile.cell hk
  simp only [SX, oNilCheck_ptr, Nat.zero_add, h.l1, a2, b2, hl (f i).v (f k).v]
  cases ls (f i).v (f k).v
  case true =>
    simp only [SX, Ok_some]
    exact ⟨by simp, .refl _⟩
  simp only [SX, oNilCheck_ptr, Nat.zero_add, h.l1, a2, b2, hl (f k).v (f i).v]
  cases ls (f k).v (f i).v
  case true =>
    simp only [SX, Ok_some]
    exact ⟨by simp, .refl _⟩
  simp only [SX, oNilCheck_ptr, Nat.zero_add, a1, b1, Ok_some]
  exact ⟨by simp, .refl _⟩
theorem pLess_ok {ls : Int → Int → Bool} (hl : IsLess less ls) (h : QP W q lv less c2 c3 n f bl) {i k : Nat} (hi : i < n) (hk : k < n) : omS (.func (.func 73) #[] #[]) [.pointer (some ⟨q, 0, none⟩), .int .i64 (i : Int), .int .i64 (k : Int)] W = some (.bool (bef ls (f i) (f k)), W) := by
  refine om_drop rfl ?_ heaps_pileint_Less_om
  unfold heaps_pileint_Less
  obtain ⟨b, -, a1, a2⟩ := h.pile.get hi
  obtain ⟨b', -, b1, b2⟩ := h.pile.get hk
  simp only [SX, oNilCheck_ptr, Nat.zero_add, h.l0, a1, a2, b1, b2, pBefore_ok hl h hi hk, Ok_some]
  exact ⟨trivial, .refl _⟩
theorem pSwap_ok (h : QP W q lv less c2 c3 n f bl) {i k : Nat} (hi : i < n) (hk : k < n) : ∃ W', omS (.func (.func 193) #[] #[]) [.pointer (some ⟨q, 0, none⟩), .int .i64 (i : Int), .int .i64 (k : Int)] W = some (.tuple #[], W') ∧ QP W' q lv less c2 c3 n (swp f i k) bl ∧ Fr W W' (Own n f bl) := by
  have main : Ok (heaps_pileint_Swap omS (.pointer (some ⟨q, 0, none⟩)) (.int .i64 (i : Int)) (.int .i64 (k : Int)) W) fun r => r.1 = .tuple #[] ∧ QP r.2 q lv less c2 c3 n (swp f i k) bl ∧ Fr W r.2 (Own n f bl) := by
    unfold heaps_pileint_Swap
    obtain ⟨hq, hlt, ⟨hsl, hen, hinj⟩, hbq, heq⟩ := h
    cases hsl with
    | nil h0 => omega
    | row b junk h1 h2 h3 =>
      have ix : ∀ {j : Nat} (hj : j < n) (W' : AW) (kk : IntKind), ixS 1 (.slice (some ⟨b, 0, none⟩) n (BIG + 1)) (.int kk (j : Int)) W' = some (.pointer (some ⟨b, j, none⟩), W') := fun hj W' kk => by rw [ixS_ok hj, Nat.zero_add, Nat.mul_one]
      have hbq' : b ≠ q := fun e => hbq (by rw [e])
      have hl0 : ∀ {W' : AW}, W'.get q = W.get q → ldC (.pointer (some ⟨q, 0, none⟩)) W' = some (.slice (some ⟨b, 0, none⟩) n (BIG + 1), W') := fun e => ldR (rwOf (e.trans hq)) rfl
      have g1 : ∀ {j : Nat}, j < n → (rowE n f ++ junk)[j]? = some (enP (f j)) := fun hj => by rw [List.getElem?_append_left (by rw [rowE_len]; exact hj), rowE_get f hj]
      have hlen : ∀ {j : Nat}, j < n → j < (rowE n f ++ junk).length := fun hj => by rw [List.length_append, rowE_len]; omega
      have s1 := stA (W := W) (v := enP (f k)) h1 (hlen hi) rfl rfl
      have hA : (W.put b (.cells ((rowE n f ++ junk).set i (enP (f k))))).get b = some (.cells ((rowE n f ++ junk).set i (enP (f k)))) := AW.get_put _ _ _
      have s2 := stA (v := enP (f i)) hA (by rw [List.length_set]; exact hlen hk) rfl rfl
      rw [rowE_set f hi hk] at s2
      have hB : ∀ X : AW, (X.put b (.cells (rowE n (swp f i k) ++ junk))).get b = some (.cells (rowE n (swp f i k) ++ junk)) := fun X => AW.get_put _ _ _
      simp only [SX, oNilCheck_ptr, Nat.zero_add, hl0 rfl, ix hi, ix hk, ldR (rwOf h1) (g1 hi), ldR (rwOf h1) (g1 hk), s1, s2]
      generalize hW2 : (W.put b (.cells ((rowE n f ++ junk).set i (enP (f k))))).put b (.cells (rowE n (swp f i k) ++ junk)) = W2 at *
      have e2 : ∀ c, c ≠ b → W2.get c = W.get c := fun c hc => by rw [← hW2, AW.get_put_ne _ _ (Ne.symm hc), AW.get_put_ne _ _ (Ne.symm hc)]
      have n2 : W2.next = W.next := by rw [← hW2, AW.put_next, AW.put_next]
      have b2 : W2.get b = some (.cells (rowE n (swp f i k) ++ junk)) := by rw [← hW2]; exact AW.get_put _ _ _
      have g2 : ∀ {j : Nat}, j < n → (rowE n (swp f i k) ++ junk)[j]? = some (enP (swp f i k j)) := fun hj => by rw [List.getElem?_append_left (by rw [rowE_len]; exact hj), rowE_get _ hj]
      have ei := hen i hi
      have ek := hen k hk
      have c1 : W2.get (f k).b = some (.cells (enC (f k) k)) := (e2 _ (h3 k hk)).trans ek.1
      have s3 := stA (v := .int .i64 (i : Int)) (o := 2) c1 (by simp) rfl rfl
      have s3' : ((enC (f k) k).set 2 (.int .i64 (i : Int))) = enC (f k) i := rfl
      rw [s3'] at s3
      simp only [SX, oNilCheck_ptr, Nat.zero_add, hl0 (e2 _ (Ne.symm hbq')), ix hi, ix hk, ldR (rwOf b2) (g2 hi), ldR (rwOf b2) (g2 hk), swp_l, swp_r, s3]
      generalize hW3 : W2.put (f k).b (.cells (enC (f k) i)) = W3 at *
      have c2' : ∃ p, W3.get (f i).b = some (.cells (enC (f i) p)) ∧ (i = k → p = i) := by
        by_cases hik : i = k
        · subst hik
          exact ⟨i, by rw [← hW3]; exact AW.get_put _ _ _, fun _ => rfl⟩
        · refine ⟨i, ?_, fun e => absurd e hik⟩
          rw [← hW3, AW.get_put_ne _ _ (fun e => hik (hinj k i hk hi e).symm), e2 _ (h3 i hi)]
          exact ei.1
      obtain ⟨p, c2', -⟩ := c2'
      have s4 := stA (v := .int .i64 (k : Int)) (o := 2) c2' (by simp) rfl rfl
      have s4' : ((enC (f i) p).set 2 (.int .i64 (k : Int))) = enC (f i) k := rfl
      rw [s4'] at s4
      simp only [SX, oNilCheck_ptr, Nat.zero_add, s4, Ok_some]
      have e4 : ∀ c, c ≠ b → c ≠ (f k).b → c ≠ (f i).b → (W3.put (f i).b (.cells (enC (f i) k))).get c = W.get c := fun c x1 x2 x3 => by rw [AW.get_put_ne _ _ (Ne.symm x3), ← hW3, AW.get_put_ne _ _ (Ne.symm x2), e2 _ x1]
      have n4 : (W3.put (f i).b (.cells (enC (f i) k))).next = W.next := by rw [AW.put_next, ← hW3, AW.put_next, n2]
      have b4 : (W3.put (f i).b (.cells (enC (f i) k))).get b = some (.cells (rowE n (swp f i k) ++ junk)) := by rw [AW.get_put_ne _ _ (h3 i hi), ← hW3, AW.get_put_ne _ _ (h3 k hk)]; exact b2
      have hb : ∀ j, (swp f i k j).b = (f j).b ∨ (j = i ∧ (swp f i k j).b = (f k).b) ∨ (j = k ∧ (swp f i k j).b = (f i).b) := fun j => by
        by_cases x1 : j = i
        · subst x1; rw [swp_l]; exact .inr (.inl ⟨rfl, rfl⟩)
        · by_cases x2 : j = k
          · subst x2; rw [swp_r]; exact .inr (.inr ⟨rfl, rfl⟩)
          · rw [swp_ne _ x1 x2]; exact .inl rfl
      have hcomp : ∀ j, swp f i k j = f (swN i k j) := fun j => by rw [swp_comp]
      refine ⟨trivial, ⟨?_, by rw [n4]; exact hlt, ⟨.row b junk b4 (by rw [n4]; exact h2) (fun j hj => by rw [hcomp]; exact h3 _ (swN_lt hi hk hj)), fun j hj => ?_, fun j m hj hm e => ?_⟩, hbq, fun j hj => by rw [hcomp]; exact heq _ (swN_lt hi hk hj)⟩, n4, fun c hc => ?_⟩
      · rw [e4 q (Ne.symm hbq') (Ne.symm (heq k hk)) (Ne.symm (heq i hi))]; exact hq
      · rw [n4, hcomp]
        refine ⟨?_, (hen _ (swN_lt hi hk hj)).2⟩
        by_cases x1 : j = i
        · subst x1
          have : swN j k j = k := swp_l id j k
          rw [this]
          by_cases x2 : j = k
          · subst x2; exact AW.get_put _ _ _
          · rw [AW.get_put_ne _ _ (fun e => x2 (hinj j k hi hk e)), ← hW3]; exact AW.get_put _ _ _
        · by_cases x2 : j = k
          · subst x2
            have : swN i j j = i := swp_r id i j
            rw [this]
            exact AW.get_put _ _ _
          · have : swN i k j = j := swp_ne id x1 x2
            rw [this, e4 _ (h3 j hj) (fun e => x2 (hinj j k hj hk e)) (fun e => x1 (hinj j i hj hi e))]
            exact (hen j hj).1
      · rw [hcomp, hcomp] at e
        have := hinj _ _ (swN_lt hi hk hj) (swN_lt hi hk hm) e
        have := congrArg (swN i k) this
        rwa [swN_swN, swN_swN] at this
      · exact e4 c (fun e => hc (.inl (by rw [e]))) (fun e => hc (.inr ⟨k, hk, e.symm⟩)) (fun e => hc (.inr ⟨i, hi, e.symm⟩))
  obtain ⟨⟨r, W'⟩, h1, h2, h3⟩ := main
  simp only at h2 h3
  subst h2
  exact ⟨W', by rw [heaps_pileint_Swap_om h1, gc_not rfl], h3⟩
end
end Go.Proofs.Ytkpgmabebjmahaa
/- The pile of a queue: push and pop. -/
namespace Go.Proofs.Ytkpgmabebjmahaa
open Go Go.Eng Go.Hp
set_option linter.unusedVariables false
set_option linter.unusedSimpArgs false
set_option linter.unusedSectionVars false
set_option maxRecDepth 100000
theorem ap104 : appOk Try.prog #[104, 104] 1 8 = true := by kernel_rfl
theorem bs104 (v : Option Addr) (W : AW) : oBuildSlice Try.prog 104 1 [(0, .pointer v)] W = some (.slice (some ⟨W.next, 0, none⟩) 1 1, W.add (.cells [.pointer v])) := Eq.trans (by kernel_rfl) rfl
theorem as127 (v : Value) (W : AW) : oAssert Try.prog (.iface 127 v) 127 false W = some (v, W) := Eq.trans (by kernel_rfl) rfl
theorem ki127 (v : Value) (W : AW) : oMkIface Try.prog 127 v W = some (.iface 127 v, W) := Eq.trans (by kernel_rfl) rfl
theorem ki103 (v : Value) (W : AW) : oMkIface Try.prog 103 v W = some (.iface 103 v, W) := Eq.trans (by kernel_rfl) rfl
/-- one more at the end -/
def snoc (n : Nat) (f : Nat → En) (e : En) : Nat → En := fun i => if i = n then e else f i
theorem snoc_lt {n i : Nat} {f : Nat → En} {e : En} (h : i < n) : snoc n f e i = f i := if_neg (by omega)
theorem snoc_n (n : Nat) (f : Nat → En) (e : En) : snoc n f e n = e := if_pos rfl
theorem all_snoc (n : Nat) (f : Nat → En) (e : En) : all (n + 1) (snoc n f e) = all n f ++ [e] := by
  rw [all_succ, snoc_n]
  congr 1
  unfold all
  exact List.map_congr_left fun i hi => snoc_lt (List.mem_range.1 hi)
theorem rowE_snoc (n : Nat) (f : Nat → En) (e : En) : rowE (n + 1) (snoc n f e) = rowE n f ++ [enP e] := by
  rw [rowE_succ, snoc_n, rowE_congr (g := f) fun i hi => snoc_lt hi]
section
variable {W : AW} {q : Nat} {lv less c2 c3 : Value} {n : Nat} {f : Nat → En} {bl : Option Nat}
theorem pApp {W : AW} {lv : Value} {bl : Option Nat} (h : SlAt W n f lv bl) (hn : n ≤ 10000) {b c : Nat} {x : Value} (hc : cellsAt W b = some [x]) (hx : one x = true) : ∃ W3, aAppend Try.prog W #[104, 104] lv (.slice (some ⟨b, 0, none⟩) 1 c) = some (.slice (some ⟨W.next, 0, none⟩) (n + 1) (BIG + 1), W3) ∧ W3.next = W.next + 1 ∧ W3.get W.next = some (.cells (rowE n f ++ [x])) ∧ ∀ b, b < W.next → bl ≠ some b → W3.get b = W.get b := by
  cases h with
  | nil h0 =>
    subst h0
    exact ⟨_, app_nil (new := [x]) ap104 hc rfl rfl (by omega) (by simp [hx]) (by omega) (by omega), rfl, AW.get_add _ _, fun d hd _ => AW.get_add_ne _ _ (by omega)⟩
  | row B junk h1 h2 h3 =>
    refine ⟨_, app_on2 (new := [x]) (n := 1) (m := n) ap104 hc rfl rfl (by omega) (by simp [hx]) h1 (by rw [List.length_append, rowE_len]; omega) (by omega) (by omega), rfl, ?_, fun d hd hne => ?_⟩
    · have := AW.get_add (W.kill B) (.cells ((rowE n f ++ junk).take (n * 1) ++ [x]))
      rw [AW.kill_next] at this
      rw [this, Nat.mul_one, List.take_append_of_le_length (by rw [rowE_len]; omega), List.take_of_length_le (by rw [rowE_len]; omega)]
    · rw [AW.get_add_ne _ _ (by rw [AW.kill_next]; omega), AW.get_kill_ne _ (fun e => hne (by rw [e]))]
theorem SlAt.keep {W W' : AW} {lv : Value} {bl : Option Nat} (h : SlAt W n f lv bl) (hn : W.next ≤ W'.next) (hg : ∀ b, bl = some b → W'.get b = W.get b) : SlAt W' n f lv bl := by
  cases h with
  | nil h0 => exact .nil h0
  | row b junk h1 h2 h3 => exact .row b junk ((hg b rfl).trans h1) (by omega) h3
theorem SlAt.lt {W : AW} {lv : Value} {bl : Option Nat} (h : SlAt W n f lv bl) {b : Nat} (hb : bl = some b) : b < W.next := by
  cases h with
  | nil h0 => cases hb
  | row b junk h1 h2 h3 => cases hb; exact h2
theorem SlAt.ne {W : AW} {lv : Value} {bl : Option Nat} (h : SlAt W n f lv bl) {i : Nat} (hi : i < n) : bl ≠ some (f i).b := by
  cases h with
  | nil h0 => omega
  | row b junk h1 h2 h3 => exact fun e => h3 i hi (by injection e with e; exact e.symm)
theorem pPush_ok (h : QP W q lv less c2 c3 n f bl) (hn : n ≤ 10000) {e : En} {p : Value} (he : W.get e.b = some (.cells [.int .i64 e.h, .int .i64 e.v, p])) (hlt : e.b < W.next) (hq : e.b ≠ q) (hbl : bl ≠ some e.b) (hne : ∀ i, i < n → (f i).b ≠ e.b) :
    ∃ W' lv' b', omS (.func (.func 192) #[] #[]) [.pointer (some ⟨q, 0, none⟩), .iface 127 (enP e)] W = some (.tuple #[], W') ∧ QP W' q lv' less c2 c3 (n + 1) (snoc n f e) (some b') ∧ W.next ≤ b' ∧ W.next ≤ W'.next ∧ ∀ b, b < W.next → b ≠ q → b ≠ e.b → bl ≠ some b → W'.get b = W.get b := by
  have main : Ok (heaps_pileint_Push omS (.pointer (some ⟨q, 0, none⟩)) (.iface 127 (enP e)) W) fun r => r.1 = .tuple #[] ∧ ∃ lv' b', QP r.2 q lv' less c2 c3 (n + 1) (snoc n f e) (some b') ∧ W.next ≤ b' ∧ W.next ≤ r.2.next ∧ ∀ b, b < W.next → b ≠ q → b ≠ e.b → bl ≠ some b → r.2.get b = W.get b := by
    unfold heaps_pileint_Push
    have s1 := stA (v := .int .i64 (n : Int)) (o := 2) he (by simp) rfl rfl
    have s1' : ([.int .i64 e.h, .int .i64 e.v, p] : List Value).set 2 (.int .i64 (n : Int)) = enC e n := rfl
    rw [s1'] at s1
    simp only [SX, as127, oNilCheck_ptr, Nat.zero_add, h.l0, h.pile.len, s1]
    obtain ⟨hqc, hql, ⟨hsl, hen, hinj⟩, hbq, heq⟩ := h
    generalize hW1 : W.put e.b (.cells (enC e n)) = W1 at *
    have g1 : ∀ b, b ≠ e.b → W1.get b = W.get b := fun b hb => by rw [← hW1]; exact AW.get_put_ne _ _ (Ne.symm hb)
    have n1 : W1.next = W.next := by rw [← hW1, AW.put_next]
    have ge1 : W1.get e.b = some (.cells (enC e n)) := by rw [← hW1]; exact AW.get_put _ _ _
    have q1 : W1.get q = some (.cells [lv, less, c2, c3]) := (g1 q (Ne.symm hq)).trans hqc
    have g2 : ∀ b, b < W.next → (W1.add (.cells [enP e])).get b = W1.get b := fun b hb => AW.get_add_ne _ _ (by omega)
    have hs2 : SlAt (W1.add (.cells [enP e])) n f lv bl := hsl.keep (by rw [AW.add_next, n1]; omega) fun b hb => by
      rw [g2 b (hsl.lt hb), g1 b (fun x => hbl (by rw [hb, x]))]
    obtain ⟨W3, a1, a2, a3, a4⟩ := pApp (b := W1.next) (c := 1) hs2 hn cellsAt_new (x := enP e) rfl
    rw [AW.add_next, n1] at a2 a3 a4
    simp only [SX, oNilCheck_ptr, Nat.zero_add, ldR (o := 0) (rwOf q1) rfl, bs104, a1]
    rw [AW.add_next, n1]
    have g3 : ∀ b, b < W.next → bl ≠ some b → W3.get b = W1.get b := fun b hb hne => by rw [a4 b (by omega) hne, g2 b hb]
    have q3 := (g3 q hql hbq).trans q1
    have s3 := stA (v := .slice (some ⟨W.next + 1, 0, none⟩) (n + 1) (BIG + 1)) (o := 0) q3 (by simp) rfl rfl
    simp only [SX, oNilCheck_ptr, Nat.zero_add, s3, Ok_some]
    rw [show ([lv, less, c2, c3] : List Value).set 0 (.slice (some ⟨W.next + 1, 0, none⟩) (n + 1) (BIG + 1)) = [.slice (some ⟨W.next + 1, 0, none⟩) (n + 1) (BIG + 1), less, c2, c3] from rfl] at *
    generalize hW4 : W3.put q (.cells [.slice (some ⟨W.next + 1, 0, none⟩) (n + 1) (BIG + 1), less, c2, c3]) = W4 at *
    have g4 : ∀ b, b ≠ q → W4.get b = W3.get b := fun b hb => by rw [← hW4]; exact AW.get_put_ne _ _ (Ne.symm hb)
    have n4 : W4.next = W.next + 1 + 1 := by rw [← hW4, AW.put_next, a2]
    have hall : ∀ i, i < n + 1 → W4.get (snoc n f e i).b = some (.cells (enC (snoc n f e i) i)) ∧ (snoc n f e i).b < W.next ∧ (snoc n f e i).b ≠ q := fun i hi => by
      by_cases hin : i < n
      · rw [snoc_lt hin]
        refine ⟨?_, (hen i hin).2, heq i hin⟩
        rw [g4 _ (heq i hin), g3 _ (hen i hin).2 (hsl.ne hin), g1 _ (hne i hin)]
        exact (hen i hin).1
      · have : i = n := by omega
        subst this
        rw [snoc_n]
        exact ⟨by rw [g4 _ hq, g3 _ hlt hbl]; exact ge1, hlt, hq⟩
    refine ⟨trivial, _, W.next + 1, ⟨by rw [← hW4]; exact AW.get_put _ _ _, by omega, ⟨.row (W.next + 1) [] ?_ (by omega) (fun i hi => by have := (hall i hi).2.1; omega), fun i hi => ⟨(hall i hi).1, by have := (hall i hi).2.1; omega⟩, fun i j hi hj hij => ?_⟩, fun x => by injection x with x; omega, fun i hi => (hall i hi).2.2⟩, by omega, by omega, fun b hb hbq' hbe hbb => by rw [g4 _ hbq', g3 _ hb hbb, g1 _ hbe]⟩
    · rw [g4 _ (by omega), a3, rowE_snoc, List.append_nil]
    · by_cases hin : i < n
      · by_cases hjn : j < n
        · rw [snoc_lt hin, snoc_lt hjn] at hij
          exact hinj i j hin hjn hij
        · have : j = n := by omega
          subst this
          rw [snoc_lt hin, snoc_n] at hij
          exact absurd hij (hne i hin)
      · have : i = n := by omega
        subst this
        by_cases hjn : j < i
        · rw [snoc_lt hjn, snoc_n] at hij
          exact absurd hij.symm (hne j hjn)
        · omega
  obtain ⟨⟨r, W'⟩, h1, h2, lv', b', h3⟩ := main
  simp only at h2 h3
  subst h2
  exact ⟨W', lv', b', by rw [heaps_pileint_Push_om h1, gc_not rfl], h3⟩
theorem sz104 : sliceZ Try.prog 104 = some 1 := by kernel_rfl
theorem sub1 (n : Nat) (hn : n < 4611686018427387904) (W : AW) : oBin Try.prog .sub 3 false true (.int .i64 ((n + 1 : Nat) : Int)) (.int .i64 1) W = some (.int .i64 (n : Int), W) := by
  rw [oBin_sub (by omega) (by omega)]
  congr 3
  omega
theorem pPop_ok (h : QP W q lv less c2 c3 (n + 1) f bl) (hn : n ≤ 10000) :
    ∃ W' lv', omS (.func (.func 191) #[] #[]) [.pointer (some ⟨q, 0, none⟩)] W = some (.iface 127 (enP (f n)), W') ∧ QP W' q lv' less c2 c3 n f bl ∧ W'.next = W.next ∧ (∀ b, b ≠ q → bl ≠ some b → W'.get b = W.get b) := by
  have main : Ok (heaps_pileint_Pop omS (.pointer (some ⟨q, 0, none⟩)) W) fun r => r.1 = .iface 127 (enP (f n)) ∧ ∃ lv', QP r.2 q lv' less c2 c3 n f bl ∧ r.2.next = W.next ∧ (∀ b, b ≠ q → bl ≠ some b → r.2.get b = W.get b) := by
    unfold heaps_pileint_Pop
    simp only [SX, oNilCheck_ptr, Nat.zero_add, h.l0, h.pile.len, sub1 n (by omega)]
    obtain ⟨hqc, hql, ⟨hsl, hen, hinj⟩, hbq, heq⟩ := h
    cases hsl with
    | nil h0 => omega
    | row b junk h1 h2 h3 =>
      have ix : ∀ {j : Nat} (hj : j < n + 1) (W' : AW) (kk : IntKind), ixS 1 (.slice (some ⟨b, 0, none⟩) (n + 1) (BIG + 1)) (.int kk (j : Int)) W' = some (.pointer (some ⟨b, j, none⟩), W') := fun hj W' kk => by rw [ixS_ok hj, Nat.zero_add, Nat.mul_one]
      have hbq' : b ≠ q := fun e => hbq (by rw [e])
      have g0 : (rowE (n + 1) f ++ junk)[n]? = some (enP (f n)) := by rw [List.getElem?_append_left (by rw [rowE_len]; omega), rowE_get f (by omega)]
      have s1 := stA (W := W) (v := .pointer none) h1 (o := n) (by rw [List.length_append, rowE_len]; omega) rfl rfl
      have hrow : (rowE (n + 1) f ++ junk).set n (.pointer none) = rowE n f ++ (.pointer none :: junk) := by
        rw [rowE_succ, List.append_assoc, List.set_append_right _ _ (by rw [rowE_len]; omega), rowE_len, Nat.sub_self]
        rfl
      rw [hrow] at s1
      simp only [SX, oNilCheck_ptr, Nat.zero_add, ldR (o := 0) (rwOf hqc) rfl, ix (Nat.lt_succ_self n), ldR (rwOf h1) g0, s1]
      generalize hW2 : W.put b (.cells (rowE n f ++ (.pointer none :: junk))) = W2 at *
      have e2 : ∀ c, c ≠ b → W2.get c = W.get c := fun c hc => by rw [← hW2, AW.get_put_ne _ _ (Ne.symm hc)]
      have n2 : W2.next = W.next := by rw [← hW2, AW.put_next]
      have b2 : W2.get b = some (.cells (rowE n f ++ (.pointer none :: junk))) := by rw [← hW2]; exact AW.get_put _ _ _
      have q2 := (e2 q (Ne.symm hbq')).trans hqc
      have s3 := stA (v := .slice (some ⟨b, 0, none⟩) n (BIG + 1)) (o := 0) q2 (by simp) rfl rfl
      rw [show ([.slice (some ⟨b, 0, none⟩) (n + 1) (BIG + 1), less, c2, c3] : List Value).set 0 (.slice (some ⟨b, 0, none⟩) n (BIG + 1)) = [.slice (some ⟨b, 0, none⟩) n (BIG + 1), less, c2, c3] from rfl] at s3
      simp only [SX, oNilCheck_ptr, Nat.zero_add, ldR (o := 0) (rwOf q2) rfl, slice_open sz104 (by omega) (show n ≤ n + 1 by omega), s3, ki127, Ok_some]
      generalize hW4 : W2.put q (.cells [.slice (some ⟨b, 0, none⟩) n (BIG + 1), less, c2, c3]) = W4 at *
      have g4 : ∀ c, c ≠ q → W4.get c = W2.get c := fun c hc => by rw [← hW4]; exact AW.get_put_ne _ _ (Ne.symm hc)
      have n4 : W4.next = W.next := by rw [← hW4, AW.put_next, n2]
      refine ⟨trivial, _, ⟨by rw [← hW4]; exact AW.get_put _ _ _, by omega, ⟨.row b (.pointer none :: junk) ((g4 b hbq').trans b2) (by omega) (fun i hi => h3 i (by omega)), fun i hi => ⟨?_, by have := (hen i (by omega)).2; omega⟩, fun i j hi hj => hinj i j (by omega) (by omega)⟩, hbq, fun i hi => heq i (by omega)⟩, n4, fun c hc hcb => ?_⟩
      · rw [g4 _ (heq i (by omega)), e2 _ (h3 i (by omega))]
        exact (hen i (by omega)).1
      · rw [g4 c hc, e2 c (fun e => hcb (by rw [e]))]
  obtain ⟨⟨r, W'⟩, h1, h2, lv', h3⟩ := main
  simp only at h2 h3
  subst h2
  exact ⟨W', lv', by rw [heaps_pileint_Pop_om h1, gc_not rfl], h3⟩
end
end Go.Proofs.Ytkpgmabebjmahaa
/- container/heap over a queue's pile. -/
namespace Go.Proofs.Ytkpgmabebjmahaa
open Go Go.Eng Go.Hp
set_option linter.unusedVariables false
set_option linter.unusedSimpArgs false
set_option linter.unusedSectionVars false
set_option maxRecDepth 100000
theorem iLess (v : Value) (xs : List Value) (W : AW) : oInvoke Try.prog omS (.iface 103 v) "Less" xs W = omS (.func (.func 73) #[] #[]) (v :: xs) W := inv_eq (by kernel_rfl) _ _
theorem iSwap (v : Value) (xs : List Value) (W : AW) : oInvoke Try.prog omS (.iface 103 v) "Swap" xs W = omS (.func (.func 193) #[] #[]) (v :: xs) W := inv_eq (by kernel_rfl) _ _
theorem iLen (v : Value) (xs : List Value) (W : AW) : oInvoke Try.prog omS (.iface 103 v) "Len" xs W = omS (.func (.func 190) #[] #[]) (v :: xs) W := inv_eq (by kernel_rfl) _ _
theorem iPush (v : Value) (xs : List Value) (W : AW) : oInvoke Try.prog omS (.iface 103 v) "Push" xs W = omS (.func (.func 192) #[] #[]) (v :: xs) W := inv_eq (by kernel_rfl) _ _
theorem iPop (v : Value) (xs : List Value) (W : AW) : oInvoke Try.prog omS (.iface 103 v) "Pop" xs W = omS (.func (.func 191) #[] #[]) (v :: xs) W := inv_eq (by kernel_rfl) _ _
theorem td2 (i : Nat) : ((i : Int) - 1).tdiv 2 = (par i : Int) := by
  unfold par
  rcases Nat.eq_zero_or_pos i with rfl | h
  · rfl
  · rw [Int.tdiv_eq_ediv_of_nonneg (by omega)]
    omega
theorem par_le (i : Nat) : par i ≤ i := by unfold par; omega
abbrev hpV (q : Nat) : Value := .iface 103 (.pointer (some ⟨q, 0, none⟩))
theorem Own.perm {n : Nat} {f g : Nat → En} {bl : Option Nat} (h : (all n g).Perm (all n f)) {b : Nat} (ho : Own n g bl b) : Own n f bl b := by
  rcases ho with ho | ⟨i, hi, rfl⟩
  · exact .inl ho
  · obtain ⟨k, hk, e⟩ := all_mem.1 (h.mem_iff.1 (all_mem.2 ⟨i, hi, rfl⟩))
    exact .inr ⟨k, hk, by rw [e]⟩
section
variable {W : AW} {q : Nat} {lv less c2 c3 : Value} {n : Nat} {f : Nat → En} {bl : Option Nat} {ls : Int → Int → Bool}
theorem up_ok (o : Ord (bef ls)) (hl : IsLess less ls) (h : QP W q lv less c2 c3 n f bl) (hn : n ≤ 10001) {j : Nat} (hj : j < n) (hup : Up (bef ls) n f j) :
    ∃ W' g, omS (.func (.func 104) #[] #[]) [hpV q, .int .i64 (j : Int)] W = some (.tuple #[], W') ∧ QP W' q lv less c2 c3 n g bl ∧ Fr W W' (Own n f bl) ∧ Heap (bef ls) n g ∧ (all n g).Perm (all n f) := by
  have main : Ok (containerheap_up omS (hpV q) (.int .i64 (j : Int)) W) fun r => r.1 = .tuple #[] ∧ ∃ g, QP r.2 q lv less c2 c3 n g bl ∧ Fr W r.2 (Own n f bl) ∧ Heap (bef ls) n g ∧ (all n g).Perm (all n f) := by
    unfold containerheap_up
    have key : ∀ (i : Nat) (R : PlanTab.Fr) (W' : AW) (g : Nat → En), i < n → R 0 = hpV q → R 1 = .int .i64 (i : Int) → QP W' q lv less c2 c3 n g bl → Fr W W' (Own n f bl) → Up (bef ls) n g i → (all n g).Perm (all n f) →
        Ok (containerheap_up_L1 omS R W') fun r => (r.1 = .exit 0 ∧ ∃ g', QP r.2.2 q lv less c2 c3 n g' bl ∧ Fr W r.2.2 (Own n f bl) ∧ Heap (bef ls) n g' ∧ (all n g').Perm (all n f)) ∨ (r.1 = .normal ∧ 0 < i ∧ ∃ g', r.2.1 0 = hpV q ∧ r.2.1 1 = .int .i64 (par i : Int) ∧ QP r.2.2 q lv less c2 c3 n g' bl ∧ Fr W r.2.2 (Own n f bl) ∧ Up (bef ls) n g' (par i) ∧ (all n g').Perm (all n f)) := by
      intro i R W' g hi h0 h1 hQ hF hU hP
      unfold containerheap_up_L1
      have e1 := oBin_sub (P := Try.prog) (W := W') (t := 3) (c := false) (d := true) (a := (i : Int)) (b := 1) (by omega) (by omega)
      have e2 : oBin Try.prog .quo 3 false true (.int .i64 ((i : Int) - 1)) (.int .i64 2) W' = some (.int .i64 (par i : Int), W') := by
        rw [oBin_quo (by omega), td2, wrap_i64 (by omega) (by have := par_le i; omega)]
      by_cases hi0 : i = 0
      · subst hi0
        have e3 : ((par 0 : Nat) : Int) = ((0 : Nat) : Int) := rfl
        simp only [SX, h0, h1, e1, e2, e3, Ok_some]
        exact .inl ⟨trivial, g, hQ, hF, hU.done (.inl rfl), hP⟩
      · have hpi := par_lt (k := i) (by omega)
        have e3 : ¬ ((par i : Int) = (i : Int)) := by omega
        simp only [SX, h0, h1, e1, e2, e3, iLess, pLess_ok hl hQ hi (show par i < n by omega)]
        cases hb : bef ls (g i) (g (par i))
        · simp only [SX, Ok_some]
          exact .inl ⟨trivial, g, hQ, hF, hU.done (.inr hb), hP⟩
        · obtain ⟨W2, s1, s2, s3⟩ := pSwap_ok hQ (show par i < n by omega) hi
          simp only [SX, h0, h1, iSwap, s1, Ok_some]
          refine .inr ⟨trivial, by omega, _, h0, rfl, s2, hF.trans (s3.mono fun b hb => Own.perm hP hb), hU.step o (by omega) hi hb, (all_swp g (show par i < n by omega) hi).trans hP⟩
    refine Ok_loop j (by omega) (fun k R W' => ∃ i g, i + k ≤ j ∧ i < n ∧ R 0 = hpV q ∧ R 1 = .int .i64 (i : Int) ∧ QP W' q lv less c2 c3 n g bl ∧ Fr W W' (Own n f bl) ∧ Up (bef ls) n g i ∧ (all n g).Perm (all n f))
      (fun r => r.1 = .exit 0 ∧ ∃ g', QP r.2.2 q lv less c2 c3 n g' bl ∧ Fr W r.2.2 (Own n f bl) ∧ Heap (bef ls) n g' ∧ (all n g').Perm (all n f)) ⟨j, f, by omega, hj, rfl, rfl, h, .refl _ _, hup, .refl _⟩ ?_ ?_ ?_
    · rintro k R W' hk ⟨i, g, h1, h2, h3, h4, h5, h6, h7, h8⟩
      refine (key i R W' g h2 h3 h4 h5 h6 h7 h8).mono fun r hr => ?_
      rcases hr with hr | ⟨r1, r2, g', r3, r4, r5, r6, r7, r8⟩
      · exact .inr ⟨by rw [hr.1]; simp, hr⟩
      · have := par_lt r2
        exact .inl ⟨r1, par i, g', by omega, by omega, r3, r4, r5, r6, r7, r8⟩
    · rintro R W' ⟨i, g, h1, h2, h3, h4, h5, h6, h7, h8⟩
      refine (key i R W' g h2 h3 h4 h5 h6 h7 h8).mono fun r hr => ?_
      rcases hr with hr | ⟨r1, r2, -⟩
      · exact ⟨by rw [hr.1]; simp, hr⟩
      · omega
    · rintro ⟨x, R, W'⟩ ⟨hx, hq⟩
      simp only at hx hq
      subst hx
      simp only [SX, Ok_some]
      exact ⟨trivial, hq⟩
  obtain ⟨⟨r, W'⟩, h1, h2, g, h3⟩ := main
  simp only at h2 h3
  subst h2
  exact ⟨W', g, by rw [containerheap_up_om h1, gc_not rfl], h3⟩
end
end Go.Proofs.Ytkpgmabebjmahaa
/- container/heap over a queue's pile: down, push, pop. -/
namespace Go.Proofs.Ytkpgmabebjmahaa
open Go Go.Eng Go.Hp
set_option linter.unusedVariables false
set_option linter.unusedSimpArgs false
set_option linter.unusedSectionVars false
set_option maxRecDepth 100000
theorem gc_two {W W' : AW} (v : Value) : gc W (v, W') = (v, W') ∨ (gc W (v, W') = (v, W) ∧ Le W W') := by
  unfold gc
  split
  · rename_i h; exact .inr ⟨rfl, h.2⟩
  · exact .inl rfl
section
variable {W : AW} {q : Nat} {lv less c2 c3 : Value} {n : Nat} {f : Nat → En} {bl : Option Nat} {ls : Int → Int → Bool}
theorem QP.back {W W' : AW} (h : QP W' q lv less c2 c3 n f bl) (hn : W'.next = W.next) (hle : Le W W') : QP W q lv less c2 c3 n f bl := by
  obtain ⟨hqc, hql, ⟨hsl, hen, hinj⟩, hbq, heq⟩ := h
  rw [hn] at hql
  refine ⟨by rw [← hle.get q hql]; exact hqc, hql, ⟨hsl.keep (by omega) fun b hb => (hle.get b (by have := hsl.lt hb; omega)).symm, fun i hi => ?_, hinj⟩, hbq, heq⟩
  have := (hen i hi).2
  exact ⟨by rw [← hle.get _ (by omega)]; exact (hen i hi).1, by omega⟩
theorem ord_irr {α : Type} {lt : α → α → Bool} (o : Ord lt) (a : α) : lt a a = false := by
  cases h : lt a a with
  | false => rfl
  | true => have := o.asym _ _ h; rw [h] at this; exact this
/-- beyond n nothing is turned -/
def Same (n : Nat) (f g : Nat → En) : Prop := ∀ i, n ≤ i → g i = f i
theorem Own.low {n N : Nat} {f g : Nat → En} {bl : Option Nat} (h : (all n g).Perm (all n f)) (hs : Same n f g) {b : Nat} (ho : Own N g bl b) (hN : n ≤ N) : Own N f bl b := by
  rcases ho with ho | ⟨i, hi, rfl⟩
  · exact .inl ho
  · by_cases hin : i < n
    · obtain ⟨k, hk, e⟩ := all_mem.1 (h.mem_iff.1 (all_mem.2 ⟨i, hin, rfl⟩))
      exact .inr ⟨k, by omega, by rw [e]⟩
    · exact .inr ⟨i, hi, by rw [hs i (by omega)]⟩
theorem down_ok (o : Ord (bef ls)) (hl : IsLess less ls) {N : Nat} (h : QP W q lv less c2 c3 N f bl) (hN : N ≤ 10001) (hn : n ≤ N) {i0 : Nat} (hi0 : i0 ≤ n) (hd : Dn (bef ls) n f i0) :
    ∃ W' g b, omS (.func (.func 94) #[] #[]) [hpV q, .int .i64 (i0 : Int), .int .i64 (n : Int)] W = some (.bool b, W') ∧ QP W' q lv less c2 c3 N g bl ∧ Fr W W' (Own N f bl) ∧ Heap (bef ls) n g ∧ (all n g).Perm (all n f) ∧ Same n f g := by
  have main : Ok (containerheap_down omS (hpV q) (.int .i64 (i0 : Int)) (.int .i64 (n : Int)) W) fun r => (∃ b, r.1 = .bool b) ∧ ∃ g, QP r.2 q lv less c2 c3 N g bl ∧ Fr W r.2 (Own N f bl) ∧ Heap (bef ls) n g ∧ (all n g).Perm (all n f) ∧ Same n f g := by
    unfold containerheap_down
    have key : ∀ (i : Nat) (R : PlanTab.Fr) (W' : AW) (g : Nat → En), i ≤ n → R 0 = hpV q → R 2 = .int .i64 (n : Int) → R 7 = .int .i64 (i : Int) → QP W' q lv less c2 c3 N g bl → Fr W W' (Own N f bl) → Dn (bef ls) n g i → (all n g).Perm (all n f) → Same n f g →
        Ok (containerheap_down_L1 omS R W') fun r => (r.1 = .exit 0 ∧ r.2.1 1 = R 1 ∧ r.2.1 7 = R 7 ∧ ∃ g', QP r.2.2 q lv less c2 c3 N g' bl ∧ Fr W r.2.2 (Own N f bl) ∧ Heap (bef ls) n g' ∧ (all n g').Perm (all n f) ∧ Same n f g') ∨ (r.1 = .normal ∧ i < n ∧ r.2.1 1 = R 1 ∧ ∃ g' j, i < j ∧ j < n ∧ r.2.1 0 = hpV q ∧ r.2.1 2 = .int .i64 (n : Int) ∧ r.2.1 7 = .int .i64 (j : Int) ∧ QP r.2.2 q lv less c2 c3 N g' bl ∧ Fr W r.2.2 (Own N f bl) ∧ Dn (bef ls) n g' j ∧ (all n g').Perm (all n f) ∧ Same n f g') := by
      intro i R W' g hi h0 h2 h7 hQ hF hD hP hS
      unfold containerheap_down_L1
      have e1 : oBin Try.prog .mul 3 true false (.int .i64 2) (.int .i64 (i : Int)) W' = some (.int .i64 (2 * (i : Int)), W') := oBin_mul (by omega) (by omega)
      have e2 := oBin_add (P := Try.prog) (W := W') (t := 3) (c := false) (d := true) (a := 2 * (i : Int)) (b := 1) (by omega) (by omega)
      have e3 := oBin_add (P := Try.prog) (W := W') (t := 3) (c := false) (d := true) (a := 2 * (i : Int) + 1) (b := 1) (by omega) (by omega)
      have e4 : ¬ (2 * (i : Int) + 1 < 0) := by omega
      by_cases hj : n ≤ 2 * i + 1
      · have e5 : (n : Int) ≤ 2 * (i : Int) + 1 := by omega
        simp only [SX, h0, h2, h7, e1, e2, e5, Ok_some]
        exact .inl ⟨trivial, rfl, h7, g, hQ, hF, hD.done o (fun k hk hkn => by omega), hP, hS⟩
      · have e5 : ¬ ((n : Int) ≤ 2 * (i : Int) + 1) := by omega
        have c1 : ((2 * i + 1 : Nat) : Int) = 2 * (i : Int) + 1 := by omega
        have c2' : ((2 * i + 2 : Nat) : Int) = 2 * (i : Int) + 1 + 1 := by omega
        have fin : ∀ j, (j = 2 * i + 1 ∨ j = 2 * i + 2) → j < n → (∀ k, (k = 2 * i + 1 ∨ k = 2 * i + 2) → k < n → bef ls (g k) (g j) = false) →
            (bef ls (g j) (g i) = false → Heap (bef ls) n g) ∧ (bef ls (g j) (g i) = true → ∃ W2, omS (.func (.func 193) #[] #[]) [.pointer (some ⟨q, 0, none⟩), .int .i64 (i : Int), .int .i64 (j : Int)] W' = some (.tuple #[], W2) ∧ QP W2 q lv less c2 c3 N (swp g i j) bl ∧ Fr W W2 (Own N f bl) ∧ Dn (bef ls) n (swp g i j) j ∧ (all n (swp g i j)).Perm (all n f) ∧ Same n f (swp g i j)) := by
          intro j hj1 hj2 hmin
          refine ⟨fun hb => hD.done o fun k hk hkn => o.neg _ _ _ hb (hmin k hk hkn), fun hb => ?_⟩
          obtain ⟨W2, s1, s2, s3⟩ := pSwap_ok hQ (show i < N by omega) (show j < N by omega)
          refine ⟨W2, s1, s2, hF.trans (s3.mono fun b hb => Own.low hP hS hb hn), hD.step o hj1 hj2 hb hmin, (all_swp g (by omega) hj2).trans hP, fun k hk => ?_⟩
          rw [swp_ne _ (by omega) (by omega)]
          exact hS k hk
        by_cases hj2 : 2 * i + 2 < n
        · have e6 : (2 * (i : Int) + 1 + 1 < (n : Int)) := by omega
          have l1 := pLess_ok hl hQ (show 2 * i + 2 < N by omega) (show 2 * i + 1 < N by omega)
          rw [c1, c2'] at l1
          simp only [SX, h0, h2, h7, e1, e2, e3, e4, e5, e6, iLess, l1]
          cases hb : bef ls (g (2 * i + 2)) (g (2 * i + 1))
          · obtain ⟨f1, f2⟩ := fin (2 * i + 1) (.inl rfl) (by omega) fun k hk hkn => by
              rcases hk with rfl | rfl
              · exact ord_irr o _
              · exact hb
            have l2 := pLess_ok hl hQ (show 2 * i + 1 < N by omega) (show i < N by omega)
            rw [c1] at l2 f2
            simp only [SX, h0, h7, iLess, l2]
            cases hb2 : bef ls (g (2 * i + 1)) (g i)
            · simp only [SX, Ok_some]
              exact .inl ⟨trivial, rfl, h7, g, hQ, hF, f1 hb2, hP, hS⟩
            · obtain ⟨W2, s1, s2, s3, s4, s5, s6⟩ := f2 hb2
              simp only [SX, h0, h7, iSwap, s1, Ok_some]
              exact .inr ⟨trivial, by omega, rfl, _, 2 * i + 1, by omega, by omega, h0, h2, by rw [c1]; rfl, s2, s3, s4, s5, s6⟩
          · obtain ⟨f1, f2⟩ := fin (2 * i + 2) (.inr rfl) (by omega) fun k hk hkn => by
              rcases hk with rfl | rfl
              · exact o.asym _ _ hb
              · exact ord_irr o _
            have l2 := pLess_ok hl hQ (show 2 * i + 2 < N by omega) (show i < N by omega)
            rw [c2'] at l2 f2
            simp only [SX, h0, h7, iLess, l2]
            cases hb2 : bef ls (g (2 * i + 2)) (g i)
            · simp only [SX, Ok_some]
              exact .inl ⟨trivial, rfl, h7, g, hQ, hF, f1 hb2, hP, hS⟩
            · obtain ⟨W2, s1, s2, s3, s4, s5, s6⟩ := f2 hb2
              simp only [SX, h0, h7, iSwap, s1, Ok_some]
              exact .inr ⟨trivial, by omega, rfl, _, 2 * i + 2, by omega, by omega, h0, h2, by rw [c2']; rfl, s2, s3, s4, s5, s6⟩
        · have e6 : ¬ (2 * (i : Int) + 1 + 1 < (n : Int)) := by omega
          obtain ⟨f1, f2⟩ := fin (2 * i + 1) (.inl rfl) (by omega) fun k hk hkn => by
            rcases hk with rfl | rfl
            · exact ord_irr o _
            · omega
          have l2 := pLess_ok hl hQ (show 2 * i + 1 < N by omega) (show i < N by omega)
          rw [c1] at l2 f2
          simp only [SX, h0, h2, h7, e1, e2, e3, e4, e5, e6, iLess, l2]
          cases hb2 : bef ls (g (2 * i + 1)) (g i)
          · simp only [SX, Ok_some]
            exact .inl ⟨trivial, rfl, h7, g, hQ, hF, f1 hb2, hP, hS⟩
          · obtain ⟨W2, s1, s2, s3, s4, s5, s6⟩ := f2 hb2
            simp only [SX, h0, h7, iSwap, s1, Ok_some]
            exact .inr ⟨trivial, by omega, rfl, _, 2 * i + 1, by omega, by omega, h0, h2, by rw [c1]; rfl, s2, s3, s4, s5, s6⟩
    simp only [SX]
    refine Ok_loop n (by omega) (fun k R W' => ∃ i g, k ≤ i ∧ i ≤ n ∧ R 0 = hpV q ∧ R 1 = .int .i64 (i0 : Int) ∧ R 2 = .int .i64 (n : Int) ∧ R 7 = .int .i64 (i : Int) ∧ QP W' q lv less c2 c3 N g bl ∧ Fr W W' (Own N f bl) ∧ Dn (bef ls) n g i ∧ (all n g).Perm (all n f) ∧ Same n f g)
      (fun r => r.1 = .exit 0 ∧ (∃ i : Nat, r.2.1 7 = .int .i64 (i : Int)) ∧ r.2.1 1 = .int .i64 (i0 : Int) ∧ ∃ g', QP r.2.2 q lv less c2 c3 N g' bl ∧ Fr W r.2.2 (Own N f bl) ∧ Heap (bef ls) n g' ∧ (all n g').Perm (all n f) ∧ Same n f g') ⟨i0, f, by omega, hi0, rfl, rfl, rfl, rfl, h, .refl _ _, hd, .refl _, fun _ _ => rfl⟩ ?_ ?_ ?_
    · rintro k R W' hk ⟨i, g, h1, h2, h3, h3', h4, h5, h6, h7, h8, h9, h10⟩
      refine (key i R W' g h2 h3 h4 h5 h6 h7 h8 h9 h10).mono fun r hr => ?_
      rcases hr with ⟨r1, r2, r3, r4⟩ | ⟨r1, r2, r3, g', j, j1, j2, r5, r6, r7, r8⟩
      · exact .inr ⟨by rw [r1]; simp, r1, ⟨i, by rw [r3, h5]⟩, by rw [r2, h3'], r4⟩
      · exact .inl ⟨r1, j, g', by omega, by omega, r5, by rw [r3, h3'], r6, r7, r8⟩
    · rintro R W' ⟨i, g, h1, h2, h3, h3', h4, h5, h6, h7, h8, h9, h10⟩
      refine (key i R W' g h2 h3 h4 h5 h6 h7 h8 h9 h10).mono fun r hr => ?_
      rcases hr with ⟨r1, r2, r3, r4⟩ | ⟨r1, r2, -⟩
      · exact ⟨by rw [r1]; simp, r1, ⟨i, by rw [r3, h5]⟩, by rw [r2, h3'], r4⟩
      · omega
    · rintro ⟨x, R, W'⟩ ⟨hx, ⟨i, h7⟩, h1, hq⟩
      simp only at hx h7 h1 hq
      subst hx
      simp only [SX, h7, h1, Ok_some]
      exact ⟨⟨_, rfl⟩, hq⟩
  obtain ⟨⟨r, W'⟩, h1, ⟨b, h2⟩, g, h3⟩ := main
  simp only at h2 h3
  subst h2
  rcases gc_two (W := W) (W' := W') (.bool b) with hg | ⟨hg, hle⟩
  · exact ⟨W', g, b, by rw [containerheap_down_om h1, hg], h3⟩
  · exact ⟨W, g, b, by rw [containerheap_down_om h1, hg], h3.1.back h3.2.1.next hle, .refl _ _, h3.2.2⟩
end
end Go.Proofs.Ytkpgmabebjmahaa
/- container/heap over a queue's pile: push, pop. -/
namespace Go.Proofs.Ytkpgmabebjmahaa
open Go Go.Eng Go.Hp
set_option linter.unusedVariables false
set_option linter.unusedSimpArgs false
set_option linter.unusedSectionVars false
set_option maxRecDepth 100000
section
variable {W : AW} {q : Nat} {lv less c2 c3 : Value} {n : Nat} {f : Nat → En} {bl : Option Nat} {ls : Int → Int → Bool}
theorem heap_up {lt : En → En → Bool} {e : En} (h : Heap lt n f) : Up lt (n + 1) (snoc n f e) n := by
  refine ⟨fun k h0 h1 h2 => ?_, fun k h0 h1 h2 h3 => ?_⟩
  · have := par_lt h0
    rw [snoc_lt (by omega), snoc_lt (by omega)]
    exact h k h0 (by omega)
  · have := par_lt h0
    omega
theorem hPush_ok (o : Ord (bef ls)) (hl : IsLess less ls) (h : QP W q lv less c2 c3 n f bl) (hh : Heap (bef ls) n f) (hn : n ≤ 10000) {e : En} {p : Value} (he : W.get e.b = some (.cells [.int .i64 e.h, .int .i64 e.v, p])) (hlt : e.b < W.next) (hq : e.b ≠ q) (hbl : bl ≠ some e.b) (hne : ∀ i, i < n → (f i).b ≠ e.b) :
    ∃ W' lv' b' g, omS (.func (.func 70) #[] #[]) [hpV q, .iface 127 (enP e)] W = some (.tuple #[], W') ∧ QP W' q lv' less c2 c3 (n + 1) g (some b') ∧ Heap (bef ls) (n + 1) g ∧ (all (n + 1) g).Perm (e :: all n f) ∧ W.next ≤ b' ∧ W.next ≤ W'.next ∧ ∀ b, b < W.next → b ≠ q → b ≠ e.b → ¬ Own n f bl b → W'.get b = W.get b := by
  obtain ⟨W1, lv', b', p1, p2, p3, p4, p5⟩ := pPush_ok h hn he hlt hq hbl hne
  obtain ⟨W2, g, u1, u2, u3, u4, u5⟩ := up_ok o hl p2 (by omega) (Nat.lt_succ_self n) (heap_up hh)
  have main : Ok (containerheap_Push omS (hpV q) (.iface 127 (enP e)) W) fun r => r.1 = .tuple #[] ∧ r.2 = W2 := by
    unfold containerheap_Push
    simp only [SX, iPush, p1, iLen, pLen_ok p2, sub1 n (by omega), u1, Ok_some]
    exact ⟨trivial, trivial⟩
  obtain ⟨⟨r, W'⟩, h1, h2, h3⟩ := main
  simp only at h2 h3
  subst h2; subst h3
  refine ⟨_, lv', b', g, by rw [containerheap_Push_om h1, gc_not rfl], u2, u4, u5.trans (by rw [all_snoc]; exact List.perm_append_singleton _ _), p3, by rw [u3.next]; exact p4, fun b hb hbq hbe ho => ?_⟩
  rw [u3.get b fun ho2 => ?_, p5 b hb hbq hbe fun hx => ho (.inl hx)]
  rcases ho2 with ho2 | ⟨i, hi, ho2⟩
  · injection ho2 with ho2; omega
  · by_cases hin : i < n
    · rw [snoc_lt hin] at ho2
      exact ho (.inr ⟨i, hin, ho2⟩)
    · have : i = n := by omega
      subst this
      rw [snoc_n] at ho2
      exact hbe ho2.symm
theorem heap_dn {lt : En → En → Bool} (h : Heap lt (n + 1) f) : Dn lt n (swp f 0 n) 0 := by
  refine ⟨fun k h0 h1 h2 => ?_, fun k h0 h1 h2 h3 => by omega⟩
  have := par_lt h0
  rw [swp_ne _ (by omega) (by omega), swp_ne _ h2 (by omega)]
  exact h k h0 (by omega)
theorem hPop_ok (o : Ord (bef ls)) (hl : IsLess less ls) (h : QP W q lv less c2 c3 (n + 1) f bl) (hh : Heap (bef ls) (n + 1) f) (hn : n ≤ 10000) :
    ∃ W' lv' g, omS (.func (.func 53) #[] #[]) [hpV q] W = some (.iface 127 (enP (f 0)), W') ∧ QP W' q lv' less c2 c3 n g bl ∧ Heap (bef ls) n g ∧ (f 0 :: all n g).Perm (all (n + 1) f) ∧ W'.next = W.next ∧ ∀ b, b ≠ q → ¬ Own (n + 1) f bl b → W'.get b = W.get b := by
  obtain ⟨W1, s1, s2, s3⟩ := pSwap_ok h (show 0 < n + 1 by omega) (show n < n + 1 by omega)
  obtain ⟨W2, g, b, d1, d2, d3, d4, d5, d6⟩ := down_ok o hl s2 (by omega) (show n ≤ n + 1 by omega) (Nat.zero_le n) (heap_dn hh)
  have hg : g n = f 0 := by rw [d6 n (Nat.le_refl n), swp_r]
  obtain ⟨W3, lv', p1, p2, p3, p4⟩ := pPop_ok d2 hn
  rw [hg] at p1
  have main : Ok (containerheap_Pop omS (hpV q) W) fun r => r.1 = .iface 127 (enP (f 0)) ∧ r.2 = W3 := by
    unfold containerheap_Pop
    have e0 : (Value.int .i64 (0 : Int)) = .int .i64 ((0 : Nat) : Int) := rfl
    simp only [SX, iLen, pLen_ok h, sub1 n (by omega), iSwap, e0, s1, d1, iPop, p1, Ok_some]
    exact ⟨trivial, trivial⟩
  obtain ⟨⟨r, W'⟩, h1, h2, h3⟩ := main
  simp only at h2 h3
  subst h2; subst h3
  have hp1 : (all (n + 1) (swp f 0 n)).Perm (all (n + 1) f) := all_swp f (by omega) (by omega)
  refine ⟨_, lv', g, by rw [containerheap_Pop_om h1, gc_not rfl], p2, d4, ?_, by rw [p3, d3.next, s3.next], fun b hb ho => ?_⟩
  · refine .trans ?_ hp1
    rw [all_succ, swp_r]
    exact (List.perm_append_singleton _ _).symm.trans (d5.append (.refl _))
  · rw [p4 b hb fun hx => ho (.inl hx), d3.get b fun ho2 => ho (Own.perm hp1 ho2), s3.get b ho]
end
end Go.Proofs.Ytkpgmabebjmahaa
/- A queue and its methods. -/
namespace Go.Proofs.Ytkpgmabebjmahaa
open Go Go.Eng Go.Hp
set_option linter.unusedVariables false
set_option linter.unusedSimpArgs false
set_option linter.unusedSectionVars false
set_option maxRecDepth 100000
theorem u24 : Try.prog.underlying 24 = some (.pointer 109) := by kernel_rfl
theorem u107 : Try.prog.underlying 107 = some (.map 2 127) := by kernel_rfl
theorem u2 : Try.prog.underlying 2 = some (.int .i64) := by kernel_rfl
theorem pNe (a : Addr) (c d : Bool) (W : AW) : oBin Try.prog .neq 24 c d (.pointer (some a)) (.pointer none) W = some (.bool true, W) := by
  unfold oBin aBin aEql; simp only [u24]; rfl
theorem pEq (a : Addr) (c d : Bool) (W : AW) : oBin Try.prog .eql 24 c d (.pointer (some a)) (.pointer none) W = some (.bool false, W) := by
  unfold oBin aBin aEql; simp only [u24]
theorem mNe (m : Nat) (c d : Bool) (W : AW) : oBin Try.prog .neq 107 c d (.map (some m)) (.map none) W = some (.bool true, W) := by
  unfold oBin aBin aEql; simp only [u107]; rfl
theorem bd132 (h v : Int) (W : AW) : oBuild Try.prog 132 [(0, .int .i64 h), (1, .int .i64 v)] W = some (.agg #[.int .i64 h, .int .i64 v, .int .i64 0], W) := Eq.trans (by kernel_rfl) rfl
section
variable {W : AW} {q : Nat} {lv less c2 c3 : Value} {n : Nat} {f : Nat → En} {bl : Option Nat} {ls : Int → Int → Bool}
theorem QP.keep {W W' : AW} (h : QP W q lv less c2 c3 n f bl) (hn : W.next ≤ W'.next) (hg : ∀ b, b < W.next → b = q ∨ Own n f bl b → W'.get b = W.get b) : QP W' q lv less c2 c3 n f bl := by
  obtain ⟨hqc, hql, ⟨hsl, hen, hinj⟩, hbq, heq⟩ := h
  refine ⟨by rw [hg q hql (.inl rfl)]; exact hqc, by omega, ⟨hsl.keep hn fun b hb => hg b (hsl.lt hb) (.inr (.inl hb)), fun i hi => ?_, hinj⟩, hbq, heq⟩
  have := (hen i hi).2
  exact ⟨by rw [hg _ this (.inr (.inr ⟨i, hi, rfl⟩))]; exact (hen i hi).1, by omega⟩
theorem QP.turn {c3' : Value} (h : QP W q lv less c2 c3 n f bl) : QP (W.put q (.cells [lv, less, c2, c3'])) q lv less c2 c3' n f bl := by
  obtain ⟨hqc, hql, ⟨hsl, hen, hinj⟩, hbq, heq⟩ := h
  refine ⟨AW.get_put _ _ _, by rw [AW.put_next]; exact hql, ⟨hsl.keep (by rw [AW.put_next]; omega) fun b hb => AW.get_put_ne _ _ (fun e => hbq (by rw [hb, e])), fun i hi => ?_, hinj⟩, hbq, heq⟩
  rw [AW.get_put_ne _ _ (Ne.symm (heq i hi)), AW.put_next]
  exact hen i hi
end
/-- a queue of n entries -/
structure QS (W : AW) (In : Nat → Prop) (q mh : Nat) (less : Value) (ls : Int → Int → Bool) (nx : Int) (n : Nat) (f : Nat → En) : Prop where
  ex : ∃ lv bl, QP W q lv less (.map (some mh)) (.int .i64 nx) n f bl ∧ bl ≠ some mh ∧ ∀ b, Own n f bl b → In b
  ml : mh < W.next
  mq : mh ≠ q
  me : ∀ i, i < n → (f i).b ≠ mh
  iq : In q
  im : In mh
  hp : Heap (bef ls) n f
  mp : ∃ m, MapV W mh m n ∧ (∀ i, i < n → m (f i).h = some (enP (f i))) ∧ ∀ k v, m k = some v → ∃ i, i < n ∧ (f i).h = k ∧ v = enP (f i)
  hd : ∀ i, i < n → 1 ≤ (f i).h ∧ (f i).h < nx
  nx1 : 1 ≤ nx
/-- what changes lies in In -/
structure Gr (W W' : AW) (In : Nat → Prop) : Prop where
  next : W.next ≤ W'.next
  get : ∀ b, b < W.next → ¬ In b → W'.get b = W.get b
theorem Gr.refl (W : AW) (In : Nat → Prop) : Gr W W In := ⟨Nat.le_refl _, fun _ _ _ => rfl⟩
theorem Gr.trans {A B C : AW} {In : Nat → Prop} (h : Gr A B In) (k : Gr B C In) : Gr A C In := ⟨Nat.le_trans h.next k.next, fun b hb hi => (k.get b (Nat.lt_of_lt_of_le hb h.next) hi).trans (h.get b hb hi)⟩
section
variable {W : AW} {In : Nat → Prop} {q mh : Nat} {less : Value} {ls : Int → Int → Bool} {nx : Int} {n : Nat} {f : Nat → En}
theorem QS.keep {W W' : AW} {In' : Nat → Prop} (h : QS W In q mh less ls nx n f) (hn : W.next ≤ W'.next) (hg : ∀ b, b < W.next → In b → W'.get b = W.get b) (hi : ∀ b, b < W.next → In b → In' b) : QS W' In' q mh less ls nx n f := by
  obtain ⟨⟨lv, bl, h1, h2, h3⟩, ml, mq, me, iq, im, hp, ⟨m, m1, m2⟩, hd, nx1⟩ := h
  refine ⟨⟨lv, bl, h1.keep hn fun b hb ho => hg b hb ?_, h2, fun b hb => hi b ?_ (h3 b hb)⟩, by omega, mq, me, hi q h1.lt iq, hi mh ml im, hp, ⟨m, m1.keep (hg mh ml im), m2⟩, hd, nx1⟩
  · rcases ho with rfl | ho
    · exact iq
    · exact h3 b ho
  · rcases hb with hb | ⟨i, hi', rfl⟩
    · exact h1.pile.sl.lt hb
    · exact (h1.pile.en i hi').2
theorem QS.back {W W' : AW} (h : QS W' In q mh less ls nx n f) (hn : W'.next = W.next) (hle : Le W W') : QS W In q mh less ls nx n f :=
  h.keep (by omega) (fun b hb _ => (hle.get b (by omega)).symm) fun _ _ hb => hb
abbrev qV (q : Nat) : Value := .pointer (some ⟨q, 0, none⟩)
theorem made_ok (h : QS W In q mh less ls nx n f) : omS (.func (.func 54) #[] #[]) [qV q] W = some (.bool true, W) := by
  obtain ⟨⟨lv, bl, h1, h2, h3⟩, -⟩ := h
  refine om_drop rfl ?_ heaps_Queueint_made_om
  unfold heaps_Queueint_made
  simp only [SX, pNe, oNilCheck_ptr, Nat.zero_add, h1.l2, mNe, Ok_some]
  exact ⟨trivial, .refl _⟩
theorem qLen_ok (h : QS W In q mh less ls nx n f) : omS (.func (.func 16) #[] #[]) [qV q] W = some (.int .i64 (n : Int), W) := by
  have hm := made_ok h
  obtain ⟨⟨lv, bl, h1, h2, h3⟩, -⟩ := h
  refine om_drop rfl ?_ heaps_Queueint_Len_om
  unfold heaps_Queueint_Len
  simp only [SX, hm, oNilCheck_ptr, Nat.zero_add, h1.l0, h1.pile.len, Ok_some]
  exact ⟨trivial, .refl _⟩
theorem peek0_ok (h : QS W In q mh less ls nx 0 f) : omS (.func (.func 51) #[] #[]) [qV q] W = some (.tuple #[.int .i64 0, .int .i64 0, .int .i64 4], W) := by
  have hm := made_ok h
  obtain ⟨⟨lv, bl, h1, h2, h3⟩, -⟩ := h
  refine om_drop rfl ?_ heaps_Queueint_Peek_om
  unfold heaps_Queueint_Peek
  have e0 : (((0 : Nat) : Int) = 0) := rfl
  simp only [SX, hm, oNilCheck_ptr, Nat.zero_add, h1.l0, h1.pile.len, e0, Ok_some]
  exact ⟨trivial, .refl _⟩
theorem peek_ok (h : QS W In q mh less ls nx n f) (hn : 0 < n) : omS (.func (.func 51) #[] #[]) [qV q] W = some (.tuple #[.int .i64 (f 0).h, .int .i64 (f 0).v, .int .i64 0], W) := by
  have hm := made_ok h
  obtain ⟨⟨lv, bl, h1, h2, h3⟩, -⟩ := h
  refine om_drop rfl ?_ heaps_Queueint_Peek_om
  unfold heaps_Queueint_Peek
  have e0 : ¬ ((n : Int) = 0) := by omega
  obtain ⟨b, -, g1, g2⟩ := h1.pile.get hn
  have g1' : ∀ W' k, ixS 1 lv (.int k 0) W' = some (.pointer (some ⟨b, 0, none⟩), W') := g1
  obtain ⟨c1, c2⟩ := h1.pile.cell hn
  simp only [SX, hm, oNilCheck_ptr, Nat.zero_add, h1.l0, h1.pile.len, e0, g1', g2, c1, c2, Ok_some]
  exact ⟨trivial, .refl _⟩
theorem qPop0_ok (h : QS W In q mh less ls nx 0 f) : omS (.func (.func 15) #[] #[]) [qV q] W = some (.tuple #[.int .i64 0, .int .i64 0, .int .i64 4], W) := by
  refine om_drop rfl ?_ heaps_Queueint_Pop_om
  unfold heaps_Queueint_Pop
  have e4 : ¬ ((4 : Int) = 0) := by omega
  simp only [SX, peek0_ok h, e4, Ok_some]
  exact ⟨trivial, .refl _⟩
theorem qPop_ok (o : Ord (bef ls)) (hl : IsLess less ls) (h : QS W In q mh less ls nx (n + 1) f) (hn : n ≤ 10000) :
    ∃ W' g, omS (.func (.func 15) #[] #[]) [qV q] W = some (.tuple #[.int .i64 (f 0).h, .int .i64 (f 0).v, .int .i64 0], W') ∧ QS W' In q mh less ls nx n g ∧ (f 0 :: all n g).Perm (all (n + 1) f) ∧ W'.next = W.next ∧ Gr W W' In := by
  have hpk := peek_ok h (by omega)
  have main : Ok (heaps_Queueint_Pop omS (qV q) W) fun r => r.1 = .tuple #[.int .i64 (f 0).h, .int .i64 (f 0).v, .int .i64 0] ∧ ∃ g, QS r.2 In q mh less ls nx n g ∧ (f 0 :: all n g).Perm (all (n + 1) f) ∧ r.2.next = W.next ∧ Gr W r.2 In := by
    obtain ⟨⟨lv, bl, h1, h2, h3⟩, ml, mq, me, iq, im, hp, ⟨m, m1, m2, m3⟩, hd, nx1⟩ := h
    obtain ⟨W1, lv', g, p1, p2, p3, p4, p5, p6⟩ := hPop_ok o hl h1 hp hn
    have hmem : ∀ i, i < n → ∃ k, k < n + 1 ∧ f k = g i := fun i hi => all_mem.1 (p4.mem_iff.1 (List.mem_cons_of_mem _ (all_mem.2 ⟨i, hi, rfl⟩)))
    have hown : ∀ b, Own n g bl b → Own (n + 1) f bl b := fun b hb => by
      rcases hb with hb | ⟨i, hi, rfl⟩
      · exact .inl hb
      · obtain ⟨k, hk, e⟩ := hmem i hi
        exact .inr ⟨k, hk, by rw [e]⟩
    have hmo : ¬ Own (n + 1) f bl mh := fun ho => by
      rcases ho with ho | ⟨i, hi, ho⟩
      · exact h2 ho
      · exact me i hi ho
    have m1' := m1.keep (p6 mh mq hmo)
    obtain ⟨es, c, d1, d2⟩ := mapV_del m1' u107 u2 [2] (f 0).h
    rw [m2 0 (by omega)] at d2
    simp only [Option.isSome_some, if_true, Nat.add_sub_cancel] at d2
    have dd : oBuiltin Try.prog .delete #[107, 2] 0 #[false, false] [.map (some mh), .int .i64 (f 0).h] W1 = some (.tuple #[], W1.put mh (.map es c)) := by
      show (aDelete Try.prog W1 #[107, 2] (.map (some mh)) (.int .i64 (f 0).h)).map _ = _
      have : (#[107, 2] : Array TypeId) = (107 :: [2]).toArray := rfl
      rw [this, d1]; rfl
    unfold heaps_Queueint_Pop
    simp only [SX, hpk, oNilCheck_ptr, Nat.zero_add, ki103, p1, p2.l2, dd, Ok_some]
    refine ⟨trivial, g, ⟨⟨lv', bl, p2.keep (by rw [AW.put_next]; omega) fun b hb ho => AW.get_put_ne _ _ fun e => ?_, h2, fun b hb => h3 b (hown b hb)⟩, by rw [AW.put_next, p5]; exact ml, mq, fun i hi => ?_, iq, im, p3, ⟨_, d2, fun i hi => ?_, fun k v hk => ?_⟩, fun i hi => ?_, nx1⟩, p4, by rw [AW.put_next, p5], by rw [AW.put_next]; omega, fun b hb hi => ?_⟩
    · subst e
      rcases ho with ho | ho
      · exact mq ho
      · exact hmo (hown _ ho)
    · obtain ⟨k, hk, e⟩ := hmem i hi
      rw [← e]; exact me k hk
    · have hne : ¬ (g i).h = (f 0).h := fun e => by
        obtain ⟨k, hk, ek⟩ := hmem i hi
        have a1 := m2 k hk
        rw [ek, e, m2 0 (by omega)] at a1
        injection a1 with a1
        have a2 : (f 0).b = (g i).b := by injection a1 with a1; injection a1 with a1; injection a1
        have hnd : ((f 0).b :: (all n g).map (·.b)).Nodup := by
          have := (p4.map (·.b)).nodup_iff.2 ?_
          · exact this
          · unfold all
            rw [List.map_map, List.nodup_iff_pairwise_ne, List.pairwise_map]
            refine List.nodup_range.imp_of_mem fun {a b} ha hb hab e => hab (h1.pile.inj a b (List.mem_range.1 ha) (List.mem_range.1 hb) e)
        exact (List.nodup_cons.1 hnd).1 (List.mem_map.2 ⟨g i, all_mem.2 ⟨i, hi, rfl⟩, a2.symm⟩)
      obtain ⟨k, hk, ek⟩ := hmem i hi
      rw [if_neg hne, ← ek]
      exact m2 k hk
    · by_cases hk0 : k = (f 0).h
      · rw [if_pos hk0] at hk; cases hk
      · rw [if_neg hk0] at hk
        obtain ⟨i, hi, e1, e2⟩ := m3 k v hk
        have := p4.mem_iff.2 (all_mem.2 ⟨i, hi, rfl⟩)
        rcases List.mem_cons.1 this with e | hm
        · rw [e] at e1; exact absurd e1.symm hk0
        · obtain ⟨j, hj, e⟩ := all_mem.1 hm
          exact ⟨j, hj, by rw [e]; exact e1, by rw [e]; exact e2⟩
    · obtain ⟨k, hk, e⟩ := hmem i hi
      rw [← e]; exact hd k hk
    · rw [AW.get_put_ne _ _ (fun e => hi (by rw [← e]; exact im))]
      exact p6 b (fun e => hi (by rw [e]; exact iq)) fun ho => hi (h3 b ho)
  obtain ⟨⟨r, W'⟩, h1, h2, g, h3, h4, h5, h6⟩ := main
  simp only at h2 h3 h4 h5 h6
  subst h2
  rcases gc_two (W := W) (W' := W') (.tuple #[.int .i64 (f 0).h, .int .i64 (f 0).v, .int .i64 0]) with hg | ⟨hg, hle⟩
  · exact ⟨W', g, by rw [heaps_Queueint_Pop_om h1, hg], h3, h4, h5, h6⟩
  · exact ⟨W, g, by rw [heaps_Queueint_Pop_om h1, hg], h3.back h5 hle, h4, rfl, .refl _ _⟩
end
end Go.Proofs.Ytkpgmabebjmahaa
/- A queue: New and Push. -/
namespace Go.Proofs.Ytkpgmabebjmahaa
open Go Go.Eng Go.Hp
set_option linter.unusedVariables false
set_option linter.unusedSimpArgs false
set_option linter.unusedSectionVars false
set_option maxRecDepth 100000
theorem u26b : (match Try.prog.underlying 26 with | some (.func _ _ _) => true | _ => false) = true := by kernel_rfl
theorem u26 : ∃ a b c, Try.prog.underlying 26 = some (.func a b c) := by
  have h := u26b
  split at h
  · rename_i a b c e; exact ⟨a, b, c, e⟩
  · cases h
theorem fNil (k : Nat) (W : AW) : oBin Try.prog .eql 26 false true (.func (.func k) #[] #[]) .nilFunc W = some (.bool false, W) := by
  obtain ⟨a, b, c, h⟩ := u26
  unfold oBin aBin aEql; simp only [h]
theorem bd106 (k : Nat) (W : AW) : oBuild Try.prog 106 [(1, .func (.func k) #[] #[])] W = some (.agg #[.slice none 0 0, .func (.func k) #[] #[]], W) := Eq.trans (by kernel_rfl) rfl
theorem bd109 (k m : Nat) (W : AW) : oBuild Try.prog 109 [(0, .agg #[.slice none 0 0, .func (.func k) #[] #[]]), (1, .map (some m)), (2, .int .i64 1)] W = some (.agg #[.slice none 0 0, .func (.func k) #[] #[], .map (some m), .int .i64 1], W) := Eq.trans (by kernel_rfl) rfl
theorem oBox4 (a b c d : Value) (W : AW) : oBox (.agg #[a, b, c, d]) W = some (.pointer (some ⟨W.next, 0, none⟩), W.add (.cells [a, b, c, d])) := oBox_agg _
theorem oBox3 (a b c : Value) (W : AW) : oBox (.agg #[a, b, c]) W = some (.pointer (some ⟨W.next, 0, none⟩), W.add (.cells [a, b, c])) := oBox_agg _
theorem mkM (W : AW) : oMkMap Try.prog 107 none W = some (.map (some W.next), W.add (.map [] 0)) := rfl
theorem new_ok {In : Nat → Prop} {W : AW} (hi : ∀ b, W.next ≤ b → In b) (k : Nat) (ls : Int → Int → Bool) (f : Nat → En) : ∃ W' q mh, omS (.func (.func 38) #[] #[]) [.func (.func k) #[] #[]] W = some (qV q, W') ∧ QS W' In q mh (.func (.func k) #[] #[]) ls 1 0 f ∧ Gr W W' In := by
  have main : heaps_Newint omS (.func (.func k) #[] #[]) W = some (qV (W.next + 1), (W.add (.map [] 0)).add (.cells [.slice none 0 0, .func (.func k) #[] #[], .map (some W.next), .int .i64 1])) := by
    unfold heaps_Newint
    simp only [SX, fNil, bd106, mkM, bd109, oBox4]
    rfl
  have e := heaps_Newint_om main
  rw [gc_not rfl] at e
  refine ⟨_, W.next + 1, W.next, e, ⟨⟨.slice none 0 0, none, ⟨by rw [← AW.add_next W (.map [] 0)]; exact AW.get_add _ _, by simp only [AW.add_next]; omega, ⟨.nil rfl, fun i hi => by omega, fun i j hi => by omega⟩, by simp, fun i hi => by omega⟩, by simp, fun b hb => ?_⟩, by simp only [AW.add_next]; omega, by omega, fun i hi => by omega, hi _ (by omega), hi _ (by omega), fun k _ hk => by omega, ⟨_, mapV_new.keep (AW.get_add_ne _ _ (by rw [AW.add_next]; omega)), fun i hi => by omega, fun k v hk => by cases hk⟩, fun i hi => by omega, by omega⟩, by simp only [AW.add_next]; omega, fun b hb _ => ?_⟩
  · rcases hb with hb | ⟨i, hi, -⟩
    · cases hb
    · omega
  · rw [AW.get_add_ne _ _ (by rw [AW.add_next]; omega), AW.get_add_ne _ _ (by omega)]
section
variable {W : AW} {In : Nat → Prop} {q mh : Nat} {less : Value} {ls : Int → Int → Bool} {nx : Int} {n : Nat} {f : Nat → En}
theorem qPush_ok (o : Ord (bef ls)) (hl : IsLess less ls) (h : QS W In q mh less ls nx n f) (hn : n < 5000) (hnx : nx < 1000000000000000) (hi : ∀ b, W.next ≤ b → In b) (v : Int) :
    ∃ W' g, omS (.func (.func 25) #[] #[]) [qV q, .int .i64 v] W = some (.tuple #[.int .i64 nx, .int .i64 0], W') ∧ QS W' In q mh less ls (nx + 1) (n + 1) g ∧ (all (n + 1) g).Perm (⟨W.next, nx, v⟩ :: all n f) ∧ Gr W W' In := by
  have hm := made_ok h
  have main : Ok (heaps_Queueint_Push omS (qV q) (.int .i64 v) W) fun r => r.1 = .tuple #[.int .i64 nx, .int .i64 0] ∧ (∃ g, QS r.2 In q mh less ls (nx + 1) (n + 1) g ∧ (all (n + 1) g).Perm (⟨W.next, nx, v⟩ :: all n f) ∧ Gr W r.2 In) ∧ r.2.get q ≠ W.get q ∧ q < W.next := by
    obtain ⟨⟨lv, bl, h1, h2, h3⟩, ml, mq, me, iq, im, hp, ⟨m, m1, m2, m3⟩, hd, nx1⟩ := h
    have e1 : ¬ (5000 ≤ (n : Int)) := by omega
    have e2 : ¬ (1000000000000000 ≤ nx) := by omega
    have e3 := fun W' => oBin_add (P := Try.prog) (W := W') (t := 2) (c := false) (d := true) (a := nx) (b := 1) (by omega) (by omega)
    unfold heaps_Queueint_Push
    generalize hW1 : W.add (.cells [.int .i64 nx, .int .i64 v, .int .i64 0]) = W1
    have g1 : ∀ b, b < W.next → W1.get b = W.get b := fun b hb => by rw [← hW1]; exact AW.get_add_ne _ _ (by omega)
    have n1 : W1.next = W.next + 1 := by rw [← hW1, AW.add_next]
    have ge1 : W1.get W.next = some (.cells [.int .i64 nx, .int .i64 v, .int .i64 0]) := by rw [← hW1]; exact AW.get_add _ _
    have q1 : QP W1 q lv less (.map (some mh)) (.int .i64 nx) n f bl := h1.keep (by omega) fun b hb _ => g1 b hb
    have s1 := stA (v := .int .i64 (nx + 1)) (o := 3) q1.qc (by simp) rfl rfl
    rw [show ([lv, less, .map (some mh), .int .i64 nx] : List Value).set 3 (.int .i64 (nx + 1)) = [lv, less, .map (some mh), .int .i64 (nx + 1)] from rfl] at s1
    have q2 := q1.turn (c3' := .int .i64 (nx + 1))
    generalize hW2 : W1.put q (.cells [lv, less, .map (some mh), .int .i64 (nx + 1)]) = W2 at s1 q2
    have g2 : ∀ b, b ≠ q → W2.get b = W1.get b := fun b hb => by rw [← hW2]; exact AW.get_put_ne _ _ (Ne.symm hb)
    have n2 : W2.next = W.next + 1 := by rw [← hW2, AW.put_next, n1]
    have hqn : W.next ≠ q := by have := h1.lt; omega
    have ge2 : W2.get W.next = some (.cells [.int .i64 nx, .int .i64 v, .int .i64 0]) := (g2 _ hqn).trans ge1
    have m1' : MapV W2 mh m n := m1.keep (by rw [g2 _ mq, g1 _ ml])
    obtain ⟨es, c, d1, d2⟩ := mapV_set m1' u107 u2 nx (.pointer (some ⟨W.next, 0, none⟩))
    have hmn : m nx = none := by
      cases hx : m nx with
      | none => rfl
      | some v =>
        obtain ⟨i, hi, e, -⟩ := m3 nx v hx
        have := (hd i hi).2
        omega
    rw [hmn] at d2
    simp only [Option.isSome_none, Bool.false_eq_true, if_false] at d2
    generalize hW3 : W2.put mh (.map es c) = W3 at d1 d2
    have g3 : ∀ b, b ≠ mh → W3.get b = W2.get b := fun b hb => by rw [← hW3]; exact AW.get_put_ne _ _ (Ne.symm hb)
    have n3 : W3.next = W.next + 1 := by rw [← hW3, AW.put_next, n2]
    have hown : ∀ b, Own n f bl b → b < W.next := fun b hb => by
      rcases hb with hb | ⟨i, hi, rfl⟩
      · exact h1.pile.sl.lt hb
      · exact (h1.pile.en i hi).2
    have q3 : QP W3 q lv less (.map (some mh)) (.int .i64 (nx + 1)) n f bl := q2.keep (by omega) fun b hb ho => g3 b fun e => by
      subst e
      rcases ho with ho | ho | ⟨i, hi, ho⟩
      · exact mq ho
      · exact h2 ho
      · exact me i hi ho
    have ge3 : W3.get W.next = some (.cells [.int .i64 nx, .int .i64 v, .int .i64 0]) := (g3 _ (by omega)).trans ge2
    obtain ⟨W4, lv', b', g, p1, p2, p3, p4, p5, p6, p7⟩ := hPush_ok (e := ⟨W.next, nx, v⟩) o hl q3 hp (by omega) ge3 (by rw [n3]; exact Nat.lt_succ_self _) hqn (fun e => by have := hown _ (.inl e); simp at this) (fun i hi e => by have := (h1.pile.en i hi).2; simp only at e; omega)
    obtain ⟨j, hj, ej⟩ := all_mem.1 (p4.mem_iff.2 (List.mem_cons_self ..))
    have l4 : ldC (.pointer (some ⟨W.next, 0, none⟩)) W4 = some (.int .i64 nx, W4) := by
      have := (p2.pile.cell hj).1
      rw [ej] at this; exact this
    simp only [SX, hm, oNilCheck_ptr, Nat.zero_add, h1.l0, h1.l3, h1.pile.len, e1, e2, bd132, oBox3, hW1, q1.l3, e3, s1, q2.l2, ldR (o := 0) (rwOf ge2) rfl, d1, ki103, ki127, p1, l4, Ok_some]
    have hmem : ∀ i, i < n + 1 → g i = ⟨W.next, nx, v⟩ ∨ ∃ k, k < n ∧ f k = g i := fun i hi => by
      rcases List.mem_cons.1 (p4.mem_iff.1 (all_mem.2 ⟨i, hi, rfl⟩)) with e | e
      · exact .inl e
      · exact .inr (all_mem.1 e)
    have q4 : W4.get q = some (.cells [lv', less, .map (some mh), .int .i64 (nx + 1)]) := p2.qc
    refine ⟨trivial, ⟨g, ⟨⟨lv', some b', p2, fun e => by injection e with e; omega, fun b hb => ?_⟩, by omega, mq, fun i hi' => ?_, iq, im, p3, ⟨_, d2.keep (p7 mh (by omega) mq (by simp only; omega) fun ho => ?_), fun i hi' => ?_, fun k v' hk => ?_⟩, fun i hi' => ?_, by omega⟩, p4, by omega, fun b hb hni => ?_⟩, ?_, h1.lt⟩
    · rcases hb with hb | ⟨i, hi', rfl⟩
      · injection hb with hb
        exact hi b (by omega)
      · rcases hmem i hi' with e | ⟨k, hk, e⟩
        · rw [e]; exact hi _ (Nat.le_refl _)
        · rw [← e]; exact h3 _ (.inr ⟨k, hk, rfl⟩)
    · rcases hmem i hi' with e | ⟨k, hk, e⟩
      · rw [e]; simp only; omega
      · rw [← e]; exact me k hk
    · rcases ho with ho | ⟨i, hi', ho⟩
      · exact h2 ho
      · exact me i hi' ho
    · rcases hmem i hi' with e | ⟨k, hk, e⟩
      · rw [e, if_pos rfl]
      · have := (hd k hk).2
        rw [← e, if_neg (by omega)]
        exact m2 k hk
    · by_cases hk0 : k = nx
      · rw [if_pos hk0] at hk
        injection hk with hk
        exact ⟨j, hj, by rw [ej, hk0], by rw [ej, ← hk]⟩
      · rw [if_neg hk0] at hk
        obtain ⟨i, hi', x1, x2⟩ := m3 k v' hk
        obtain ⟨i2, hi2, x3⟩ := all_mem.1 (p4.mem_iff.2 (List.mem_cons_of_mem _ (all_mem.2 ⟨i, hi', rfl⟩)))
        exact ⟨i2, hi2, by rw [x3]; exact x1, by rw [x3]; exact x2⟩
    · rcases hmem i hi' with e | ⟨k, hk, e⟩
      · rw [e]; simp only; omega
      · have := hd k hk
        rw [← e]; omega
    · rw [p7 b (by omega) (fun e => hni (by rw [e]; exact iq)) (by simp only; omega) (fun ho => hni (h3 b ho)), g3 b (fun e => hni (by rw [e]; exact im)), g2 b (fun e => hni (by rw [e]; exact iq)), g1 b hb]
    · rw [q4, h1.qc]
      intro e
      injection e with e; injection e with e
      injection e with _ e; injection e with _ e; injection e with _ e; injection e with e _; injection e with _ e
      omega
  obtain ⟨⟨r, W'⟩, h1, h2, ⟨g, h3⟩, h4, h5⟩ := main
  simp only at h2 h3 h4 h5
  subst h2
  rcases gc_two (W := W) (W' := W') (.tuple #[.int .i64 nx, .int .i64 0]) with hg | ⟨hg, hle⟩
  · exact ⟨W', g, by rw [heaps_Queueint_Push_om h1, hg], h3⟩
  · exact absurd (hle.get q h5) h4
end
end Go.Proofs.Ytkpgmabebjmahaa
/- The law's orders, its queue, and what it has seen. -/
namespace Go.Proofs.Ytkpgmabebjmahaa
open Go Go.Eng Go.Hp
set_option linter.unusedVariables false
set_option linter.unusedSimpArgs false
set_option linter.unusedSectionVars false
set_option maxRecDepth 100000
theorem max0_ok (a b : Int) (W : AW) : oBuiltin Try.prog .max #[3, 3] 3 #[false, true] [.int .i64 a, .int .i64 b] W = some (.int .i64 (max a b), W) := by
  have e : oBuiltin Try.prog .max #[3, 3] 3 #[false, true] [.int .i64 a, .int .i64 b] W = (pureS Try.prog ([Value.int .i64 a, .int .i64 b].all plain) (builtin .max #[3, 3] 3 #[false, true] #[.int .i64 a, .int .i64 b])).map fun v => (v, W) := by
    unfold oBuiltin
    rfl
  rw [e]
  have e2 : builtin .max #[3, 3] 3 #[false, true] #[.int .i64 a, .int .i64 b] = (do pure (.value (← Builtin.max_ #[3, 3] 3 #[.int .i64 a, .int .i64 b]))) := rfl
  rw [e2]
  refine pureV ?_ rfl _ rfl
  unfold Builtin.max_
  simp only [List.foldlM_cons, List.foldlM_nil, pureRun_bind, Builtin.max2, pureRun_pure, Option.bind_some]
  congr 2
  split <;> omega
/-- an order by a number -/
def byK (kf : Int → Int) (a b : Int) : Bool := decide (kf a < kf b)
theorem byK_ord (kf : Int → Int) : Ord (bef (byK kf)) := by
  refine ⟨fun a b h => ?_, fun a b c h1 h2 => ?_⟩
  · simp only [bef, byK, Bool.or_eq_true, Bool.and_eq_true, Bool.not_eq_true', decide_eq_true_eq, decide_eq_false_iff_not, Bool.or_eq_false_iff, Bool.and_eq_false_imp] at *
    omega
  · simp only [bef, byK, Bool.or_eq_true, Bool.and_eq_true, Bool.not_eq_true', decide_eq_true_eq, decide_eq_false_iff_not, Bool.or_eq_false_iff, Bool.and_eq_false_imp] at *
    omega
def tenK (a : Int) : Int := -((max a 0).tmod 10)
theorem less_ok : IsLess (.func (.func 35) #[] #[]) (byK id) := fun a b W => by
  refine om_drop rfl ?_ law06_less_om
  unfold law06_less
  simp only [SX, Ok_some]
  exact ⟨rfl, .refl _⟩
theorem tens_ok : IsLess (.func (.func 52) #[] #[]) (byK tenK) := fun a b W => by
  refine om_drop rfl ?_ law06_tens_om
  unfold law06_tens
  have e : ∀ x W, oBin Try.prog .rem 3 false true (.int .i64 x) (.int .i64 10) W = some (.int .i64 (x.tmod 10), W) := fun x W => oBin_rem (by omega)
  simp only [SX, max0_ok, e, Ok_some]
  refine ⟨?_, .refl _⟩
  unfold byK tenK
  congr 1
  simp
/-- the order that a kind names -/
def kfOf (k : Int) : Int → Int := if k.tmod 2 = 1 then tenK else id
def lsN (k : Int) : Nat := if k.tmod 2 = 1 then 52 else 35
theorem order_ok (k : Int) (W : AW) : omS (.func (.func 14) #[] #[]) [.int .u8 k] W = some (.func (.func (lsN k)) #[] #[], W) := by
  have main : law06_order omS (.int .u8 k) W = some (.func (.func (lsN k)) #[] #[], W) := by
    unfold law06_order lsN
    have e : oBin Try.prog .rem 5 false true (.int .u8 k) (.int .u8 2) W = some (.int .u8 (k.tmod 2), W) := oBin_rem (by omega)
    by_cases h : k.tmod 2 = 1
    · simp only [SX, e, h]
      rfl
    · simp only [SX, e, h]
      rfl
  rw [law06_order_om main, gc_not rfl]
theorem isLess_of (k : Int) : IsLess (.func (.func (lsN k)) #[] #[]) (byK (kfOf k)) := by
  unfold lsN kfOf
  by_cases h : k.tmod 2 = 1
  · rw [if_pos h, if_pos h]; exact tens_ok
  · rw [if_neg h, if_neg h]; exact less_ok
theorem QS.fresh {W : AW} {In : Nat → Prop} {q mh : Nat} {less : Value} {ls : Int → Int → Bool} {nx : Int} {n : Nat} {f : Nat → En} (h : QS W In q mh less ls nx n f) {i j : Nat} (hi : i < n) (hj : j < n) (e : (f i).h = (f j).h) : i = j := by
  obtain ⟨⟨lv, bl, h1, h2, h3⟩, ml, mq, me, iq, im, hp, ⟨m, m1, m2, m3⟩, hd, nx1⟩ := h
  have a1 := m2 i hi
  rw [e, m2 j hj] at a1
  injection a1 with a1
  injection a1 with a1; injection a1 with a1; injection a1 with a1
  exact h1.pile.inj i j hi hj a1.symm
/-- what a queue of these numbers holds -/
def idx (l : List Int) : List (Int × Int) := l.zipIdx.map fun p => (((p.2 + 1 : Nat) : Int), p.1)
theorem idx_take {l : List Int} {k : Nat} (hk : k < l.length) : idx (l.take (k + 1)) = idx (l.take k) ++ [(((k + 1 : Nat) : Int), l[k])] := by
  unfold idx
  rw [List.take_succ_eq_append_getElem hk, List.zipIdx_append, List.map_append]
  simp [List.length_take, Nat.min_eq_left (Nat.le_of_lt hk)]
theorem idx_mem {l : List Int} {h v : Int} (hm : (h, v) ∈ idx l) : ∃ i, ∃ hi : i < l.length, h = ((i + 1 : Nat) : Int) ∧ v = l[i] := by
  unfold idx at hm
  obtain ⟨⟨x, i⟩, h1, h2⟩ := List.mem_map.1 hm
  rw [List.mem_zipIdx_iff_getElem?] at h1
  obtain ⟨hi, h3⟩ := List.getElem?_eq_some_iff.1 h1
  injection h2 with h2 h4
  exact ⟨i, hi, h2.symm, h4.symm.trans h3.symm⟩
def hv (e : En) : Int × Int := (e.h, e.v)
theorem lenI : ((#[22] : Array TypeId)[0]?).bind Try.prog.underlying = some (.slice 3) := by kernel_rfl
theorem made1_ok {k : Int} {v : Value} {l : List Int} {W : AW} {In : Nat → Prop} (h : Ints W v l) (hl : l.length ≤ 300) (hi : ∀ b, W.next ≤ b ↔ In b) :
    ∃ W' q mh g, omS (.func (.func 13) #[] #[]) [.int .u8 k, v] W = some (qV q, W') ∧ QS W' In q mh (.func (.func (lsN k)) #[] #[]) (byK (kfOf k)) ((l.length : Int) + 1) l.length g ∧ ((all l.length g).map hv).Perm (idx l) ∧ Gr W W' In := by
  obtain ⟨W1, q, mh, n1, n2, n3⟩ := new_ok (W := W) (fun b hb => (hi b).1 hb) (lsN k) (byK (kfOf k)) fun _ => ⟨0, 0, 0⟩
  have main : Ok (law06_made omS (.int .u8 k) v W) fun r => r.1 = qV q ∧ ∃ g, QS r.2 In q mh (.func (.func (lsN k)) #[] #[]) (byK (kfOf k)) ((l.length : Int) + 1) l.length g ∧ ((all l.length g).map hv).Perm (idx l) ∧ Gr W r.2 In := by
    unfold law06_made
    have e1 : ¬ ((300 : Int) < (l.length : Int)) := by omega
    simp only [SX, order_ok, n1, pEq, h.len lenI, e1]
    refine Ok_loop l.length (by omega) (fun j R W' => ∃ g, R 1 = v ∧ R 5 = qV q ∧ R 6 = .int .i64 (j : Int) ∧ QS W' In q mh (.func (.func (lsN k)) #[] #[]) (byK (kfOf k)) ((j : Int) + 1) j g ∧ ((all j g).map hv).Perm (idx (l.take j)) ∧ Gr W W' In)
      (fun r => r.1 = .exit 0 ∧ r.2.1 5 = qV q ∧ ∃ g, QS r.2.2 In q mh (.func (.func (lsN k)) #[] #[]) (byK (kfOf k)) ((l.length : Int) + 1) l.length g ∧ ((all l.length g).map hv).Perm (idx l) ∧ Gr W r.2.2 In) ⟨_, rfl, rfl, rfl, n2, .refl _, n3⟩ ?_ ?_ ?_
    · rintro j R W' hj ⟨g, r1, r5, r6, hQ, hP, hG⟩
      unfold law06_made_L1
      have e2 : ((j : Int) < (l.length : Int)) := by omega
      have e3 := fun W' => oBin_add (P := Try.prog) (W := W') (t := 3) (c := false) (d := true) (a := (j : Int)) (b := 1) (by omega) (by omega)
      have h' : Ints W' v l := by
        refine h.mono ⟨hG.next, fun b hb => hG.get b hb fun hx => ?_⟩
        have := (hi b).2 hx
        omega
      obtain ⟨p, g1, g2⟩ := h'.get hj
      obtain ⟨W2, g', s1, s2, s3, s4⟩ := qPush_ok (byK_ord (kfOf k)) (isLess_of k) hQ (by omega) (by omega) (fun b hb => (hi b).1 (by have := hG.next; omega)) l[j]
      have e4 : ¬ ¬ ((0 : Int) = 0) := by simp
      simp only [SX, r1, r5, r6, h.len lenI, e2, g1, g2 _ (.refl _), s1, e3, Ok_some]
      refine .inl ⟨trivial, g', r1, r5, by rw [show ((j + 1 : Nat) : Int) = (j : Int) + 1 by omega]; rfl, s2, ?_, hG.trans s4⟩
      rw [idx_take hj]
      refine (s3.map hv).trans ?_
      rw [List.map_cons]
      refine (hP.cons _).trans ?_
      have : hv { b := W'.next, h := (j : Int) + 1, v := l[j] } = (((j + 1 : Nat) : Int), l[j]) := by unfold hv; simp
      rw [this]
      exact (List.perm_append_singleton _ _).symm
    · rintro R W' ⟨g, r1, r5, r6, hQ, hP, hG⟩
      unfold law06_made_L1
      have e2 : ¬ ((l.length : Int) < (l.length : Int)) := by omega
      simp only [SX, r1, r5, r6, h.len lenI, e2, Ok_some]
      rw [List.take_length] at hP
      exact ⟨by simp, trivial, r5, g, hQ, hP, hG⟩
    · rintro ⟨x, R, W'⟩ ⟨hx, r5, hq⟩
      simp only at hx r5 hq
      subst hx
      simp only [SX, r5, Ok_some]
      exact ⟨trivial, hq⟩
  obtain ⟨⟨r, W'⟩, h1, h2, g, h3⟩ := main
  simp only at h2 h3
  subst h2
  exact ⟨W', q, mh, g, by rw [law06_made_om h1, gc_not rfl], h3⟩
/-- a row of bools -/
def bR (n : Nat) (g : Nat → Bool) : List Value := (List.range n).map fun i => .bool (g i)
theorem bR_len (n : Nat) (g : Nat → Bool) : (bR n g).length = n := by simp [bR]
theorem bR_get {n : Nat} (g : Nat → Bool) {i : Nat} (h : i < n) : (bR n g)[i]? = some (.bool (g i)) := by
  unfold bR
  rw [List.getElem?_map, List.getElem?_range h]; rfl
theorem bR_set {n : Nat} (g : Nat → Bool) {i : Nat} (h : i < n) (b : Bool) : (bR n g).set i (.bool b) = bR n (fun j => if j = i then b else g j) := by
  apply List.ext_getElem?
  intro j
  by_cases hj : j < n
  · rw [bR_get _ hj, List.getElem?_set]
    by_cases e : i = j
    · subst e
      rw [if_pos rfl, if_pos (by rw [bR_len]; exact h), if_pos rfl]
    · rw [if_neg e, bR_get _ hj, if_neg (fun x => e x.symm)]
  · rw [List.getElem?_eq_none (by simp [bR_len]; omega), List.getElem?_eq_none (by simp [bR_len]; omega)]
theorem u28 : Try.prog.underlying 28 = some (.slice 4) := by kernel_rfl
theorem z4 : tZero Try.prog 4 = some (.bool false) := by kernel_rfl
theorem s4 : tSz Try.prog 4 = some 1 := by kernel_rfl
theorem b4 : (Try.prog.info? 4).map (·.bytes) = some 1 := by kernel_rfl
theorem rowL_bool (n : Nat) : rowL [.bool false] n = bR n fun _ => false := by
  apply List.ext_getElem?
  intro i
  by_cases h : i < n
  · rw [bR_get _ h, rowL_get _ _ _ (by simpa using h)]
    simp [Nat.mod_one]
  · rw [List.getElem?_eq_none (by rw [rowL_length]; simp; omega), List.getElem?_eq_none (by simp [bR_len]; omega)]
theorem mk28 {n : Nat} (h : n ≤ 10000) (W : AW) : oMkSlice Try.prog 28 (.int .i64 (n : Int)) (.int .i64 (n : Int)) W = some (.slice (some ⟨W.next, 0, none⟩) n n, W.add (.cells (bR n fun _ => false))) := by
  show oMkSlice Try.prog 28 (.int .i64 (Int.ofNat n)) (.int .i64 (Int.ofNat n)) W = _
  unfold oMkSlice
  have e := rowOf_eq (z := .bool false) (len := n) (n := 1) rfl
  have e2 : (rowOf (.bool false) (n * 1)).toList = bR n fun _ => false := by
    rw [e]; exact rowL_bool n
  simp only [u28, s4, z4, b4]
  have e3 : (bR n fun _ => false).all scalar = true := by
    unfold bR
    rw [List.all_map, List.all_eq_true]
    intro _ _
    rfl
  rw [e2, if_pos ⟨Nat.le_refl _, by omega, by omega, e3⟩]
end Go.Proofs.Ytkpgmabebjmahaa
/- The queue sorts: the code's answer. -/
namespace Go.Proofs.Ytkpgmabebjmahaa
open Go Go.Eng Go.Hp
set_option linter.unusedVariables false
set_option linter.unusedSimpArgs false
set_option linter.unusedSectionVars false
set_option maxRecDepth 100000
theorem wnt_undef (b : Bool) : wnt undef b = false := Eq.trans (by unfold wnt undef; rfl) rfl
theorem Gr.mono {W W' : AW} {A B : Nat → Prop} (h : Gr W W' A) (hs : ∀ b, A b → B b) : Gr W W' B := ⟨h.next, fun b hb hn => h.get b hb fun ha => hn (hs b ha)⟩
theorem Gr.le {W W' : AW} (h : Gr W W' fun b => W.next ≤ b) : Le W W' := ⟨h.next, fun b hb => h.get b hb (by omega)⟩
theorem hv_nodup {W : AW} {In : Nat → Prop} {q mh : Nat} {less : Value} {ls : Int → Int → Bool} {nx : Int} {n : Nat} {f g : Nat → En} (h : QS W In q mh less ls nx (n + 1) f) (hp : (f 0 :: all n g).Perm (all (n + 1) f)) : ∀ e, e ∈ all n g → e.h ≠ (f 0).h := by
  have hnd : ((f 0).h :: (all n g).map (·.h)).Nodup := by
    have := (hp.map (·.h)).nodup_iff.2 ?_
    · exact this
    · unfold all
      rw [List.map_map, List.nodup_iff_pairwise_ne, List.pairwise_map]
      exact List.nodup_range.imp_of_mem fun {a b} ha hb hab e => hab (h.fresh (List.mem_range.1 ha) (List.mem_range.1 hb) e)
  intro e he e2
  exact (List.nodup_cons.1 hnd).1 (List.mem_map.2 ⟨e, he, e2⟩)
theorem sorts_ok {k : Int} {v : Value} {l : List Int} {W : AW} (h : Ints W v l) : omS (.func (.func 3) #[] #[]) [.int .u8 k, v] W = some (.bool true, W) := by
  refine om_drop rfl ?_ law06_HeapsSorts_om
  unfold law06_HeapsSorts
  by_cases hl : 300 < l.length
  · have e1 : ((300 : Int) < (l.length : Int)) := by omega
    simp only [SX, h.len lenI, e1, awake_ok, Ok_some]
    exact ⟨trivial, .refl _⟩
  have e1 : ¬ ((300 : Int) < (l.length : Int)) := by omega
  obtain ⟨W1, q, mh, g0, n1, n2, n3, n4⟩ := made1_ok (k := k) (In := fun b => W.next ≤ b) h (by omega) fun b => Iff.rfl
  simp only [SX, h.len lenI, e1, n1, pEq, order_ok, mk28 (n := l.length) (by omega) W1]
  generalize hs : W1.next = s
  generalize hW2 : W1.add (.cells (bR l.length fun _ => false)) = W2
  have g2 : ∀ b, b < s → W2.get b = W1.get b := fun b hb => by rw [← hW2]; exact AW.get_add_ne _ _ (by omega)
  have x2 : W2.next = s + 1 := by rw [← hW2, AW.add_next, hs]
  have gs2 : W2.get s = some (.cells (bR l.length fun _ => false)) := by rw [← hW2, ← hs]; exact AW.get_add _ _
  have hWs : W.next ≤ s := by rw [← hs]; exact n4.next
  have Q2 : QS W2 (fun b => W.next ≤ b ∧ b ≠ s) q mh (.func (.func (lsN k)) #[] #[]) (byK (kfOf k)) ((l.length : Int) + 1) l.length g0 := n2.keep (by omega) (fun b hb _ => g2 b (by omega)) fun b hb hi => ⟨hi, by omega⟩
  have G2 : Gr W W2 fun b => W.next ≤ b := ⟨by omega, fun b hb hn => by rw [g2 b (by omega)]; exact n4.get b hb hn⟩
  have o := byK_ord (kfOf k)
  have hlk := isLess_of k
  refine Ok_loop l.length (by omega) (fun j R W' => ∃ m g sv last, j + m = l.length ∧ R 1 = v ∧ R 5 = qV q ∧ R 6 = .func (.func (lsN k)) #[] #[] ∧ R 7 = .slice (some ⟨s, 0, none⟩) l.length l.length ∧ R 8 = .int .i64 last.v ∧ R 9 = .int .i64 last.h ∧ R 10 = .int .i64 (j : Int) ∧
      QS W' (fun b => W.next ≤ b ∧ b ≠ s) q mh (.func (.func (lsN k)) #[] #[]) (byK (kfOf k)) ((l.length : Int) + 1) m g ∧ Gr W W' (fun b => W.next ≤ b) ∧ W'.get s = some (.cells (bR l.length sv)) ∧ s < W'.next ∧
      (∀ e, e ∈ all m g → (∃ i, ∃ hi : i < l.length, e.h = ((i + 1 : Nat) : Int) ∧ e.v = l[i] ∧ sv i = false) ∧ (0 < j → bef (byK (kfOf k)) e last = false)))
    (fun r => r.1 = .exit 0 ∧ r.2.1 5 = qV q ∧ ∃ g, QS r.2.2 (fun b => W.next ≤ b ∧ b ≠ s) q mh (.func (.func (lsN k)) #[] #[]) (byK (kfOf k)) ((l.length : Int) + 1) 0 g ∧ Gr W r.2.2 (fun b => W.next ≤ b))
    ⟨l.length, g0, _, ⟨0, 0, 0⟩, by omega, rfl, rfl, rfl, rfl, rfl, rfl, rfl, Q2, G2, gs2, by omega, fun e he => ⟨?_, fun hx => by omega⟩⟩ ?_ ?_ ?_
  · obtain ⟨i, hi, a1, a2⟩ := idx_mem (n3.mem_iff.1 (List.mem_map.2 ⟨e, he, rfl⟩))
    exact ⟨i, hi, a1, a2, rfl⟩
  · rintro j R W' hj ⟨m, g, sv, last, hjm, r1, r5, r6, r7, r8, r9, r10, hQ, hG, hS, hSn, hE⟩
    obtain ⟨m, rfl⟩ : ∃ m', m = m' + 1 := ⟨m - 1, by omega⟩
    unfold law06_HeapsSorts_L1
    obtain ⟨W3, g', p1, p2, p3, p4, p5⟩ := qPop_ok o hlk hQ (by omega)
    have h' : Ints W' v l := h.mono hG.le
    have hG3 : Gr W W3 fun b => W.next ≤ b := hG.trans ((p5.mono fun b hb => hb.1).mono fun b hb => hb)
    have h3 : Ints W3 v l := h.mono hG3.le
    obtain ⟨⟨i, hi, a1, a2, a3⟩, a4⟩ := hE (g 0) (all_mem.2 ⟨0, by omega, rfl⟩)
    obtain ⟨p, g1, g2'⟩ := h3.get hi
    have hS3 : W3.get s = some (.cells (bR l.length sv)) := by rw [p5.get s (by omega) (fun hx => hx.2 rfl)]; exact hS
    have b1 : ((j : Int) < (l.length : Int)) := by omega
    have b2 : ¬ (((i + 1 : Nat) : Int) < 1) := by omega
    have b3 : ¬ ((l.length : Int) < ((i + 1 : Nat) : Int)) := by omega
    have b4 : ∀ W t c d, oBin Try.prog .sub t c d (.int .i64 ((i + 1 : Nat) : Int)) (.int .i64 1) W = some (.int .i64 (i : Int), W) := fun W t c d => by
      rw [oBin_sub (by omega) (by omega)]; congr 3; omega
    have b5 : ∀ W kk, ixS 1 (.slice (some ⟨s, 0, none⟩) l.length l.length) (.int kk (i : Int)) W = some (.pointer (some ⟨s, i, none⟩), W) := fun W kk => by rw [ixS_ok hi, Nat.zero_add, Nat.mul_one]
    have b6 : ldC (.pointer (some ⟨s, i, none⟩)) W3 = some (.bool (sv i), W3) := ldR (rwOf hS3) (bR_get sv hi)
    rw [a3] at b6
    have b7 : ∀ W, oBin Try.prog .sub 3 false true (.int .i64 (l.length : Int)) (.int .i64 1) W = some (.int .i64 ((l.length : Int) - 1), W) := fun W => oBin_sub (by omega) (by omega)
    have b8 : ∀ W, oBin Try.prog .sub 3 false false (.int .i64 ((l.length : Int) - 1)) (.int .i64 (j : Int)) W = some (.int .i64 (m : Int), W) := fun W => by
      rw [oBin_sub (by omega) (by omega)]; congr 3; omega
    have b9 := stA (v := .bool true) (o := i) hS3 (by rw [bR_len]; exact hi) rfl rfl
    rw [bR_set sv hi] at b9
    have b10 := fun W' => oBin_add (P := Try.prog) (W := W') (t := 3) (c := false) (d := true) (a := (j : Int)) (b := 1) (by omega) (by omega)
    simp only [SX, r1, r5, r6, r7, r8, r9, r10, h'.len lenI, h3.len lenI, b1, p1, a1, a2, b2, b3, b4, b5, b6, g1, g2' _ (.refl _), qLen_ok p2, b7, b8, b9]
    generalize hW4 : W3.put s (.cells (bR l.length fun x => if x = i then true else sv x)) = W4
    have g4 : ∀ b, b ≠ s → W4.get b = W3.get b := fun b hb => by rw [← hW4]; exact AW.get_put_ne _ _ (Ne.symm hb)
    have n4 : W4.next = W3.next := by rw [← hW4, AW.put_next]
    have fin : (∃ m' g'' sv' last', j + 1 + m' = l.length ∧ Value.int .i64 l[i] = .int .i64 last'.v ∧ Value.int .i64 ((i + 1 : Nat) : Int) = .int .i64 last'.h ∧ QS W4 (fun b => W.next ≤ b ∧ b ≠ s) q mh (.func (.func (lsN k)) #[] #[]) (byK (kfOf k)) ((l.length : Int) + 1) m' g'' ∧ Gr W W4 (fun b => W.next ≤ b) ∧ W4.get s = some (.cells (bR l.length sv')) ∧ s < W4.next ∧
      (∀ e, e ∈ all m' g'' → (∃ i, ∃ hi : i < l.length, e.h = ((i + 1 : Nat) : Int) ∧ e.v = l[i] ∧ sv' i = false) ∧ (0 < j + 1 → bef (byK (kfOf k)) e last' = false))) := by
      refine ⟨m, g', _, g 0, by omega, by rw [a2], by rw [a1], p2.keep (by omega) (fun b hb hi => g4 b hi.2) (fun b hb hi => hi), ⟨by rw [n4]; exact hG3.next, fun b hb hn => by rw [g4 b (fun e => by subst e; omega)]; exact hG3.get b hb hn⟩, by rw [← hW4]; exact AW.get_put _ _ _, by omega, fun e he => ?_⟩
      have hem := p3.mem_iff.1 (List.mem_cons_of_mem (g 0) he)
      obtain ⟨⟨i', hi', c1, c2, c3⟩, -⟩ := hE e hem
      refine ⟨⟨i', hi', c1, c2, ?_⟩, fun _ => ?_⟩
      · have := hv_nodup hQ p3 e he
        rw [c1, a1] at this
        rw [if_neg (fun e => this (by rw [e]))]
        exact c3
      · obtain ⟨x, hx, ex⟩ := all_mem.1 hem
        rw [← ex]
        exact hQ.hp.first o x hx
    obtain ⟨m', g'', sv', last', d1, d2, d3, d4⟩ := fin
    by_cases hj0 : j = 0
    · subst hj0
      have c1 : ¬ ((0 : Int) < ((0 : Nat) : Int)) := by omega
      have c2 := b10 W4
      simp only [SX, wnt_undef, r1, r5, r6, r7, r8, r9, r10, c1, c2, Ok_some]
      exact .inl ⟨trivial, m', g'', sv', last', d1, r1, r5, r6, r7, d2, d3, by rw [show ((0 + 1 : Nat) : Int) = ((0 : Nat) : Int) + 1 by omega]; rfl, d4⟩
    · have c1 : ((0 : Int) < (j : Int)) := by omega
      have c2 := b10 W4
      have c3 := hlk l[i] last.v
      have c4 := hlk last.v l[i]
      have c5 := a4 (by omega)
      unfold bef at c5
      rw [a1, a2] at c5
      cases y1 : byK (kfOf k) l[i] last.v
      case true => rw [y1] at c5; cases c5
      rw [y1] at c5 c3
      cases y2 : byK (kfOf k) last.v l[i]
      case true =>
        rw [y2] at c4
        simp only [SX, wnt_undef, r1, r5, r6, r7, r8, r9, r10, c1, c2, c3, c4, Ok_some]
        exact .inl ⟨trivial, m', g'', sv', last', d1, r1, r5, r6, r7, d2, d3, by rw [show ((j + 1 : Nat) : Int) = (j : Int) + 1 by omega]; rfl, d4⟩
      rw [y2] at c4 c5
      have c6 : ¬ (((i + 1 : Nat) : Int) < last.h) := by
        simp only [Bool.not_false, Bool.true_and, Bool.false_or, decide_eq_false_iff_not] at c5
        exact c5
      simp only [SX, wnt_undef, r1, r5, r6, r7, r8, r9, r10, c1, c2, c3, c4, c6, Ok_some]
      exact .inl ⟨trivial, m', g'', sv', last', d1, r1, r5, r6, r7, d2, d3, by rw [show ((j + 1 : Nat) : Int) = (j : Int) + 1 by omega]; rfl, d4⟩
  · rintro R W' ⟨m, g, sv, last, hjm, r1, r5, r6, r7, r8, r9, r10, hQ, hG, hS, hSn, hE⟩
    obtain rfl : m = 0 := by omega
    have h' : Ints W' v l := h.mono hG.le
    unfold law06_HeapsSorts_L1
    have b1 : ¬ ((l.length : Int) < (l.length : Int)) := by omega
    simp only [SX, r1, r5, r10, h'.len lenI, b1, Ok_some]
    exact ⟨by simp, trivial, r5, g, hQ, hG⟩
  · rintro ⟨x, R, W'⟩ ⟨hx, r5, g, hQ, hG⟩
    simp only at hx r5 hQ hG
    subst hx
    simp only [SX, r5, qPop0_ok hQ, awake_ok, Ok_some]
    exact ⟨trivial, hG.le⟩
end Go.Proofs.Ytkpgmabebjmahaa
/- What is handed in, opened. -/
namespace Go.Proofs.Ytkpgmabebjmahaa
open Go Go.Eng Go.RowKit
set_option linter.unusedVariables false
set_option linter.unusedSimpArgs false
set_option maxRecDepth 100000
abbrev globW : List (Nat × List Value) := [(0, [])]
section
variable {H : Type} {enc : TypeId × Value → H} {w : World} {σ : Inj} {W : AW} {v0 : Value} {d : DataW H} {p : List MemPlace} {r : Reach} {b0 : Nat}
theorem slice_of {t e : TypeId} (ht : Try.prog.underlying t = some (.slice e)) (hv : Value.okWide Try.prog w r b0 t v0) : ∃ a l c, v0 = .slice a l c := by
  unfold Value.okWide at hv
  rw [ht] at hv
  simp only at hv
  unfold Cell.okWide at hv
  rw [ht] at hv
  cases v0 with
  | slice a l c => exact ⟨a, l, c, rfl⟩
  | _ => simp only [Cell.ok, ht] at hv
theorem sim22 : simT Try.prog 3 22 = true := by kernel_rfl
theorem openInts (ho : Opened σ W w) (hv : Value.okWide Try.prog w r b0 22 v0) (h : DataW.Trod enc Try.prog w 0 (fun _ => true) true 22 v0 d p) :
    ∃ (σ2 : Inj) (W2 : AW) (l : List Int) (u : Value), Opened σ2 W2 w ∧ Sub σ σ2 ∧ Le W W2 ∧ VR σ2 u v0 ∧ Ints W2 u l := by
  obtain ⟨a, n, c, rfl⟩ := slice_of Try.underlying22 hv
  obtain ⟨m, hm⟩ := h
  obtain ⟨σ2, W2, cs2, o2, s2, l2, r2, a2⟩ := opens_trod sim22 hm σ W ho
  obtain ⟨u, l, rfl, hr⟩ := DR.ints (n := 1) a2 Try.underlying22 Try.underlying3 (by kernel_rfl)
  have hvr : VR σ2 u (.slice a n c) := r2.2 0 _ _ rfl rfl
  exact ⟨σ2, W2, l, u, o2, s2, l2, hvr, hr.1⟩
end
theorem row0 : (match (begin Try.prog (fun _ _ => 0) default).world.heap[0]? with | some (.cells _ _ _) => true | _ => false) = true := by kernel_rfl
theorem heap0 {w : World} (h : w.ShapedOpen Try.prog) : LaidG globW w.heap := by
  intro x hx
  obtain rfl : x = (0, []) := by simpa [globW] using hx
  have hr := row0
  split at hr
  case h_2 => cases hr
  rename_i c t fr hz
  have hlt : 0 < (begin Try.prog (fun _ _ => 0) default).world.heap.size := (Array.getElem?_eq_some_iff.1 hz).1
  obtain ⟨o, o0, h1, h2, h3⟩ := h.2 0 (by decide +kernel) hlt
  obtain rfl := Option.some.inj (hz.symm.trans h2)
  have ho : o = .cells c t fr := by
    split at h3
    · cases o <;> exact h3
    · exact h3
  subst ho
  exact ⟨c, t, fr, h1, fun i v hv => by simp at hv⟩
theorem openG {w : World} (h : w.ShapedOpen Try.prog) : Opened (σG globW) (WG globW 5) w := ⟨rel_G rfl (heap0 h), allRo_G, 0, _, rfl⟩
theorem kidsT : Kids Try.prog (· < Try.prog.types.size) := kids_rows (by kernel_rfl) (by kernel_rfl)
theorem fullT : ∀ t e, t < Try.prog.types.size → Try.prog.underlying t = some (.slice e) → 0 < Try.prog.cellsOf e := slices_full_of Try.prog (by kernel_rfl)
theorem own : ownKnob Try.prog.godebug = none := by kernel_rfl
/-- what is opened is called -/
theorem open_calls (hok : CalleeOK Try.prog PlanTab.ng omS) {w : World} {σ : Inj} {W : AW} (ho : Opened σ W w) {i : Nat} {args args' : List Value} (hr : LR σ args args') (h : omS (.func (.func i) #[] #[]) args W = some (.bool true, W)) :
    Calls Try.prog i args'.toArray w fun e w' => e = .returned (.bool true) ∧ Quiet w w' := by
  have hG : Glob σ [] := fun g hg => by cases hg
  exact om_calls hok ho.rel hG ho.ro hr rfl h
end Go.Proofs.Ytkpgmabebjmahaa
