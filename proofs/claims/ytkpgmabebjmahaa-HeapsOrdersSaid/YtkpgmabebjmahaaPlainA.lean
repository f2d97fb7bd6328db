/- Contracts of functions, and their laws. -/
import Derived.Test.YtkpgmabebjmahaaSDec
import Derived.Test.YtkpgmabebjmahaaOpnA
import Derived.Test.YtkpgmabebjmahaaHpA
import Derived.Test.YtkpgmabebjmahaaHpB
import Derived.Test.YtkpgmabebjmahaaOpzA
import Derived.KernelRfl
/- The pile of a queue: its blocks, and what its methods do to them. -/
namespace Go.Proofs.Ytkpgmabebjmahaa
open Go Go.Eng Go.Hp
set_option linter.unusedVariables false
set_option linter.unusedSimpArgs false
set_option linter.unusedSectionVars false
set_option maxRecDepth 100000
theorem ldR {b o : Nat} {cs : List Value} {x : Value} {W : AW} (h : rwCells W b = some cs) (hv : cs[o]? = some x) : ldC (.pointer (some ⟨b, o, none⟩)) W = some (x, W) := ldC_ok (rwCells_cellsAt h) hv
theorem rwOf {W : AW} {b : Nat} {cs : List Value} (h : W.get b = some (.cells cs)) : rwCells W b = some cs := by unfold rwCells; rw [h]
/-- one cell is stored -/
theorem stA {W : AW} {b o : Nat} {cs : List Value} {v : Value} (h : W.get b = some (.cells cs)) (ho : o < cs.length) (hv : v.cells = #[v]) (h1 : Eng.one v = true) : stV 1 (.pointer (some ⟨b, o, none⟩)) v W = some (undef, W.put b (.cells (cs.set o v))) := by
  rw [stV_one hv h1, rwOf h, Option.bind_some, if_pos ho]
theorem lenE : ((#[104] : Array TypeId)[0]?).bind Try.prog.underlying = some (.slice 127) := by kernel_rfl
structure En where
  b : Nat
  h : Int
  v : Int
abbrev enP (e : En) : Value := .pointer (some ⟨e.b, 0, none⟩)
abbrev enC (e : En) (i : Nat) : List Value := [.int .i64 e.h, .int .i64 e.v, .int .i64 (i : Int)]
def rowE (n : Nat) (f : Nat → En) : List Value := (List.range n).map fun i => enP (f i)
theorem rowE_len (n : Nat) (f : Nat → En) : (rowE n f).length = n := by simp [rowE]
theorem rowE_get {n : Nat} (f : Nat → En) {i : Nat} (h : i < n) : (rowE n f)[i]? = some (enP (f i)) := by
  unfold rowE
  rw [List.getElem?_map, List.getElem?_range h]; rfl
theorem rowE_succ (n : Nat) (f : Nat → En) : rowE (n + 1) f = rowE n f ++ [enP (f n)] := by
  unfold rowE
  rw [List.range_succ, List.map_append]; rfl
theorem rowE_congr {n : Nat} {f g : Nat → En} (h : ∀ i, i < n → f i = g i) : rowE n f = rowE n g := by
  unfold rowE
  exact List.map_congr_left fun i hi => by rw [h i (List.mem_range.1 hi)]
theorem rowE_set {n : Nat} (f : Nat → En) {i k : Nat} (hi : i < n) (hk : k < n) (j : List Value) : ((rowE n f ++ j).set i (enP (f k))).set k (enP (f i)) = rowE n (swp f i k) ++ j := by
  rw [List.set_append_left _ _ (by rw [rowE_len]; exact hi), List.set_append_left _ _ (by rw [List.length_set, rowE_len]; exact hk)]
  congr 1
  apply List.ext_getElem?
  intro m
  by_cases hm : m < n
  · rw [rowE_get _ hm, List.getElem?_set, List.getElem?_set]
    simp only [List.length_set, rowE_len]
    by_cases h1 : k = m
    · subst h1
      rw [if_pos rfl, if_pos hk, swp_r]
    · rw [if_neg h1]
      by_cases h2 : i = m
      · subst h2
        rw [if_pos rfl, if_pos hi, swp_l]
      · rw [if_neg h2, rowE_get _ hm, swp_ne _ (fun e => h2 e.symm) (fun e => h1 e.symm)]
  · rw [List.getElem?_eq_none (by simp [rowE_len]; omega), List.getElem?_eq_none (by simp [rowE_len]; omega)]
/-- the slice of a pile: nothing yet, or a block that is its own -/
inductive SlAt (W : AW) (n : Nat) (f : Nat → En) : Value → Option Nat → Prop
  | nil : n = 0 → SlAt W n f (.slice none 0 0) none
  | row (bl : Nat) (junk : List Value) : W.get bl = some (.cells (rowE n f ++ junk)) → bl < W.next → (∀ i, i < n → (f i).b ≠ bl) → SlAt W n f (.slice (some ⟨bl, 0, none⟩) n (BIG + 1)) (some bl)
structure Pile (W : AW) (n : Nat) (f : Nat → En) (lv : Value) (bl : Option Nat) : Prop where
  sl : SlAt W n f lv bl
  en : ∀ i, i < n → W.get (f i).b = some (.cells (enC (f i) i)) ∧ (f i).b < W.next
  inj : ∀ i j, i < n → j < n → (f i).b = (f j).b → i = j
theorem Pile.len {W : AW} {n : Nat} {f : Nat → En} {lv : Value} {bl : Option Nat} (h : Pile W n f lv bl) (W' : AW) : oBuiltin Try.prog .len #[104] 3 #[false] [lv] W' = some (.int .i64 (n : Int), W') := by
  cases h.sl with
  | nil h0 => subst h0; exact len_slice lenE _ _ _
  | row bl junk => exact len_slice lenE _ _ _
theorem Pile.get {W : AW} {n : Nat} {f : Nat → En} {lv : Value} {bl : Option Nat} (h : Pile W n f lv bl) {i : Nat} (hi : i < n) : ∃ b, bl = some b ∧ (∀ W' k, ixS 1 lv (.int k (i : Int)) W' = some (.pointer (some ⟨b, i, none⟩), W')) ∧ ldC (.pointer (some ⟨b, i, none⟩)) W = some (enP (f i), W) := by
  cases h.sl with
  | nil h0 => omega
  | row b junk h1 h2 h3 =>
    refine ⟨b, rfl, fun W' k => by rw [ixS_ok hi, Nat.zero_add, Nat.mul_one], ldR (rwOf h1) ?_⟩
    rw [List.getElem?_append_left (by rw [rowE_len]; exact hi), rowE_get f hi]
theorem Pile.cell {W : AW} {n : Nat} {f : Nat → En} {lv : Value} {bl : Option Nat} (h : Pile W n f lv bl) {i : Nat} (hi : i < n) : ldC (.pointer (some ⟨(f i).b, 0, none⟩)) W = some (.int .i64 (f i).h, W) ∧ ldC (.pointer (some ⟨(f i).b, 1, none⟩)) W = some (.int .i64 (f i).v, W) :=
  ⟨ldR (rwOf (h.en i hi).1) rfl, ldR (rwOf (h.en i hi).1) rfl⟩
/-- what a pile's methods may turn -/
def Own (n : Nat) (f : Nat → En) (bl : Option Nat) (b : Nat) : Prop := bl = some b ∨ ∃ i, i < n ∧ (f i).b = b
structure Fr (W W' : AW) (S : Nat → Prop) : Prop where
  next : W'.next = W.next
  get : ∀ b, ¬ S b → W'.get b = W.get b
theorem Fr.refl (W : AW) (S : Nat → Prop) : Fr W W S := ⟨rfl, fun _ _ => rfl⟩
theorem Fr.trans {A B C : AW} {S : Nat → Prop} (h : Fr A B S) (k : Fr B C S) : Fr A C S := ⟨k.next.trans h.next, fun b hb => (k.get b hb).trans (h.get b hb)⟩
theorem Fr.mono {A B : AW} {S T : Nat → Prop} (h : Fr A B S) (hst : ∀ b, S b → T b) : Fr A B T := ⟨h.next, fun b hb => h.get b (fun hs => hb (hst b hs))⟩
/-- the queue's block, with its pile -/
structure QP (W : AW) (q : Nat) (lv less c2 c3 : Value) (n : Nat) (f : Nat → En) (bl : Option Nat) : Prop where
  qc : W.get q = some (.cells [lv, less, c2, c3])
  lt : q < W.next
  pile : Pile W n f lv bl
  bq : bl ≠ some q
  eq : ∀ i, i < n → (f i).b ≠ q
section
variable {W : AW} {q : Nat} {lv less c2 c3 : Value} {n : Nat} {f : Nat → En} {bl : Option Nat}
theorem QP.l0 (h : QP W q lv less c2 c3 n f bl) : ldC (.pointer (some ⟨q, 0, none⟩)) W = some (lv, W) := ldR (rwOf h.qc) rfl
theorem QP.l1 (h : QP W q lv less c2 c3 n f bl) : ldC (.pointer (some ⟨q, 1, none⟩)) W = some (less, W) := ldR (rwOf h.qc) rfl
theorem QP.l2 (h : QP W q lv less c2 c3 n f bl) : ldC (.pointer (some ⟨q, 2, none⟩)) W = some (c2, W) := ldR (rwOf h.qc) rfl
theorem QP.l3 (h : QP W q lv less c2 c3 n f bl) : ldC (.pointer (some ⟨q, 3, none⟩)) W = some (c3, W) := ldR (rwOf h.qc) rfl
theorem pLen_ok (h : QP W q lv less c2 c3 n f bl) : omS (.func (.func 190) #[] #[]) [.pointer (some ⟨q, 0, none⟩)] W = some (.int .i64 (n : Int), W) := by
  refine om_drop rfl ?_ heaps_pileint_Len_om
  unfold heaps_pileint_Len
  simp only [SX, oNilCheck_ptr, Nat.zero_add, h.l0, h.pile.len, Ok_some]
  exact ⟨trivial, .refl _⟩
/-- the order of the entries -/
def bef (ls : Int → Int → Bool) (a b : En) : Bool := ls a.v b.v || (!ls b.v a.v && decide (a.h < b.h))
/-- a function's value that is an order -/
def IsLess (less : Value) (ls : Int → Int → Bool) : Prop := ∀ a b W, omS less [.int .i64 a, .int .i64 b] W = some (.bool (ls a b), W)
theorem pBefore_ok {ls : Int → Int → Bool} (hl : IsLess less ls) (h : QP W q lv less c2 c3 n f bl) {i k : Nat} (hi : i < n) (hk : k < n) : omS (.func (.func 103) #[] #[]) [.pointer (some ⟨q, 0, none⟩), enP (f i), enP (f k)] W = some (.bool (bef ls (f i) (f k)), W) := by
  refine om_drop rfl ?_ heaps_pileint_before_om
  unfold heaps_pileint_before bef
  obtain ⟨a1, a2⟩ := h.pile.cell hi
  obtain ⟨b1, b2⟩ := h.pile.cell hk
  simp only [SX, oNilCheck_ptr, Nat.zero_add, h.l1, a2, b2, hl (f i).v (f k).v]
  cases ls (f i).v (f k).v
  case true =>
    simp only [SX, Ok_some]
    exact ⟨by simp, .refl _⟩
  simp only [SX, oNilCheck_ptr, Nat.zero_add, h.l1, a2, b2, hl (f k).v (f i).v]
  cases ls (f k).v (f i).v
  case true =>
    simp only [SX, Ok_some]
    exact ⟨by simp, .refl _⟩
  simp only [SX, oNilCheck_ptr, Nat.zero_add, a1, b1, Ok_some]
  exact ⟨by simp, .refl _⟩
theorem pLess_ok {ls : Int → Int → Bool} (hl : IsLess less ls) (h : QP W q lv less c2 c3 n f bl) {i k : Nat} (hi : i < n) (hk : k < n) : omS (.func (.func 73) #[] #[]) [.pointer (some ⟨q, 0, none⟩), .int .i64 (i : Int), .int .i64 (k : Int)] W = some (.bool (bef ls (f i) (f k)), W) := by
  refine om_drop rfl ?_ heaps_pileint_Less_om
  unfold heaps_pileint_Less
  obtain ⟨b, -, a1, a2⟩ := h.pile.get hi
  obtain ⟨b', -, b1, b2⟩ := h.pile.get hk
  simp only [SX, oNilCheck_ptr, Nat.zero_add, h.l0, a1, a2, b1, b2, pBefore_ok hl h hi hk, Ok_some]
  exact ⟨trivial, .refl _⟩
theorem pSwap_ok (h : QP W q lv less c2 c3 n f bl) {i k : Nat} (hi : i < n) (hk : k < n) : ∃ W', omS (.func (.func 193) #[] #[]) [.pointer (some ⟨q, 0, none⟩), .int .i64 (i : Int), .int .i64 (k : Int)] W = some (.tuple #[], W') ∧ QP W' q lv less c2 c3 n (swp f i k) bl ∧ Fr W W' (Own n f bl) := by
  have main : Ok (heaps_pileint_Swap omS (.pointer (some ⟨q, 0, none⟩)) (.int .i64 (i : Int)) (.int .i64 (k : Int)) W) fun r => r.1 = .tuple #[] ∧ QP r.2 q lv less c2 c3 n (swp f i k) bl ∧ Fr W r.2 (Own n f bl) := by
    unfold heaps_pileint_Swap
    obtain ⟨hq, hlt, ⟨hsl, hen, hinj⟩, hbq, heq⟩ := h
    cases hsl with
    | nil h0 => omega
    | row b junk h1 h2 h3 =>
      have ix : ∀ {j : Nat} (hj : j < n) (W' : AW) (kk : IntKind), ixS 1 (.slice (some ⟨b, 0, none⟩) n (BIG + 1)) (.int kk (j : Int)) W' = some (.pointer (some ⟨b, j, none⟩), W') := fun hj W' kk => by rw [ixS_ok hj, Nat.zero_add, Nat.mul_one]
      have hbq' : b ≠ q := fun e => hbq (by rw [e])
      have hl0 : ∀ {W' : AW}, W'.get q = W.get q → ldC (.pointer (some ⟨q, 0, none⟩)) W' = some (.slice (some ⟨b, 0, none⟩) n (BIG + 1), W') := fun e => ldR (rwOf (e.trans hq)) rfl
      have g1 : ∀ {j : Nat}, j < n → (rowE n f ++ junk)[j]? = some (enP (f j)) := fun hj => by rw [List.getElem?_append_left (by rw [rowE_len]; exact hj), rowE_get f hj]
      have hlen : ∀ {j : Nat}, j < n → j < (rowE n f ++ junk).length := fun hj => by rw [List.length_append, rowE_len]; omega
      have s1 := stA (W := W) (v := enP (f k)) h1 (hlen hi) rfl rfl
      have hA : (W.put b (.cells ((rowE n f ++ junk).set i (enP (f k))))).get b = some (.cells ((rowE n f ++ junk).set i (enP (f k)))) := AW.get_put _ _ _
      have s2 := stA (v := enP (f i)) hA (by rw [List.length_set]; exact hlen hk) rfl rfl
      rw [rowE_set f hi hk] at s2
      have hB : ∀ X : AW, (X.put b (.cells (rowE n (swp f i k) ++ junk))).get b = some (.cells (rowE n (swp f i k) ++ junk)) := fun X => AW.get_put _ _ _
      simp only [SX, oNilCheck_ptr, Nat.zero_add, hl0 rfl, ix hi, ix hk, ldR (rwOf h1) (g1 hi), ldR (rwOf h1) (g1 hk), s1, s2]
      generalize hW2 : (W.put b (.cells ((rowE n f ++ junk).set i (enP (f k))))).put b (.cells (rowE n (swp f i k) ++ junk)) = W2 at *
      have e2 : ∀ c, c ≠ b → W2.get c = W.get c := fun c hc => by rw [← hW2, AW.get_put_ne _ _ (Ne.symm hc), AW.get_put_ne _ _ (Ne.symm hc)]
      have n2 : W2.next = W.next := by rw [← hW2, AW.put_next, AW.put_next]
      have b2 : W2.get b = some (.cells (rowE n (swp f i k) ++ junk)) := by rw [← hW2]; exact AW.get_put _ _ _
      have g2 : ∀ {j : Nat}, j < n → (rowE n (swp f i k) ++ junk)[j]? = some (enP (swp f i k j)) := fun hj => by rw [List.getElem?_append_left (by rw [rowE_len]; exact hj), rowE_get _ hj]
      have ei := hen i hi
      have ek := hen k hk
      have c1 : W2.get (f k).b = some (.cells (enC (f k) k)) := (e2 _ (h3 k hk)).trans ek.1
      have s3 := stA (v := .int .i64 (i : Int)) (o := 2) c1 (by simp) rfl rfl
      have s3' : ((enC (f k) k).set 2 (.int .i64 (i : Int))) = enC (f k) i := rfl
      rw [s3'] at s3
      simp only [SX, oNilCheck_ptr, Nat.zero_add, hl0 (e2 _ (Ne.symm hbq')), ix hi, ix hk, ldR (rwOf b2) (g2 hi), ldR (rwOf b2) (g2 hk), swp_l, swp_r, s3]
      generalize hW3 : W2.put (f k).b (.cells (enC (f k) i)) = W3 at *
      have c2' : ∃ p, W3.get (f i).b = some (.cells (enC (f i) p)) ∧ (i = k → p = i) := by
        by_cases hik : i = k
        · subst hik
          exact ⟨i, by rw [← hW3]; exact AW.get_put _ _ _, fun _ => rfl⟩
        · refine ⟨i, ?_, fun e => absurd e hik⟩
          rw [← hW3, AW.get_put_ne _ _ (fun e => hik (hinj k i hk hi e).symm), e2 _ (h3 i hi)]
          exact ei.1
      obtain ⟨p, c2', -⟩ := c2'
      have s4 := stA (v := .int .i64 (k : Int)) (o := 2) c2' (by simp) rfl rfl
      have s4' : ((enC (f i) p).set 2 (.int .i64 (k : Int))) = enC (f i) k := rfl
      rw [s4'] at s4
      simp only [SX, oNilCheck_ptr, Nat.zero_add, s4, Ok_some]
      have e4 : ∀ c, c ≠ b → c ≠ (f k).b → c ≠ (f i).b → (W3.put (f i).b (.cells (enC (f i) k))).get c = W.get c := fun c x1 x2 x3 => by rw [AW.get_put_ne _ _ (Ne.symm x3), ← hW3, AW.get_put_ne _ _ (Ne.symm x2), e2 _ x1]
      have n4 : (W3.put (f i).b (.cells (enC (f i) k))).next = W.next := by rw [AW.put_next, ← hW3, AW.put_next, n2]
      have b4 : (W3.put (f i).b (.cells (enC (f i) k))).get b = some (.cells (rowE n (swp f i k) ++ junk)) := by rw [AW.get_put_ne _ _ (h3 i hi), ← hW3, AW.get_put_ne _ _ (h3 k hk)]; exact b2
      have hb : ∀ j, (swp f i k j).b = (f j).b ∨ (j = i ∧ (swp f i k j).b = (f k).b) ∨ (j = k ∧ (swp f i k j).b = (f i).b) := fun j => by
        by_cases x1 : j = i
        · subst x1; rw [swp_l]; exact .inr (.inl ⟨rfl, rfl⟩)
        · by_cases x2 : j = k
          · subst x2; rw [swp_r]; exact .inr (.inr ⟨rfl, rfl⟩)
          · rw [swp_ne _ x1 x2]; exact .inl rfl
      have hcomp : ∀ j, swp f i k j = f (swN i k j) := fun j => by rw [swp_comp]
      refine ⟨trivial, ⟨?_, by rw [n4]; exact hlt, ⟨.row b junk b4 (by rw [n4]; exact h2) (fun j hj => by rw [hcomp]; exact h3 _ (swN_lt hi hk hj)), fun j hj => ?_, fun j m hj hm e => ?_⟩, hbq, fun j hj => by rw [hcomp]; exact heq _ (swN_lt hi hk hj)⟩, n4, fun c hc => ?_⟩
      · rw [e4 q (Ne.symm hbq') (Ne.symm (heq k hk)) (Ne.symm (heq i hi))]; exact hq
      · rw [n4, hcomp]
        refine ⟨?_, (hen _ (swN_lt hi hk hj)).2⟩
        by_cases x1 : j = i
        · subst x1
          have : swN j k j = k := swp_l id j k
          rw [this]
          by_cases x2 : j = k
          · subst x2; exact AW.get_put _ _ _
          · rw [AW.get_put_ne _ _ (fun e => x2 (hinj j k hi hk e)), ← hW3]; exact AW.get_put _ _ _
        · by_cases x2 : j = k
          · subst x2
            have : swN i j j = i := swp_r id i j
            rw [this]
            exact AW.get_put _ _ _
          · have : swN i k j = j := swp_ne id x1 x2
            rw [this, e4 _ (h3 j hj) (fun e => x2 (hinj j k hj hk e)) (fun e => x1 (hinj j i hj hi e))]
            exact (hen j hj).1
      · rw [hcomp, hcomp] at e
        have := hinj _ _ (swN_lt hi hk hj) (swN_lt hi hk hm) e
        have := congrArg (swN i k) this
        rwa [swN_swN, swN_swN] at this
      · exact e4 c (fun e => hc (.inl (by rw [e]))) (fun e => hc (.inr ⟨k, hk, e.symm⟩)) (fun e => hc (.inr ⟨i, hi, e.symm⟩))
  obtain ⟨⟨r, W'⟩, h1, h2, h3⟩ := main
  simp only at h2 h3
  subst h2
  exact ⟨W', by rw [heaps_pileint_Swap_om h1, gc_not rfl], h3⟩
end
end Go.Proofs.Ytkpgmabebjmahaa
/- The pile of a queue: push and pop. -/
namespace Go.Proofs.Ytkpgmabebjmahaa
open Go Go.Eng Go.Hp
set_option linter.unusedVariables false
set_option linter.unusedSimpArgs false
set_option linter.unusedSectionVars false
set_option maxRecDepth 100000
theorem ap104 : appOk Try.prog #[104, 104] 1 8 = true := by kernel_rfl
theorem bs104 (v : Option Addr) (W : AW) : oBuildSlice Try.prog 104 1 [(0, .pointer v)] W = some (.slice (some ⟨W.next, 0, none⟩) 1 1, W.add (.cells [.pointer v])) := Eq.trans (by kernel_rfl) rfl
theorem as127 (v : Value) (W : AW) : oAssert Try.prog (.iface 127 v) 127 false W = some (v, W) := Eq.trans (by kernel_rfl) rfl
theorem ki127 (v : Value) (W : AW) : oMkIface Try.prog 127 v W = some (.iface 127 v, W) := Eq.trans (by kernel_rfl) rfl
theorem ki103 (v : Value) (W : AW) : oMkIface Try.prog 103 v W = some (.iface 103 v, W) := Eq.trans (by kernel_rfl) rfl
/-- one more at the end -/
def snoc (n : Nat) (f : Nat → En) (e : En) : Nat → En := fun i => if i = n then e else f i
theorem snoc_lt {n i : Nat} {f : Nat → En} {e : En} (h : i < n) : snoc n f e i = f i := if_neg (by omega)
theorem snoc_n (n : Nat) (f : Nat → En) (e : En) : snoc n f e n = e := if_pos rfl
theorem all_snoc (n : Nat) (f : Nat → En) (e : En) : all (n + 1) (snoc n f e) = all n f ++ [e] := by
  rw [all_succ, snoc_n]
  congr 1
  unfold all
  exact List.map_congr_left fun i hi => snoc_lt (List.mem_range.1 hi)
theorem rowE_snoc (n : Nat) (f : Nat → En) (e : En) : rowE (n + 1) (snoc n f e) = rowE n f ++ [enP e] := by
  rw [rowE_succ, snoc_n, rowE_congr (g := f) fun i hi => snoc_lt hi]
section
variable {W : AW} {q : Nat} {lv less c2 c3 : Value} {n : Nat} {f : Nat → En} {bl : Option Nat}
theorem pApp {W : AW} {lv : Value} {bl : Option Nat} (h : SlAt W n f lv bl) (hn : n ≤ 10000) {b c : Nat} {x : Value} (hc : cellsAt W b = some [x]) (hx : Eng.one x = true) : ∃ W3, aAppend Try.prog W #[104, 104] lv (.slice (some ⟨b, 0, none⟩) 1 c) = some (.slice (some ⟨W.next, 0, none⟩) (n + 1) (BIG + 1), W3) ∧ W3.next = W.next + 1 ∧ W3.get W.next = some (.cells (rowE n f ++ [x])) ∧ ∀ b, b < W.next → bl ≠ some b → W3.get b = W.get b := by
  cases h with
  | nil h0 =>
    subst h0
    exact ⟨_, app_nil (new := [x]) ap104 hc rfl rfl (by omega) (by simp [hx]) (by omega) (by omega), rfl, AW.get_add _ _, fun d hd _ => AW.get_add_ne _ _ (by omega)⟩
  | row B junk h1 h2 h3 =>
    refine ⟨_, app_on2 (new := [x]) (n := 1) (m := n) ap104 hc rfl rfl (by omega) (by simp [hx]) h1 (by rw [List.length_append, rowE_len]; omega) (by omega) (by omega), rfl, ?_, fun d hd hne => ?_⟩
    · have := AW.get_add (W.kill B) (.cells ((rowE n f ++ junk).take (n * 1) ++ [x]))
      rw [AW.kill_next] at this
      rw [this, Nat.mul_one, List.take_append_of_le_length (by rw [rowE_len]; omega), List.take_of_length_le (by rw [rowE_len]; omega)]
    · rw [AW.get_add_ne _ _ (by rw [AW.kill_next]; omega), AW.get_kill_ne _ (fun e => hne (by rw [e]))]
theorem SlAt.keep {W W' : AW} {lv : Value} {bl : Option Nat} (h : SlAt W n f lv bl) (hn : W.next ≤ W'.next) (hg : ∀ b, bl = some b → W'.get b = W.get b) : SlAt W' n f lv bl := by
  cases h with
  | nil h0 => exact .nil h0
  | row b junk h1 h2 h3 => exact .row b junk ((hg b rfl).trans h1) (by omega) h3
theorem SlAt.lt {W : AW} {lv : Value} {bl : Option Nat} (h : SlAt W n f lv bl) {b : Nat} (hb : bl = some b) : b < W.next := by
  cases h with
  | nil h0 => cases hb
  | row b junk h1 h2 h3 => cases hb; exact h2
theorem SlAt.ne {W : AW} {lv : Value} {bl : Option Nat} (h : SlAt W n f lv bl) {i : Nat} (hi : i < n) : bl ≠ some (f i).b := by
  cases h with
  | nil h0 => omega
  | row b junk h1 h2 h3 => exact fun e => h3 i hi (by injection e with e; exact e.symm)
theorem pPush_ok (h : QP W q lv less c2 c3 n f bl) (hn : n ≤ 10000) {e : En} {p : Value} (he : W.get e.b = some (.cells [.int .i64 e.h, .int .i64 e.v, p])) (hlt : e.b < W.next) (hq : e.b ≠ q) (hbl : bl ≠ some e.b) (hne : ∀ i, i < n → (f i).b ≠ e.b) :
    ∃ W' lv' b', omS (.func (.func 192) #[] #[]) [.pointer (some ⟨q, 0, none⟩), .iface 127 (enP e)] W = some (.tuple #[], W') ∧ QP W' q lv' less c2 c3 (n + 1) (snoc n f e) (some b') ∧ W.next ≤ b' ∧ W.next ≤ W'.next ∧ ∀ b, b < W.next → b ≠ q → b ≠ e.b → bl ≠ some b → W'.get b = W.get b := by
  have main : Ok (heaps_pileint_Push omS (.pointer (some ⟨q, 0, none⟩)) (.iface 127 (enP e)) W) fun r => r.1 = .tuple #[] ∧ ∃ lv' b', QP r.2 q lv' less c2 c3 (n + 1) (snoc n f e) (some b') ∧ W.next ≤ b' ∧ W.next ≤ r.2.next ∧ ∀ b, b < W.next → b ≠ q → b ≠ e.b → bl ≠ some b → r.2.get b = W.get b := by
    unfold heaps_pileint_Push
    have s1 := stA (v := .int .i64 (n : Int)) (o := 2) he (by simp) rfl rfl
    have s1' : ([.int .i64 e.h, .int .i64 e.v, p] : List Value).set 2 (.int .i64 (n : Int)) = enC e n := rfl
    rw [s1'] at s1
    simp only [SX, as127, oNilCheck_ptr, Nat.zero_add, h.l0, h.pile.len, s1]
    obtain ⟨hqc, hql, ⟨hsl, hen, hinj⟩, hbq, heq⟩ := h
    generalize hW1 : W.put e.b (.cells (enC e n)) = W1 at *
    have g1 : ∀ b, b ≠ e.b → W1.get b = W.get b := fun b hb => by rw [← hW1]; exact AW.get_put_ne _ _ (Ne.symm hb)
    have n1 : W1.next = W.next := by rw [← hW1, AW.put_next]
    have ge1 : W1.get e.b = some (.cells (enC e n)) := by rw [← hW1]; exact AW.get_put _ _ _
    have q1 : W1.get q = some (.cells [lv, less, c2, c3]) := (g1 q (Ne.symm hq)).trans hqc
    have g2 : ∀ b, b < W.next → (W1.add (.cells [enP e])).get b = W1.get b := fun b hb => AW.get_add_ne _ _ (by omega)
    have hs2 : SlAt (W1.add (.cells [enP e])) n f lv bl := hsl.keep (by rw [AW.add_next, n1]; omega) fun b hb => by
      rw [g2 b (hsl.lt hb), g1 b (fun x => hbl (by rw [hb, x]))]
    obtain ⟨W3, a1, a2, a3, a4⟩ := pApp (b := W1.next) (c := 1) hs2 hn cellsAt_new (x := enP e) rfl
    rw [AW.add_next, n1] at a2 a3 a4
    simp only [SX, oNilCheck_ptr, Nat.zero_add, ldR (o := 0) (rwOf q1) rfl, bs104, a1]
    rw [AW.add_next, n1]
    have g3 : ∀ b, b < W.next → bl ≠ some b → W3.get b = W1.get b := fun b hb hne => by rw [a4 b (by omega) hne, g2 b hb]
    have q3 := (g3 q hql hbq).trans q1
    have s3 := stA (v := .slice (some ⟨W.next + 1, 0, none⟩) (n + 1) (BIG + 1)) (o := 0) q3 (by simp) rfl rfl
    simp only [SX, oNilCheck_ptr, Nat.zero_add, s3, Ok_some]
    rw [show ([lv, less, c2, c3] : List Value).set 0 (.slice (some ⟨W.next + 1, 0, none⟩) (n + 1) (BIG + 1)) = [.slice (some ⟨W.next + 1, 0, none⟩) (n + 1) (BIG + 1), less, c2, c3] from rfl] at *
    generalize hW4 : W3.put q (.cells [.slice (some ⟨W.next + 1, 0, none⟩) (n + 1) (BIG + 1), less, c2, c3]) = W4 at *
    have g4 : ∀ b, b ≠ q → W4.get b = W3.get b := fun b hb => by rw [← hW4]; exact AW.get_put_ne _ _ (Ne.symm hb)
    have n4 : W4.next = W.next + 1 + 1 := by rw [← hW4, AW.put_next, a2]
    have hall : ∀ i, i < n + 1 → W4.get (snoc n f e i).b = some (.cells (enC (snoc n f e i) i)) ∧ (snoc n f e i).b < W.next ∧ (snoc n f e i).b ≠ q := fun i hi => by
      by_cases hin : i < n
      · rw [snoc_lt hin]
        refine ⟨?_, (hen i hin).2, heq i hin⟩
        rw [g4 _ (heq i hin), g3 _ (hen i hin).2 (hsl.ne hin), g1 _ (hne i hin)]
        exact (hen i hin).1
      · have : i = n := by omega
        subst this
        rw [snoc_n]
        exact ⟨by rw [g4 _ hq, g3 _ hlt hbl]; exact ge1, hlt, hq⟩
    refine ⟨trivial, _, W.next + 1, ⟨by rw [← hW4]; exact AW.get_put _ _ _, by omega, ⟨.row (W.next + 1) [] ?_ (by omega) (fun i hi => by have := (hall i hi).2.1; omega), fun i hi => ⟨(hall i hi).1, by have := (hall i hi).2.1; omega⟩, fun i j hi hj hij => ?_⟩, fun x => by injection x with x; omega, fun i hi => (hall i hi).2.2⟩, by omega, by omega, fun b hb hbq' hbe hbb => by rw [g4 _ hbq', g3 _ hb hbb, g1 _ hbe]⟩
    · rw [g4 _ (by omega), a3, rowE_snoc, List.append_nil]
    · by_cases hin : i < n
      · by_cases hjn : j < n
        · rw [snoc_lt hin, snoc_lt hjn] at hij
          exact hinj i j hin hjn hij
        · have : j = n := by omega
          subst this
          rw [snoc_lt hin, snoc_n] at hij
          exact absurd hij (hne i hin)
      · have : i = n := by omega
        subst this
        by_cases hjn : j < i
        · rw [snoc_lt hjn, snoc_n] at hij
          exact absurd hij.symm (hne j hjn)
        · omega
  obtain ⟨⟨r, W'⟩, h1, h2, lv', b', h3⟩ := main
  simp only at h2 h3
  subst h2
  exact ⟨W', lv', b', by rw [heaps_pileint_Push_om h1, gc_not rfl], h3⟩
theorem sz104 : sliceZ Try.prog 104 = some 1 := by kernel_rfl
theorem sub1 (n : Nat) (hn : n < 4611686018427387904) (W : AW) : oBin Try.prog .sub 3 false true (.int .i64 ((n + 1 : Nat) : Int)) (.int .i64 1) W = some (.int .i64 (n : Int), W) := by
  rw [oBin_sub (by omega) (by omega)]
  congr 3
  omega
theorem pPop_ok (h : QP W q lv less c2 c3 (n + 1) f bl) (hn : n ≤ 10000) :
    ∃ W' lv', omS (.func (.func 191) #[] #[]) [.pointer (some ⟨q, 0, none⟩)] W = some (.iface 127 (enP (f n)), W') ∧ QP W' q lv' less c2 c3 n f bl ∧ W'.next = W.next ∧ (∀ b, b ≠ q → bl ≠ some b → W'.get b = W.get b) := by
  have main : Ok (heaps_pileint_Pop omS (.pointer (some ⟨q, 0, none⟩)) W) fun r => r.1 = .iface 127 (enP (f n)) ∧ ∃ lv', QP r.2 q lv' less c2 c3 n f bl ∧ r.2.next = W.next ∧ (∀ b, b ≠ q → bl ≠ some b → r.2.get b = W.get b) := by
    unfold heaps_pileint_Pop
    simp only [SX, oNilCheck_ptr, Nat.zero_add, h.l0, h.pile.len, sub1 n (by omega)]
    obtain ⟨hqc, hql, ⟨hsl, hen, hinj⟩, hbq, heq⟩ := h
    cases hsl with
    | nil h0 => omega
    | row b junk h1 h2 h3 =>
      have ix : ∀ {j : Nat} (hj : j < n + 1) (W' : AW) (kk : IntKind), ixS 1 (.slice (some ⟨b, 0, none⟩) (n + 1) (BIG + 1)) (.int kk (j : Int)) W' = some (.pointer (some ⟨b, j, none⟩), W') := fun hj W' kk => by rw [ixS_ok hj, Nat.zero_add, Nat.mul_one]
      have hbq' : b ≠ q := fun e => hbq (by rw [e])
      have g0 : (rowE (n + 1) f ++ junk)[n]? = some (enP (f n)) := by rw [List.getElem?_append_left (by rw [rowE_len]; omega), rowE_get f (by omega)]
      have s1 := stA (W := W) (v := .pointer none) h1 (o := n) (by rw [List.length_append, rowE_len]; omega) rfl rfl
      have hrow : (rowE (n + 1) f ++ junk).set n (.pointer none) = rowE n f ++ (.pointer none :: junk) := by
        rw [rowE_succ, List.append_assoc, List.set_append_right _ _ (by rw [rowE_len]; omega), rowE_len, Nat.sub_self]
        rfl
      rw [hrow] at s1
      simp only [SX, oNilCheck_ptr, Nat.zero_add, ldR (o := 0) (rwOf hqc) rfl, ix (Nat.lt_succ_self n), ldR (rwOf h1) g0, s1]
      generalize hW2 : W.put b (.cells (rowE n f ++ (.pointer none :: junk))) = W2 at *
      have e2 : ∀ c, c ≠ b → W2.get c = W.get c := fun c hc => by rw [← hW2, AW.get_put_ne _ _ (Ne.symm hc)]
      have n2 : W2.next = W.next := by rw [← hW2, AW.put_next]
      have b2 : W2.get b = some (.cells (rowE n f ++ (.pointer none :: junk))) := by rw [← hW2]; exact AW.get_put _ _ _
      have q2 := (e2 q (Ne.symm hbq')).trans hqc
      have s3 := stA (v := .slice (some ⟨b, 0, none⟩) n (BIG + 1)) (o := 0) q2 (by simp) rfl rfl
      rw [show ([.slice (some ⟨b, 0, none⟩) (n + 1) (BIG + 1), less, c2, c3] : List Value).set 0 (.slice (some ⟨b, 0, none⟩) n (BIG + 1)) = [.slice (some ⟨b, 0, none⟩) n (BIG + 1), less, c2, c3] from rfl] at s3
      simp only [SX, oNilCheck_ptr, Nat.zero_add, ldR (o := 0) (rwOf q2) rfl, slice_open sz104 (by omega) (show n ≤ n + 1 by omega), s3, ki127, Ok_some]
      generalize hW4 : W2.put q (.cells [.slice (some ⟨b, 0, none⟩) n (BIG + 1), less, c2, c3]) = W4 at *
      have g4 : ∀ c, c ≠ q → W4.get c = W2.get c := fun c hc => by rw [← hW4]; exact AW.get_put_ne _ _ (Ne.symm hc)
      have n4 : W4.next = W.next := by rw [← hW4, AW.put_next, n2]
      refine ⟨trivial, _, ⟨by rw [← hW4]; exact AW.get_put _ _ _, by omega, ⟨.row b (.pointer none :: junk) ((g4 b hbq').trans b2) (by omega) (fun i hi => h3 i (by omega)), fun i hi => ⟨?_, by have := (hen i (by omega)).2; omega⟩, fun i j hi hj => hinj i j (by omega) (by omega)⟩, hbq, fun i hi => heq i (by omega)⟩, n4, fun c hc hcb => ?_⟩
      · rw [g4 _ (heq i (by omega)), e2 _ (h3 i (by omega))]
        exact (hen i (by omega)).1
      · rw [g4 c hc, e2 c (fun e => hcb (by rw [e]))]
  obtain ⟨⟨r, W'⟩, h1, h2, lv', h3⟩ := main
  simp only at h2 h3
  subst h2
  exact ⟨W', lv', by rw [heaps_pileint_Pop_om h1, gc_not rfl], h3⟩
end
end Go.Proofs.Ytkpgmabebjmahaa
/- container/heap over a queue's pile. -/
namespace Go.Proofs.Ytkpgmabebjmahaa
open Go Go.Eng Go.Hp
set_option linter.unusedVariables false
set_option linter.unusedSimpArgs false
set_option linter.unusedSectionVars false
set_option maxRecDepth 100000
theorem iLess (v : Value) (xs : List Value) (W : AW) : oInvoke Try.prog omS (.iface 103 v) "Less" xs W = omS (.func (.func 73) #[] #[]) (v :: xs) W := inv_eq (by kernel_rfl) _ _
theorem iSwap (v : Value) (xs : List Value) (W : AW) : oInvoke Try.prog omS (.iface 103 v) "Swap" xs W = omS (.func (.func 193) #[] #[]) (v :: xs) W := inv_eq (by kernel_rfl) _ _
theorem iLen (v : Value) (xs : List Value) (W : AW) : oInvoke Try.prog omS (.iface 103 v) "Len" xs W = omS (.func (.func 190) #[] #[]) (v :: xs) W := inv_eq (by kernel_rfl) _ _
theorem iPush (v : Value) (xs : List Value) (W : AW) : oInvoke Try.prog omS (.iface 103 v) "Push" xs W = omS (.func (.func 192) #[] #[]) (v :: xs) W := inv_eq (by kernel_rfl) _ _
theorem iPop (v : Value) (xs : List Value) (W : AW) : oInvoke Try.prog omS (.iface 103 v) "Pop" xs W = omS (.func (.func 191) #[] #[]) (v :: xs) W := inv_eq (by kernel_rfl) _ _
theorem td2 (i : Nat) : ((i : Int) - 1).tdiv 2 = (par i : Int) := by
  unfold par
  rcases Nat.eq_zero_or_pos i with rfl | h
  · rfl
  · rw [Int.tdiv_eq_ediv_of_nonneg (by omega)]
    omega
theorem par_le (i : Nat) : par i ≤ i := by unfold par; omega
abbrev hpV (q : Nat) : Value := .iface 103 (.pointer (some ⟨q, 0, none⟩))
theorem Own.perm {n : Nat} {f g : Nat → En} {bl : Option Nat} (h : (all n g).Perm (all n f)) {b : Nat} (ho : Own n g bl b) : Own n f bl b := by
  rcases ho with ho | ⟨i, hi, rfl⟩
  · exact .inl ho
  · obtain ⟨k, hk, e⟩ := all_mem.1 (h.mem_iff.1 (all_mem.2 ⟨i, hi, rfl⟩))
    exact .inr ⟨k, hk, by rw [e]⟩
section
variable {W : AW} {q : Nat} {lv less c2 c3 : Value} {n : Nat} {f : Nat → En} {bl : Option Nat} {ls : Int → Int → Bool}
theorem up_ok (o : Ord (bef ls)) (hl : IsLess less ls) (h : QP W q lv less c2 c3 n f bl) (hn : n ≤ 10001) {j : Nat} (hj : j < n) (hup : Up (bef ls) n f j) :
    ∃ W' g, omS (.func (.func 104) #[] #[]) [hpV q, .int .i64 (j : Int)] W = some (.tuple #[], W') ∧ QP W' q lv less c2 c3 n g bl ∧ Fr W W' (Own n f bl) ∧ Heap (bef ls) n g ∧ (all n g).Perm (all n f) := by
  have main : Ok (containerheap_up omS (hpV q) (.int .i64 (j : Int)) W) fun r => r.1 = .tuple #[] ∧ ∃ g, QP r.2 q lv less c2 c3 n g bl ∧ Fr W r.2 (Own n f bl) ∧ Heap (bef ls) n g ∧ (all n g).Perm (all n f) := by
    unfold containerheap_up
    have key : ∀ (i : Nat) (R : PlanTab.Fr) (W' : AW) (g : Nat → En), i < n → R 0 = hpV q → R 1 = .int .i64 (i : Int) → QP W' q lv less c2 c3 n g bl → Fr W W' (Own n f bl) → Up (bef ls) n g i → (all n g).Perm (all n f) →
        Ok (containerheap_up_L1 omS R W') fun r => (r.1 = .exit 0 ∧ ∃ g', QP r.2.2 q lv less c2 c3 n g' bl ∧ Fr W r.2.2 (Own n f bl) ∧ Heap (bef ls) n g' ∧ (all n g').Perm (all n f)) ∨ (r.1 = .normal ∧ 0 < i ∧ ∃ g', r.2.1 0 = hpV q ∧ r.2.1 1 = .int .i64 (par i : Int) ∧ QP r.2.2 q lv less c2 c3 n g' bl ∧ Fr W r.2.2 (Own n f bl) ∧ Up (bef ls) n g' (par i) ∧ (all n g').Perm (all n f)) := by
      intro i R W' g hi h0 h1 hQ hF hU hP
      unfold containerheap_up_L1
      have e1 := oBin_sub (P := Try.prog) (W := W') (t := 3) (c := false) (d := true) (a := (i : Int)) (b := 1) (by omega) (by omega)
      have e2 : oBin Try.prog .quo 3 false true (.int .i64 ((i : Int) - 1)) (.int .i64 2) W' = some (.int .i64 (par i : Int), W') := by
        rw [oBin_quo (by omega), td2, wrap_i64 (by omega) (by have := par_le i; omega)]
      by_cases hi0 : i = 0
      · subst hi0
        have e3 : ((par 0 : Nat) : Int) = ((0 : Nat) : Int) := rfl
        simp only [SX, h0, h1, e1, e2, e3, Ok_some]
        exact .inl ⟨trivial, g, hQ, hF, hU.done (.inl rfl), hP⟩
      · have hpi := par_lt (k := i) (by omega)
        have e3 : ¬ ((par i : Int) = (i : Int)) := by omega
        simp only [SX, h0, h1, e1, e2, e3, iLess, pLess_ok hl hQ hi (show par i < n by omega)]
        cases hb : bef ls (g i) (g (par i))
        · simp only [SX, Ok_some]
          exact .inl ⟨trivial, g, hQ, hF, hU.done (.inr hb), hP⟩
        · obtain ⟨W2, s1, s2, s3⟩ := pSwap_ok hQ (show par i < n by omega) hi
          simp only [SX, h0, h1, iSwap, s1, Ok_some]
          refine .inr ⟨trivial, by omega, _, h0, rfl, s2, hF.trans (s3.mono fun b hb => Own.perm hP hb), hU.step o (by omega) hi hb, (all_swp g (show par i < n by omega) hi).trans hP⟩
    refine Ok_loop j (by omega) (fun k R W' => ∃ i g, i + k ≤ j ∧ i < n ∧ R 0 = hpV q ∧ R 1 = .int .i64 (i : Int) ∧ QP W' q lv less c2 c3 n g bl ∧ Fr W W' (Own n f bl) ∧ Up (bef ls) n g i ∧ (all n g).Perm (all n f))
      (fun r => r.1 = .exit 0 ∧ ∃ g', QP r.2.2 q lv less c2 c3 n g' bl ∧ Fr W r.2.2 (Own n f bl) ∧ Heap (bef ls) n g' ∧ (all n g').Perm (all n f)) ⟨j, f, by omega, hj, rfl, rfl, h, .refl _ _, hup, .refl _⟩ ?_ ?_ ?_
    · rintro k R W' hk ⟨i, g, h1, h2, h3, h4, h5, h6, h7, h8⟩
      refine (key i R W' g h2 h3 h4 h5 h6 h7 h8).mono fun r hr => ?_
      rcases hr with hr | ⟨r1, r2, g', r3, r4, r5, r6, r7, r8⟩
      · exact .inr ⟨by rw [hr.1]; simp, hr⟩
      · have := par_lt r2
        exact .inl ⟨r1, par i, g', by omega, by omega, r3, r4, r5, r6, r7, r8⟩
    · rintro R W' ⟨i, g, h1, h2, h3, h4, h5, h6, h7, h8⟩
      refine (key i R W' g h2 h3 h4 h5 h6 h7 h8).mono fun r hr => ?_
      rcases hr with hr | ⟨r1, r2, -⟩
      · exact ⟨by rw [hr.1]; simp, hr⟩
      · omega
    · rintro ⟨x, R, W'⟩ ⟨hx, hq⟩
      simp only at hx hq
      subst hx
      simp only [SX, Ok_some]
      exact ⟨trivial, hq⟩
  obtain ⟨⟨r, W'⟩, h1, h2, g, h3⟩ := main
  simp only at h2 h3
  subst h2
  exact ⟨W', g, by rw [containerheap_up_om h1, gc_not rfl], h3⟩
end
end Go.Proofs.Ytkpgmabebjmahaa
/- container/heap over a queue's pile: down, push, pop. -/
namespace Go.Proofs.Ytkpgmabebjmahaa
open Go Go.Eng Go.Hp
set_option linter.unusedVariables false
set_option linter.unusedSimpArgs false
set_option linter.unusedSectionVars false
set_option maxRecDepth 100000
theorem gc_two {W W' : AW} (v : Value) : gc W (v, W') = (v, W') ∨ (gc W (v, W') = (v, W) ∧ Le W W') := by
  unfold gc
  split
  · rename_i h; exact .inr ⟨rfl, h.2⟩
  · exact .inl rfl
section
variable {W : AW} {q : Nat} {lv less c2 c3 : Value} {n : Nat} {f : Nat → En} {bl : Option Nat} {ls : Int → Int → Bool}
theorem QP.back {W W' : AW} (h : QP W' q lv less c2 c3 n f bl) (hn : W'.next = W.next) (hle : Le W W') : QP W q lv less c2 c3 n f bl := by
  obtain ⟨hqc, hql, ⟨hsl, hen, hinj⟩, hbq, heq⟩ := h
  rw [hn] at hql
  refine ⟨by rw [← hle.get q hql]; exact hqc, hql, ⟨hsl.keep (by omega) fun b hb => (hle.get b (by have := hsl.lt hb; omega)).symm, fun i hi => ?_, hinj⟩, hbq, heq⟩
  have := (hen i hi).2
  exact ⟨by rw [← hle.get _ (by omega)]; exact (hen i hi).1, by omega⟩
theorem ord_irr {α : Type} {lt : α → α → Bool} (o : Ord lt) (a : α) : lt a a = false := by
  cases h : lt a a with
  | false => rfl
  | true => have := o.asym _ _ h; rw [h] at this; exact this
/-- beyond n nothing is turned -/
def Same (n : Nat) (f g : Nat → En) : Prop := ∀ i, n ≤ i → g i = f i
theorem Own.low {n N : Nat} {f g : Nat → En} {bl : Option Nat} (h : (all n g).Perm (all n f)) (hs : Same n f g) {b : Nat} (ho : Own N g bl b) (hN : n ≤ N) : Own N f bl b := by
  rcases ho with ho | ⟨i, hi, rfl⟩
  · exact .inl ho
  · by_cases hin : i < n
    · obtain ⟨k, hk, e⟩ := all_mem.1 (h.mem_iff.1 (all_mem.2 ⟨i, hin, rfl⟩))
      exact .inr ⟨k, by omega, by rw [e]⟩
    · exact .inr ⟨i, hi, by rw [hs i (by omega)]⟩
theorem down_ok (o : Ord (bef ls)) (hl : IsLess less ls) {N : Nat} (h : QP W q lv less c2 c3 N f bl) (hN : N ≤ 10001) (hn : n ≤ N) {i0 : Nat} (hi0 : i0 ≤ n) (hd : Dn (bef ls) n f i0) :
    ∃ W' g b, omS (.func (.func 94) #[] #[]) [hpV q, .int .i64 (i0 : Int), .int .i64 (n : Int)] W = some (.bool b, W') ∧ QP W' q lv less c2 c3 N g bl ∧ Fr W W' (Own N f bl) ∧ Heap (bef ls) n g ∧ (all n g).Perm (all n f) ∧ Same n f g := by
  have main : Ok (containerheap_down omS (hpV q) (.int .i64 (i0 : Int)) (.int .i64 (n : Int)) W) fun r => (∃ b, r.1 = .bool b) ∧ ∃ g, QP r.2 q lv less c2 c3 N g bl ∧ Fr W r.2 (Own N f bl) ∧ Heap (bef ls) n g ∧ (all n g).Perm (all n f) ∧ Same n f g := by
    unfold containerheap_down
    have key : ∀ (i : Nat) (R : PlanTab.Fr) (W' : AW) (g : Nat → En), i ≤ n → R 0 = hpV q → R 2 = .int .i64 (n : Int) → R 7 = .int .i64 (i : Int) → QP W' q lv less c2 c3 N g bl → Fr W W' (Own N f bl) → Dn (bef ls) n g i → (all n g).Perm (all n f) → Same n f g →
        Ok (containerheap_down_L1 omS R W') fun r => (r.1 = .exit 0 ∧ r.2.1 1 = R 1 ∧ r.2.1 7 = R 7 ∧ ∃ g', QP r.2.2 q lv less c2 c3 N g' bl ∧ Fr W r.2.2 (Own N f bl) ∧ Heap (bef ls) n g' ∧ (all n g').Perm (all n f) ∧ Same n f g') ∨ (r.1 = .normal ∧ i < n ∧ r.2.1 1 = R 1 ∧ ∃ g' j, i < j ∧ j < n ∧ r.2.1 0 = hpV q ∧ r.2.1 2 = .int .i64 (n : Int) ∧ r.2.1 7 = .int .i64 (j : Int) ∧ QP r.2.2 q lv less c2 c3 N g' bl ∧ Fr W r.2.2 (Own N f bl) ∧ Dn (bef ls) n g' j ∧ (all n g').Perm (all n f) ∧ Same n f g') := by
      intro i R W' g hi h0 h2 h7 hQ hF hD hP hS
      unfold containerheap_down_L1
      have e1 : oBin Try.prog .mul 3 true false (.int .i64 2) (.int .i64 (i : Int)) W' = some (.int .i64 (2 * (i : Int)), W') := oBin_mul (by omega) (by omega)
      have e2 := oBin_add (P := Try.prog) (W := W') (t := 3) (c := false) (d := true) (a := 2 * (i : Int)) (b := 1) (by omega) (by omega)
      have e3 := oBin_add (P := Try.prog) (W := W') (t := 3) (c := false) (d := true) (a := 2 * (i : Int) + 1) (b := 1) (by omega) (by omega)
      have e4 : ¬ (2 * (i : Int) + 1 < 0) := by omega
      by_cases hj : n ≤ 2 * i + 1
      · have e5 : (n : Int) ≤ 2 * (i : Int) + 1 := by omega
        simp only [SX, h0, h2, h7, e1, e2, e5, Ok_some]
        exact .inl ⟨trivial, rfl, h7, g, hQ, hF, hD.done o (fun k hk hkn => by omega), hP, hS⟩
      · have e5 : ¬ ((n : Int) ≤ 2 * (i : Int) + 1) := by omega
        have c1 : ((2 * i + 1 : Nat) : Int) = 2 * (i : Int) + 1 := by omega
        have c2' : ((2 * i + 2 : Nat) : Int) = 2 * (i : Int) + 1 + 1 := by omega
        have fin : ∀ j, (j = 2 * i + 1 ∨ j = 2 * i + 2) → j < n → (∀ k, (k = 2 * i + 1 ∨ k = 2 * i + 2) → k < n → bef ls (g k) (g j) = false) →
            (bef ls (g j) (g i) = false → Heap (bef ls) n g) ∧ (bef ls (g j) (g i) = true → ∃ W2, omS (.func (.func 193) #[] #[]) [.pointer (some ⟨q, 0, none⟩), .int .i64 (i : Int), .int .i64 (j : Int)] W' = some (.tuple #[], W2) ∧ QP W2 q lv less c2 c3 N (swp g i j) bl ∧ Fr W W2 (Own N f bl) ∧ Dn (bef ls) n (swp g i j) j ∧ (all n (swp g i j)).Perm (all n f) ∧ Same n f (swp g i j)) := by
          intro j hj1 hj2 hmin
          refine ⟨fun hb => hD.done o fun k hk hkn => o.neg _ _ _ hb (hmin k hk hkn), fun hb => ?_⟩
          obtain ⟨W2, s1, s2, s3⟩ := pSwap_ok hQ (show i < N by omega) (show j < N by omega)
          refine ⟨W2, s1, s2, hF.trans (s3.mono fun b hb => Own.low hP hS hb hn), hD.step o hj1 hj2 hb hmin, (all_swp g (by omega) hj2).trans hP, fun k hk => ?_⟩
          rw [swp_ne _ (by omega) (by omega)]
          exact hS k hk
        by_cases hj2 : 2 * i + 2 < n
        · have e6 : (2 * (i : Int) + 1 + 1 < (n : Int)) := by omega
          have l1 := pLess_ok hl hQ (show 2 * i + 2 < N by omega) (show 2 * i + 1 < N by omega)
          rw [c1, c2'] at l1
          simp only [SX, h0, h2, h7, e1, e2, e3, e4, e5, e6, iLess, l1]
          cases hb : bef ls (g (2 * i + 2)) (g (2 * i + 1))
          · obtain ⟨f1, f2⟩ := fin (2 * i + 1) (.inl rfl) (by omega) fun k hk hkn => by
              rcases hk with rfl | rfl
              · exact ord_irr o _
              · exact hb
            have l2 := pLess_ok hl hQ (show 2 * i + 1 < N by omega) (show i < N by omega)
            rw [c1] at l2 f2
            simp only [SX, h0, h7, iLess, l2]
            cases hb2 : bef ls (g (2 * i + 1)) (g i)
            · simp only [SX, Ok_some]
              exact .inl ⟨trivial, rfl, h7, g, hQ, hF, f1 hb2, hP, hS⟩
            · obtain ⟨W2, s1, s2, s3, s4, s5, s6⟩ := f2 hb2
              simp only [SX, h0, h7, iSwap, s1, Ok_some]
              exact .inr ⟨trivial, by omega, rfl, _, 2 * i + 1, by omega, by omega, h0, h2, by rw [c1]; rfl, s2, s3, s4, s5, s6⟩
          · obtain ⟨f1, f2⟩ := fin (2 * i + 2) (.inr rfl) (by omega) fun k hk hkn => by
              rcases hk with rfl | rfl
              · exact o.asym _ _ hb
              · exact ord_irr o _
            have l2 := pLess_ok hl hQ (show 2 * i + 2 < N by omega) (show i < N by omega)
            rw [c2'] at l2 f2
            simp only [SX, h0, h7, iLess, l2]
            cases hb2 : bef ls (g (2 * i + 2)) (g i)
            · simp only [SX, Ok_some]
              exact .inl ⟨trivial, rfl, h7, g, hQ, hF, f1 hb2, hP, hS⟩
            · obtain ⟨W2, s1, s2, s3, s4, s5, s6⟩ := f2 hb2
              simp only [SX, h0, h7, iSwap, s1, Ok_some]
              exact .inr ⟨trivial, by omega, rfl, _, 2 * i + 2, by omega, by omega, h0, h2, by rw [c2']; rfl, s2, s3, s4, s5, s6⟩
        · have e6 : ¬ (2 * (i : Int) + 1 + 1 < (n : Int)) := by omega
          obtain ⟨f1, f2⟩ := fin (2 * i + 1) (.inl rfl) (by omega) fun k hk hkn => by
            rcases hk with rfl | rfl
            · exact ord_irr o _
            · omega
          have l2 := pLess_ok hl hQ (show 2 * i + 1 < N by omega) (show i < N by omega)
          rw [c1] at l2 f2
          simp only [SX, h0, h2, h7, e1, e2, e3, e4, e5, e6, iLess, l2]
          cases hb2 : bef ls (g (2 * i + 1)) (g i)
          · simp only [SX, Ok_some]
            exact .inl ⟨trivial, rfl, h7, g, hQ, hF, f1 hb2, hP, hS⟩
          · obtain ⟨W2, s1, s2, s3, s4, s5, s6⟩ := f2 hb2
            simp only [SX, h0, h7, iSwap, s1, Ok_some]
            exact .inr ⟨trivial, by omega, rfl, _, 2 * i + 1, by omega, by omega, h0, h2, by rw [c1]; rfl, s2, s3, s4, s5, s6⟩
    simp only [SX]
    refine Ok_loop n (by omega) (fun k R W' => ∃ i g, k ≤ i ∧ i ≤ n ∧ R 0 = hpV q ∧ R 1 = .int .i64 (i0 : Int) ∧ R 2 = .int .i64 (n : Int) ∧ R 7 = .int .i64 (i : Int) ∧ QP W' q lv less c2 c3 N g bl ∧ Fr W W' (Own N f bl) ∧ Dn (bef ls) n g i ∧ (all n g).Perm (all n f) ∧ Same n f g)
      (fun r => r.1 = .exit 0 ∧ (∃ i : Nat, r.2.1 7 = .int .i64 (i : Int)) ∧ r.2.1 1 = .int .i64 (i0 : Int) ∧ ∃ g', QP r.2.2 q lv less c2 c3 N g' bl ∧ Fr W r.2.2 (Own N f bl) ∧ Heap (bef ls) n g' ∧ (all n g').Perm (all n f) ∧ Same n f g') ⟨i0, f, by omega, hi0, rfl, rfl, rfl, rfl, h, .refl _ _, hd, .refl _, fun _ _ => rfl⟩ ?_ ?_ ?_
    · rintro k R W' hk ⟨i, g, h1, h2, h3, h3', h4, h5, h6, h7, h8, h9, h10⟩
      refine (key i R W' g h2 h3 h4 h5 h6 h7 h8 h9 h10).mono fun r hr => ?_
      rcases hr with ⟨r1, r2, r3, r4⟩ | ⟨r1, r2, r3, g', j, j1, j2, r5, r6, r7, r8⟩
      · exact .inr ⟨by rw [r1]; simp, r1, ⟨i, by rw [r3, h5]⟩, by rw [r2, h3'], r4⟩
      · exact .inl ⟨r1, j, g', by omega, by omega, r5, by rw [r3, h3'], r6, r7, r8⟩
    · rintro R W' ⟨i, g, h1, h2, h3, h3', h4, h5, h6, h7, h8, h9, h10⟩
      refine (key i R W' g h2 h3 h4 h5 h6 h7 h8 h9 h10).mono fun r hr => ?_
      rcases hr with ⟨r1, r2, r3, r4⟩ | ⟨r1, r2, -⟩
      · exact ⟨by rw [r1]; simp, r1, ⟨i, by rw [r3, h5]⟩, by rw [r2, h3'], r4⟩
      · omega
    · rintro ⟨x, R, W'⟩ ⟨hx, ⟨i, h7⟩, h1, hq⟩
      simp only at hx h7 h1 hq
      subst hx
      simp only [SX, h7, h1, Ok_some]
      exact ⟨⟨_, rfl⟩, hq⟩
  obtain ⟨⟨r, W'⟩, h1, ⟨b, h2⟩, g, h3⟩ := main
  simp only at h2 h3
  subst h2
  rcases gc_two (W := W) (W' := W') (.bool b) with hg | ⟨hg, hle⟩
  · exact ⟨W', g, b, by rw [containerheap_down_om h1, hg], h3⟩
  · exact ⟨W, g, b, by rw [containerheap_down_om h1, hg], h3.1.back h3.2.1.next hle, .refl _ _, h3.2.2⟩
end
end Go.Proofs.Ytkpgmabebjmahaa
/- container/heap over a queue's pile: push, pop. -/
namespace Go.Proofs.Ytkpgmabebjmahaa
open Go Go.Eng Go.Hp
set_option linter.unusedVariables false
set_option linter.unusedSimpArgs false
set_option linter.unusedSectionVars false
set_option maxRecDepth 100000
section
variable {W : AW} {q : Nat} {lv less c2 c3 : Value} {n : Nat} {f : Nat → En} {bl : Option Nat} {ls : Int → Int → Bool}
theorem heap_up {lt : En → En → Bool} {e : En} (h : Heap lt n f) : Up lt (n + 1) (snoc n f e) n := by
  refine ⟨fun k h0 h1 h2 => ?_, fun k h0 h1 h2 h3 => ?_⟩
  · have := par_lt h0
    rw [snoc_lt (by omega), snoc_lt (by omega)]
    exact h k h0 (by omega)
  · have := par_lt h0
    omega
theorem hPush_ok (o : Ord (bef ls)) (hl : IsLess less ls) (h : QP W q lv less c2 c3 n f bl) (hh : Heap (bef ls) n f) (hn : n ≤ 10000) {e : En} {p : Value} (he : W.get e.b = some (.cells [.int .i64 e.h, .int .i64 e.v, p])) (hlt : e.b < W.next) (hq : e.b ≠ q) (hbl : bl ≠ some e.b) (hne : ∀ i, i < n → (f i).b ≠ e.b) :
    ∃ W' lv' b' g, omS (.func (.func 70) #[] #[]) [hpV q, .iface 127 (enP e)] W = some (.tuple #[], W') ∧ QP W' q lv' less c2 c3 (n + 1) g (some b') ∧ Heap (bef ls) (n + 1) g ∧ (all (n + 1) g).Perm (e :: all n f) ∧ W.next ≤ b' ∧ W.next ≤ W'.next ∧ ∀ b, b < W.next → b ≠ q → b ≠ e.b → ¬ Own n f bl b → W'.get b = W.get b := by
  obtain ⟨W1, lv', b', p1, p2, p3, p4, p5⟩ := pPush_ok h hn he hlt hq hbl hne
  obtain ⟨W2, g, u1, u2, u3, u4, u5⟩ := up_ok o hl p2 (by omega) (Nat.lt_succ_self n) (heap_up hh)
  have main : Ok (containerheap_Push omS (hpV q) (.iface 127 (enP e)) W) fun r => r.1 = .tuple #[] ∧ r.2 = W2 := by
    unfold containerheap_Push
    simp only [SX, iPush, p1, iLen, pLen_ok p2, sub1 n (by omega), u1, Ok_some]
    exact ⟨trivial, trivial⟩
  obtain ⟨⟨r, W'⟩, h1, h2, h3⟩ := main
  simp only at h2 h3
  subst h2; subst h3
  refine ⟨_, lv', b', g, by rw [containerheap_Push_om h1, gc_not rfl], u2, u4, u5.trans (by rw [all_snoc]; exact List.perm_append_singleton _ _), p3, by rw [u3.next]; exact p4, fun b hb hbq hbe ho => ?_⟩
  rw [u3.get b fun ho2 => ?_, p5 b hb hbq hbe fun hx => ho (.inl hx)]
  rcases ho2 with ho2 | ⟨i, hi, ho2⟩
  · injection ho2 with ho2; omega
  · by_cases hin : i < n
    · rw [snoc_lt hin] at ho2
      exact ho (.inr ⟨i, hin, ho2⟩)
    · have : i = n := by omega
      subst this
      rw [snoc_n] at ho2
      exact hbe ho2.symm
theorem heap_dn {lt : En → En → Bool} (h : Heap lt (n + 1) f) : Dn lt n (swp f 0 n) 0 := by
  refine ⟨fun k h0 h1 h2 => ?_, fun k h0 h1 h2 h3 => by omega⟩
  have := par_lt h0
  rw [swp_ne _ (by omega) (by omega), swp_ne _ h2 (by omega)]
  exact h k h0 (by omega)
theorem hPop_ok (o : Ord (bef ls)) (hl : IsLess less ls) (h : QP W q lv less c2 c3 (n + 1) f bl) (hh : Heap (bef ls) (n + 1) f) (hn : n ≤ 10000) :
    ∃ W' lv' g, omS (.func (.func 53) #[] #[]) [hpV q] W = some (.iface 127 (enP (f 0)), W') ∧ QP W' q lv' less c2 c3 n g bl ∧ Heap (bef ls) n g ∧ (f 0 :: all n g).Perm (all (n + 1) f) ∧ W'.next = W.next ∧ ∀ b, b ≠ q → ¬ Own (n + 1) f bl b → W'.get b = W.get b := by
  obtain ⟨W1, s1, s2, s3⟩ := pSwap_ok h (show 0 < n + 1 by omega) (show n < n + 1 by omega)
  obtain ⟨W2, g, b, d1, d2, d3, d4, d5, d6⟩ := down_ok o hl s2 (by omega) (show n ≤ n + 1 by omega) (Nat.zero_le n) (heap_dn hh)
  have hg : g n = f 0 := by rw [d6 n (Nat.le_refl n), swp_r]
  obtain ⟨W3, lv', p1, p2, p3, p4⟩ := pPop_ok d2 hn
  rw [hg] at p1
  have main : Ok (containerheap_Pop omS (hpV q) W) fun r => r.1 = .iface 127 (enP (f 0)) ∧ r.2 = W3 := by
    unfold containerheap_Pop
    have e0 : (Value.int .i64 (0 : Int)) = .int .i64 ((0 : Nat) : Int) := rfl
    simp only [SX, iLen, pLen_ok h, sub1 n (by omega), iSwap, e0, s1, d1, iPop, p1, Ok_some]
    exact ⟨trivial, trivial⟩
  obtain ⟨⟨r, W'⟩, h1, h2, h3⟩ := main
  simp only at h2 h3
  subst h2; subst h3
  have hp1 : (all (n + 1) (swp f 0 n)).Perm (all (n + 1) f) := all_swp f (by omega) (by omega)
  refine ⟨_, lv', g, by rw [containerheap_Pop_om h1, gc_not rfl], p2, d4, ?_, by rw [p3, d3.next, s3.next], fun b hb ho => ?_⟩
  · refine .trans ?_ hp1
    rw [all_succ, swp_r]
    exact (List.perm_append_singleton _ _).symm.trans (d5.append (.refl _))
  · rw [p4 b hb fun hx => ho (.inl hx), d3.get b fun ho2 => ho (Own.perm hp1 ho2), s3.get b ho]
end
end Go.Proofs.Ytkpgmabebjmahaa
/- container/heap over a queue's pile: up and down of one that may go either way. -/
namespace Go.Proofs.Ytkpgmabebjmahaa
open Go Go.Eng Go.Hp
set_option linter.unusedVariables false
set_option linter.unusedSimpArgs false
set_option linter.unusedSectionVars false
set_option maxRecDepth 100000
section
variable {W : AW} {q : Nat} {lv less c2 c3 : Value} {n : Nat} {f : Nat → En} {bl : Option Nat} {ls : Int → Int → Bool}
end
end Go.Proofs.Ytkpgmabebjmahaa
/- container/heap over a queue's pile: Fix and Remove. -/
namespace Go.Proofs.Ytkpgmabebjmahaa
open Go Go.Eng Go.Hp
set_option linter.unusedVariables false
set_option linter.unusedSimpArgs false
set_option linter.unusedSectionVars false
set_option maxRecDepth 100000
section
variable {W : AW} {q : Nat} {lv less c2 c3 : Value} {n : Nat} {f : Nat → En} {bl : Option Nat} {ls : Int → Int → Bool}
end
end Go.Proofs.Ytkpgmabebjmahaa
/- A queue and its methods. -/
namespace Go.Proofs.Ytkpgmabebjmahaa
open Go Go.Eng Go.Hp
set_option linter.unusedVariables false
set_option linter.unusedSimpArgs false
set_option linter.unusedSectionVars false
set_option maxRecDepth 100000
theorem u24 : Try.prog.underlying 24 = some (.pointer 109) := by kernel_rfl
theorem u107 : Try.prog.underlying 107 = some (.map 2 127) := by kernel_rfl
theorem u2 : Try.prog.underlying 2 = some (.int .i64) := by kernel_rfl
theorem pNe (a : Addr) (c d : Bool) (W : AW) : oBin Try.prog .neq 24 c d (.pointer (some a)) (.pointer none) W = some (.bool true, W) := by
  unfold oBin aBin aEql; simp only [u24]; rfl
theorem pEq (a : Addr) (c d : Bool) (W : AW) : oBin Try.prog .eql 24 c d (.pointer (some a)) (.pointer none) W = some (.bool false, W) := by
  unfold oBin aBin aEql; simp only [u24]
theorem mNe (m : Nat) (c d : Bool) (W : AW) : oBin Try.prog .neq 107 c d (.map (some m)) (.map none) W = some (.bool true, W) := by
  unfold oBin aBin aEql; simp only [u107]; rfl
theorem bd132 (h v : Int) (W : AW) : oBuild Try.prog 132 [(0, .int .i64 h), (1, .int .i64 v)] W = some (.agg #[.int .i64 h, .int .i64 v, .int .i64 0], W) := Eq.trans (by kernel_rfl) rfl
section
variable {W : AW} {q : Nat} {lv less c2 c3 : Value} {n : Nat} {f : Nat → En} {bl : Option Nat} {ls : Int → Int → Bool}
theorem QP.keep {W W' : AW} (h : QP W q lv less c2 c3 n f bl) (hn : W.next ≤ W'.next) (hg : ∀ b, b < W.next → b = q ∨ Own n f bl b → W'.get b = W.get b) : QP W' q lv less c2 c3 n f bl := by
  obtain ⟨hqc, hql, ⟨hsl, hen, hinj⟩, hbq, heq⟩ := h
  refine ⟨by rw [hg q hql (.inl rfl)]; exact hqc, by omega, ⟨hsl.keep hn fun b hb => hg b (hsl.lt hb) (.inr (.inl hb)), fun i hi => ?_, hinj⟩, hbq, heq⟩
  have := (hen i hi).2
  exact ⟨by rw [hg _ this (.inr (.inr ⟨i, hi, rfl⟩))]; exact (hen i hi).1, by omega⟩
theorem QP.turn {c3' : Value} (h : QP W q lv less c2 c3 n f bl) : QP (W.put q (.cells [lv, less, c2, c3'])) q lv less c2 c3' n f bl := by
  obtain ⟨hqc, hql, ⟨hsl, hen, hinj⟩, hbq, heq⟩ := h
  refine ⟨AW.get_put _ _ _, by rw [AW.put_next]; exact hql, ⟨hsl.keep (by rw [AW.put_next]; omega) fun b hb => AW.get_put_ne _ _ (fun e => hbq (by rw [hb, e])), fun i hi => ?_, hinj⟩, hbq, heq⟩
  rw [AW.get_put_ne _ _ (Ne.symm (heq i hi)), AW.put_next]
  exact hen i hi
end
/-- a queue of n entries -/
structure QS (W : AW) (In : Nat → Prop) (q mh : Nat) (less : Value) (ls : Int → Int → Bool) (nx : Int) (n : Nat) (f : Nat → En) : Prop where
  ex : ∃ lv bl, QP W q lv less (.map (some mh)) (.int .i64 nx) n f bl ∧ bl ≠ some mh ∧ ∀ b, Own n f bl b → In b
  ml : mh < W.next
  mq : mh ≠ q
  me : ∀ i, i < n → (f i).b ≠ mh
  iq : In q
  im : In mh
  hp : Heap (bef ls) n f
  mp : ∃ m, MapV W mh m n ∧ (∀ i, i < n → m (f i).h = some (enP (f i))) ∧ ∀ k v, m k = some v → ∃ i, i < n ∧ (f i).h = k ∧ v = enP (f i)
  hd : ∀ i, i < n → 1 ≤ (f i).h ∧ (f i).h < nx
  nx1 : 1 ≤ nx
/-- what changes lies in In -/
structure Gr (W W' : AW) (In : Nat → Prop) : Prop where
  next : W.next ≤ W'.next
  get : ∀ b, b < W.next → ¬ In b → W'.get b = W.get b
theorem Gr.refl (W : AW) (In : Nat → Prop) : Gr W W In := ⟨Nat.le_refl _, fun _ _ _ => rfl⟩
theorem Gr.trans {A B C : AW} {In : Nat → Prop} (h : Gr A B In) (k : Gr B C In) : Gr A C In := ⟨Nat.le_trans h.next k.next, fun b hb hi => (k.get b (Nat.lt_of_lt_of_le hb h.next) hi).trans (h.get b hb hi)⟩
section
variable {W : AW} {In : Nat → Prop} {q mh : Nat} {less : Value} {ls : Int → Int → Bool} {nx : Int} {n : Nat} {f : Nat → En}
theorem QS.keep {W W' : AW} {In' : Nat → Prop} (h : QS W In q mh less ls nx n f) (hn : W.next ≤ W'.next) (hg : ∀ b, b < W.next → In b → W'.get b = W.get b) (hi : ∀ b, b < W.next → In b → In' b) : QS W' In' q mh less ls nx n f := by
  obtain ⟨⟨lv, bl, h1, h2, h3⟩, ml, mq, me, iq, im, hp, ⟨m, m1, m2⟩, hd, nx1⟩ := h
  refine ⟨⟨lv, bl, h1.keep hn fun b hb ho => hg b hb ?_, h2, fun b hb => hi b ?_ (h3 b hb)⟩, by omega, mq, me, hi q h1.lt iq, hi mh ml im, hp, ⟨m, m1.keep (hg mh ml im), m2⟩, hd, nx1⟩
  · rcases ho with rfl | ho
    · exact iq
    · exact h3 b ho
  · rcases hb with hb | ⟨i, hi', rfl⟩
    · exact h1.pile.sl.lt hb
    · exact (h1.pile.en i hi').2
theorem QS.back {W W' : AW} (h : QS W' In q mh less ls nx n f) (hn : W'.next = W.next) (hle : Le W W') : QS W In q mh less ls nx n f :=
  h.keep (by omega) (fun b hb _ => (hle.get b (by omega)).symm) fun _ _ hb => hb
abbrev qV (q : Nat) : Value := .pointer (some ⟨q, 0, none⟩)
theorem made_ok (h : QS W In q mh less ls nx n f) : omS (.func (.func 54) #[] #[]) [qV q] W = some (.bool true, W) := by
  obtain ⟨⟨lv, bl, h1, h2, h3⟩, -⟩ := h
  refine om_drop rfl ?_ heaps_Queueint_made_om
  unfold heaps_Queueint_made
  simp only [SX, pNe, oNilCheck_ptr, Nat.zero_add, h1.l2, mNe, Ok_some]
  exact ⟨trivial, .refl _⟩
theorem qLen_ok (h : QS W In q mh less ls nx n f) : omS (.func (.func 16) #[] #[]) [qV q] W = some (.int .i64 (n : Int), W) := by
  have hm := made_ok h
  obtain ⟨⟨lv, bl, h1, h2, h3⟩, -⟩ := h
  refine om_drop rfl ?_ heaps_Queueint_Len_om
  unfold heaps_Queueint_Len
  simp only [SX, hm, oNilCheck_ptr, Nat.zero_add, h1.l0, h1.pile.len, Ok_some]
  exact ⟨trivial, .refl _⟩
theorem peek_ok (h : QS W In q mh less ls nx n f) (hn : 0 < n) : omS (.func (.func 51) #[] #[]) [qV q] W = some (.tuple #[.int .i64 (f 0).h, .int .i64 (f 0).v, .int .i64 0], W) := by
  have hm := made_ok h
  obtain ⟨⟨lv, bl, h1, h2, h3⟩, -⟩ := h
  refine om_drop rfl ?_ heaps_Queueint_Peek_om
  unfold heaps_Queueint_Peek
  have e0 : ¬ ((n : Int) = 0) := by omega
  obtain ⟨b, -, g1, g2⟩ := h1.pile.get hn
  have g1' : ∀ W' k, ixS 1 lv (.int k 0) W' = some (.pointer (some ⟨b, 0, none⟩), W') := g1
  obtain ⟨c1, c2⟩ := h1.pile.cell hn
  simp only [SX, hm, oNilCheck_ptr, Nat.zero_add, h1.l0, h1.pile.len, e0, g1', g2, c1, c2, Ok_some]
  exact ⟨trivial, .refl _⟩
theorem qPop_ok (o : Ord (bef ls)) (hl : IsLess less ls) (h : QS W In q mh less ls nx (n + 1) f) (hn : n ≤ 10000) :
    ∃ W' g, omS (.func (.func 15) #[] #[]) [qV q] W = some (.tuple #[.int .i64 (f 0).h, .int .i64 (f 0).v, .int .i64 0], W') ∧ QS W' In q mh less ls nx n g ∧ (f 0 :: all n g).Perm (all (n + 1) f) ∧ W'.next = W.next ∧ Gr W W' In := by
  have hpk := peek_ok h (by omega)
  have main : Ok (heaps_Queueint_Pop omS (qV q) W) fun r => r.1 = .tuple #[.int .i64 (f 0).h, .int .i64 (f 0).v, .int .i64 0] ∧ ∃ g, QS r.2 In q mh less ls nx n g ∧ (f 0 :: all n g).Perm (all (n + 1) f) ∧ r.2.next = W.next ∧ Gr W r.2 In := by
    obtain ⟨⟨lv, bl, h1, h2, h3⟩, ml, mq, me, iq, im, hp, ⟨m, m1, m2, m3⟩, hd, nx1⟩ := h
    obtain ⟨W1, lv', g, p1, p2, p3, p4, p5, p6⟩ := hPop_ok o hl h1 hp hn
    have hmem : ∀ i, i < n → ∃ k, k < n + 1 ∧ f k = g i := fun i hi => all_mem.1 (p4.mem_iff.1 (List.mem_cons_of_mem _ (all_mem.2 ⟨i, hi, rfl⟩)))
    have hown : ∀ b, Own n g bl b → Own (n + 1) f bl b := fun b hb => by
      rcases hb with hb | ⟨i, hi, rfl⟩
      · exact .inl hb
      · obtain ⟨k, hk, e⟩ := hmem i hi
        exact .inr ⟨k, hk, by rw [e]⟩
    have hmo : ¬ Own (n + 1) f bl mh := fun ho => by
      rcases ho with ho | ⟨i, hi, ho⟩
      · exact h2 ho
      · exact me i hi ho
    have m1' := m1.keep (p6 mh mq hmo)
    obtain ⟨es, c, d1, d2⟩ := mapV_del m1' u107 u2 [2] (f 0).h
    rw [m2 0 (by omega)] at d2
    simp only [Option.isSome_some, if_true, Nat.add_sub_cancel] at d2
    have dd : oBuiltin Try.prog .delete #[107, 2] 0 #[false, false] [.map (some mh), .int .i64 (f 0).h] W1 = some (.tuple #[], W1.put mh (.map es c)) := by
      show (aDelete Try.prog W1 #[107, 2] (.map (some mh)) (.int .i64 (f 0).h)).map _ = _
      have : (#[107, 2] : Array TypeId) = (107 :: [2]).toArray := rfl
      rw [this, d1]; rfl
    unfold heaps_Queueint_Pop
    simp only [SX, hpk, oNilCheck_ptr, Nat.zero_add, ki103, p1, p2.l2, dd, Ok_some]
    refine ⟨trivial, g, ⟨⟨lv', bl, p2.keep (by rw [AW.put_next]; omega) fun b hb ho => AW.get_put_ne _ _ fun e => ?_, h2, fun b hb => h3 b (hown b hb)⟩, by rw [AW.put_next, p5]; exact ml, mq, fun i hi => ?_, iq, im, p3, ⟨_, d2, fun i hi => ?_, fun k v hk => ?_⟩, fun i hi => ?_, nx1⟩, p4, by rw [AW.put_next, p5], by rw [AW.put_next]; omega, fun b hb hi => ?_⟩
    · subst e
      rcases ho with ho | ho
      · exact mq ho
      · exact hmo (hown _ ho)
    · obtain ⟨k, hk, e⟩ := hmem i hi
      rw [← e]; exact me k hk
    · have hne : ¬ (g i).h = (f 0).h := fun e => by
        obtain ⟨k, hk, ek⟩ := hmem i hi
        have a1 := m2 k hk
        rw [ek, e, m2 0 (by omega)] at a1
        injection a1 with a1
        have a2 : (f 0).b = (g i).b := by injection a1 with a1; injection a1 with a1; injection a1
        have hnd : ((f 0).b :: (all n g).map (·.b)).Nodup := by
          have := (p4.map (·.b)).nodup_iff.2 ?_
          · exact this
          · unfold all
            rw [List.map_map, List.nodup_iff_pairwise_ne, List.pairwise_map]
            refine List.nodup_range.imp_of_mem fun {a b} ha hb hab e => hab (h1.pile.inj a b (List.mem_range.1 ha) (List.mem_range.1 hb) e)
        exact (List.nodup_cons.1 hnd).1 (List.mem_map.2 ⟨g i, all_mem.2 ⟨i, hi, rfl⟩, a2.symm⟩)
      obtain ⟨k, hk, ek⟩ := hmem i hi
      rw [if_neg hne, ← ek]
      exact m2 k hk
    · by_cases hk0 : k = (f 0).h
      · rw [if_pos hk0] at hk; cases hk
      · rw [if_neg hk0] at hk
        obtain ⟨i, hi, e1, e2⟩ := m3 k v hk
        have := p4.mem_iff.2 (all_mem.2 ⟨i, hi, rfl⟩)
        rcases List.mem_cons.1 this with e | hm
        · rw [e] at e1; exact absurd e1.symm hk0
        · obtain ⟨j, hj, e⟩ := all_mem.1 hm
          exact ⟨j, hj, by rw [e]; exact e1, by rw [e]; exact e2⟩
    · obtain ⟨k, hk, e⟩ := hmem i hi
      rw [← e]; exact hd k hk
    · rw [AW.get_put_ne _ _ (fun e => hi (by rw [← e]; exact im))]
      exact p6 b (fun e => hi (by rw [e]; exact iq)) fun ho => hi (h3 b ho)
  obtain ⟨⟨r, W'⟩, h1, h2, g, h3, h4, h5, h6⟩ := main
  simp only at h2 h3 h4 h5 h6
  subst h2
  rcases gc_two (W := W) (W' := W') (.tuple #[.int .i64 (f 0).h, .int .i64 (f 0).v, .int .i64 0]) with hg | ⟨hg, hle⟩
  · exact ⟨W', g, by rw [heaps_Queueint_Pop_om h1, hg], h3, h4, h5, h6⟩
  · exact ⟨W, g, by rw [heaps_Queueint_Pop_om h1, hg], h3.back h5 hle, h4, rfl, .refl _ _⟩
end
end Go.Proofs.Ytkpgmabebjmahaa
/- A queue: New and Push. -/
namespace Go.Proofs.Ytkpgmabebjmahaa
open Go Go.Eng Go.Hp
set_option linter.unusedVariables false
set_option linter.unusedSimpArgs false
set_option linter.unusedSectionVars false
set_option maxRecDepth 100000
theorem u26b : (match Try.prog.underlying 26 with | some (.func _ _ _) => true | _ => false) = true := by kernel_rfl
theorem u26 : ∃ a b c, Try.prog.underlying 26 = some (.func a b c) := by
  have h := u26b
  split at h
  · rename_i a b c e; exact ⟨a, b, c, e⟩
  · cases h
theorem fNil (k : Nat) (W : AW) : oBin Try.prog .eql 26 false true (.func (.func k) #[] #[]) .nilFunc W = some (.bool false, W) := by
  obtain ⟨a, b, c, h⟩ := u26
  unfold oBin aBin aEql; simp only [h]
theorem bd106 (k : Nat) (W : AW) : oBuild Try.prog 106 [(1, .func (.func k) #[] #[])] W = some (.agg #[.slice none 0 0, .func (.func k) #[] #[]], W) := Eq.trans (by kernel_rfl) rfl
theorem bd109 (k m : Nat) (W : AW) : oBuild Try.prog 109 [(0, .agg #[.slice none 0 0, .func (.func k) #[] #[]]), (1, .map (some m)), (2, .int .i64 1)] W = some (.agg #[.slice none 0 0, .func (.func k) #[] #[], .map (some m), .int .i64 1], W) := Eq.trans (by kernel_rfl) rfl
theorem oBox4 (a b c d : Value) (W : AW) : oBox (.agg #[a, b, c, d]) W = some (.pointer (some ⟨W.next, 0, none⟩), W.add (.cells [a, b, c, d])) := oBox_agg _
theorem oBox3 (a b c : Value) (W : AW) : oBox (.agg #[a, b, c]) W = some (.pointer (some ⟨W.next, 0, none⟩), W.add (.cells [a, b, c])) := oBox_agg _
theorem mkM (W : AW) : oMkMap Try.prog 107 none W = some (.map (some W.next), W.add (.map [] 0)) := rfl
theorem new_ok {In : Nat → Prop} {W : AW} (hi : ∀ b, W.next ≤ b → In b) (k : Nat) (ls : Int → Int → Bool) (f : Nat → En) : ∃ W' q mh, omS (.func (.func 38) #[] #[]) [.func (.func k) #[] #[]] W = some (qV q, W') ∧ QS W' In q mh (.func (.func k) #[] #[]) ls 1 0 f ∧ Gr W W' In := by
  have main : heaps_Newint omS (.func (.func k) #[] #[]) W = some (qV (W.next + 1), (W.add (.map [] 0)).add (.cells [.slice none 0 0, .func (.func k) #[] #[], .map (some W.next), .int .i64 1])) := by
    unfold heaps_Newint
    simp only [SX, fNil, bd106, mkM, bd109, oBox4]
    rfl
  have e := heaps_Newint_om main
  rw [gc_not rfl] at e
  refine ⟨_, W.next + 1, W.next, e, ⟨⟨.slice none 0 0, none, ⟨by rw [← AW.add_next W (.map [] 0)]; exact AW.get_add _ _, by simp only [AW.add_next]; omega, ⟨.nil rfl, fun i hi => by omega, fun i j hi => by omega⟩, by simp, fun i hi => by omega⟩, by simp, fun b hb => ?_⟩, by simp only [AW.add_next]; omega, by omega, fun i hi => by omega, hi _ (by omega), hi _ (by omega), fun k _ hk => by omega, ⟨_, mapV_new.keep (AW.get_add_ne _ _ (by rw [AW.add_next]; omega)), fun i hi => by omega, fun k v hk => by cases hk⟩, fun i hi => by omega, by omega⟩, by simp only [AW.add_next]; omega, fun b hb _ => ?_⟩
  · rcases hb with hb | ⟨i, hi, -⟩
    · cases hb
    · omega
  · rw [AW.get_add_ne _ _ (by rw [AW.add_next]; omega), AW.get_add_ne _ _ (by omega)]
section
variable {W : AW} {In : Nat → Prop} {q mh : Nat} {less : Value} {ls : Int → Int → Bool} {nx : Int} {n : Nat} {f : Nat → En}
theorem qPush_ok (o : Ord (bef ls)) (hl : IsLess less ls) (h : QS W In q mh less ls nx n f) (hn : n < 5000) (hnx : nx < 1000000000000000) (hi : ∀ b, W.next ≤ b → In b) (v : Int) :
    ∃ W' g, omS (.func (.func 25) #[] #[]) [qV q, .int .i64 v] W = some (.tuple #[.int .i64 nx, .int .i64 0], W') ∧ QS W' In q mh less ls (nx + 1) (n + 1) g ∧ (all (n + 1) g).Perm (⟨W.next, nx, v⟩ :: all n f) ∧ Gr W W' In := by
  have hm := made_ok h
  have main : Ok (heaps_Queueint_Push omS (qV q) (.int .i64 v) W) fun r => r.1 = .tuple #[.int .i64 nx, .int .i64 0] ∧ (∃ g, QS r.2 In q mh less ls (nx + 1) (n + 1) g ∧ (all (n + 1) g).Perm (⟨W.next, nx, v⟩ :: all n f) ∧ Gr W r.2 In) ∧ r.2.get q ≠ W.get q ∧ q < W.next := by
    obtain ⟨⟨lv, bl, h1, h2, h3⟩, ml, mq, me, iq, im, hp, ⟨m, m1, m2, m3⟩, hd, nx1⟩ := h
    have e1 : ¬ (5000 ≤ (n : Int)) := by omega
    have e2 : ¬ (1000000000000000 ≤ nx) := by omega
    have e3 := fun W' => oBin_add (P := Try.prog) (W := W') (t := 2) (c := false) (d := true) (a := nx) (b := 1) (by omega) (by omega)
    unfold heaps_Queueint_Push
    generalize hW1 : W.add (.cells [.int .i64 nx, .int .i64 v, .int .i64 0]) = W1
    have g1 : ∀ b, b < W.next → W1.get b = W.get b := fun b hb => by rw [← hW1]; exact AW.get_add_ne _ _ (by omega)
    have n1 : W1.next = W.next + 1 := by rw [← hW1, AW.add_next]
    have ge1 : W1.get W.next = some (.cells [.int .i64 nx, .int .i64 v, .int .i64 0]) := by rw [← hW1]; exact AW.get_add _ _
    have q1 : QP W1 q lv less (.map (some mh)) (.int .i64 nx) n f bl := h1.keep (by omega) fun b hb _ => g1 b hb
    have s1 := stA (v := .int .i64 (nx + 1)) (o := 3) q1.qc (by simp) rfl rfl
    rw [show ([lv, less, .map (some mh), .int .i64 nx] : List Value).set 3 (.int .i64 (nx + 1)) = [lv, less, .map (some mh), .int .i64 (nx + 1)] from rfl] at s1
    have q2 := q1.turn (c3' := .int .i64 (nx + 1))
    generalize hW2 : W1.put q (.cells [lv, less, .map (some mh), .int .i64 (nx + 1)]) = W2 at s1 q2
    have g2 : ∀ b, b ≠ q → W2.get b = W1.get b := fun b hb => by rw [← hW2]; exact AW.get_put_ne _ _ (Ne.symm hb)
    have n2 : W2.next = W.next + 1 := by rw [← hW2, AW.put_next, n1]
    have hqn : W.next ≠ q := by have := h1.lt; omega
    have ge2 : W2.get W.next = some (.cells [.int .i64 nx, .int .i64 v, .int .i64 0]) := (g2 _ hqn).trans ge1
    have m1' : MapV W2 mh m n := m1.keep (by rw [g2 _ mq, g1 _ ml])
    obtain ⟨es, c, d1, d2⟩ := mapV_set m1' u107 u2 nx (.pointer (some ⟨W.next, 0, none⟩))
    have hmn : m nx = none := by
      cases hx : m nx with
      | none => rfl
      | some v =>
        obtain ⟨i, hi, e, -⟩ := m3 nx v hx
        have := (hd i hi).2
        omega
    rw [hmn] at d2
    simp only [Option.isSome_none, Bool.false_eq_true, if_false] at d2
    generalize hW3 : W2.put mh (.map es c) = W3 at d1 d2
    have g3 : ∀ b, b ≠ mh → W3.get b = W2.get b := fun b hb => by rw [← hW3]; exact AW.get_put_ne _ _ (Ne.symm hb)
    have n3 : W3.next = W.next + 1 := by rw [← hW3, AW.put_next, n2]
    have hown : ∀ b, Own n f bl b → b < W.next := fun b hb => by
      rcases hb with hb | ⟨i, hi, rfl⟩
      · exact h1.pile.sl.lt hb
      · exact (h1.pile.en i hi).2
    have q3 : QP W3 q lv less (.map (some mh)) (.int .i64 (nx + 1)) n f bl := q2.keep (by omega) fun b hb ho => g3 b fun e => by
      subst e
      rcases ho with ho | ho | ⟨i, hi, ho⟩
      · exact mq ho
      · exact h2 ho
      · exact me i hi ho
    have ge3 : W3.get W.next = some (.cells [.int .i64 nx, .int .i64 v, .int .i64 0]) := (g3 _ (by omega)).trans ge2
    obtain ⟨W4, lv', b', g, p1, p2, p3, p4, p5, p6, p7⟩ := hPush_ok (e := ⟨W.next, nx, v⟩) o hl q3 hp (by omega) ge3 (by rw [n3]; exact Nat.lt_succ_self _) hqn (fun e => by have := hown _ (.inl e); simp at this) (fun i hi e => by have := (h1.pile.en i hi).2; simp only at e; omega)
    obtain ⟨j, hj, ej⟩ := all_mem.1 (p4.mem_iff.2 (List.mem_cons_self ..))
    have l4 : ldC (.pointer (some ⟨W.next, 0, none⟩)) W4 = some (.int .i64 nx, W4) := by
      have := (p2.pile.cell hj).1
      rw [ej] at this; exact this
    simp only [SX, hm, oNilCheck_ptr, Nat.zero_add, h1.l0, h1.l3, h1.pile.len, e1, e2, bd132, oBox3, hW1, q1.l3, e3, s1, q2.l2, ldR (o := 0) (rwOf ge2) rfl, d1, ki103, ki127, p1, l4, Ok_some]
    have hmem : ∀ i, i < n + 1 → g i = ⟨W.next, nx, v⟩ ∨ ∃ k, k < n ∧ f k = g i := fun i hi => by
      rcases List.mem_cons.1 (p4.mem_iff.1 (all_mem.2 ⟨i, hi, rfl⟩)) with e | e
      · exact .inl e
      · exact .inr (all_mem.1 e)
    have q4 : W4.get q = some (.cells [lv', less, .map (some mh), .int .i64 (nx + 1)]) := p2.qc
    refine ⟨trivial, ⟨g, ⟨⟨lv', some b', p2, fun e => by injection e with e; omega, fun b hb => ?_⟩, by omega, mq, fun i hi' => ?_, iq, im, p3, ⟨_, d2.keep (p7 mh (by omega) mq (by simp only; omega) fun ho => ?_), fun i hi' => ?_, fun k v' hk => ?_⟩, fun i hi' => ?_, by omega⟩, p4, by omega, fun b hb hni => ?_⟩, ?_, h1.lt⟩
    · rcases hb with hb | ⟨i, hi', rfl⟩
      · injection hb with hb
        exact hi b (by omega)
      · rcases hmem i hi' with e | ⟨k, hk, e⟩
        · rw [e]; exact hi _ (Nat.le_refl _)
        · rw [← e]; exact h3 _ (.inr ⟨k, hk, rfl⟩)
    · rcases hmem i hi' with e | ⟨k, hk, e⟩
      · rw [e]; simp only; omega
      · rw [← e]; exact me k hk
    · rcases ho with ho | ⟨i, hi', ho⟩
      · exact h2 ho
      · exact me i hi' ho
    · rcases hmem i hi' with e | ⟨k, hk, e⟩
      · rw [e, if_pos rfl]
      · have := (hd k hk).2
        rw [← e, if_neg (by omega)]
        exact m2 k hk
    · by_cases hk0 : k = nx
      · rw [if_pos hk0] at hk
        injection hk with hk
        exact ⟨j, hj, by rw [ej, hk0], by rw [ej, ← hk]⟩
      · rw [if_neg hk0] at hk
        obtain ⟨i, hi', x1, x2⟩ := m3 k v' hk
        obtain ⟨i2, hi2, x3⟩ := all_mem.1 (p4.mem_iff.2 (List.mem_cons_of_mem _ (all_mem.2 ⟨i, hi', rfl⟩)))
        exact ⟨i2, hi2, by rw [x3]; exact x1, by rw [x3]; exact x2⟩
    · rcases hmem i hi' with e | ⟨k, hk, e⟩
      · rw [e]; simp only; omega
      · have := hd k hk
        rw [← e]; omega
    · rw [p7 b (by omega) (fun e => hni (by rw [e]; exact iq)) (by simp only; omega) (fun ho => hni (h3 b ho)), g3 b (fun e => hni (by rw [e]; exact im)), g2 b (fun e => hni (by rw [e]; exact iq)), g1 b hb]
    · rw [q4, h1.qc]
      intro e
      injection e with e; injection e with e
      injection e with _ e; injection e with _ e; injection e with _ e; injection e with e _; injection e with _ e
      omega
  obtain ⟨⟨r, W'⟩, h1, h2, ⟨g, h3⟩, h4, h5⟩ := main
  simp only at h2 h3 h4 h5
  subst h2
  rcases gc_two (W := W) (W' := W') (.tuple #[.int .i64 nx, .int .i64 0]) with hg | ⟨hg, hle⟩
  · exact ⟨W', g, by rw [heaps_Queueint_Push_om h1, hg], h3⟩
  · exact absurd (hle.get q h5) h4
end
end Go.Proofs.Ytkpgmabebjmahaa
/- A queue: find, Get, Set, Remove. -/
namespace Go.Proofs.Ytkpgmabebjmahaa
open Go Go.Eng Go.Hp
set_option linter.unusedVariables false
set_option linter.unusedSimpArgs false
set_option linter.unusedSectionVars false
set_option maxRecDepth 100000
theorem z127 : tZero Try.prog 127 = some (.pointer none) := by kernel_rfl
def upd (f : Nat → En) (i : Nat) (v : Int) : Nat → En := fun j => if j = i then ⟨(f i).b, (f i).h, v⟩ else f j
theorem upd_b (f : Nat → En) (i : Nat) (v : Int) (j : Nat) : (upd f i v j).b = (f j).b := by
  unfold upd
  split
  · rename_i h; rw [h]
  · rfl
theorem upd_i (f : Nat → En) (i : Nat) (v : Int) : upd f i v i = ⟨(f i).b, (f i).h, v⟩ := if_pos rfl
theorem upd_ne (f : Nat → En) {i j : Nat} (v : Int) (h : j ≠ i) : upd f i v j = f j := if_neg h
theorem enP_b {a b : En} (h : a.b = b.b) : enP a = enP b := by unfold enP; rw [h]
theorem rowE_b {n : Nat} {f g : Nat → En} (h : ∀ i, i < n → (f i).b = (g i).b) : rowE n f = rowE n g := by
  unfold rowE
  exact List.map_congr_left fun i hi => enP_b (h i (List.mem_range.1 hi))
section
variable {W : AW} {In : Nat → Prop} {q mh : Nat} {less : Value} {ls : Int → Int → Bool} {nx : Int} {n : Nat} {f : Nat → En}
theorem gc_same (v : Value) (W : AW) : gc W (v, W) = (v, W) := by
  rcases gc_two (W := W) (W' := W) v with h | ⟨h, -⟩ <;> exact h
/-- an entry's value is stored -/
theorem QP.upd {W : AW} {lv c2 c3 : Value} {bl : Option Nat} (h : QP W q lv less c2 c3 n f bl) {i : Nat} (hi : i < n) (v : Int) :
    QP (W.put (f i).b (.cells (enC ⟨(f i).b, (f i).h, v⟩ i))) q lv less c2 c3 n (upd f i v) bl := by
  obtain ⟨hqc, hql, ⟨hsl, hen, hinj⟩, hbq, heq⟩ := h
  refine ⟨by rw [AW.get_put_ne _ _ (heq i hi)]; exact hqc, by rw [AW.put_next]; exact hql, ⟨?_, fun j hj => ?_, fun j k hj hk e => ?_⟩, hbq, fun j hj => by rw [upd_b]; exact heq j hj⟩
  · have hne := hsl.ne hi
    cases hsl with
    | nil h0 => exact .nil h0
    | row b junk h1 h2 h3 =>
      refine .row b junk ?_ (by rw [AW.put_next]; exact h2) fun j hj => by rw [upd_b]; exact h3 j hj
      rw [AW.get_put_ne _ _ (fun e => hne (by rw [e])), rowE_b (g := f) fun j _ => upd_b f i v j]
      exact h1
  · rw [AW.put_next, upd_b]
    refine ⟨?_, (hen j hj).2⟩
    by_cases hji : j = i
    · subst hji
      rw [upd_i]; exact AW.get_put _ _ _
    · rw [upd_ne f v hji, AW.get_put_ne _ _ (fun e => hji (hinj j i hj hi e.symm))]
      exact (hen j hj).1
  · rw [upd_b, upd_b] at e
    exact hinj j k hj hk e
end
end Go.Proofs.Ytkpgmabebjmahaa
/- The law's orders, its queue, and what it has seen. -/
namespace Go.Proofs.Ytkpgmabebjmahaa
open Go Go.Eng Go.Hp
set_option linter.unusedVariables false
set_option linter.unusedSimpArgs false
set_option linter.unusedSectionVars false
set_option maxRecDepth 100000
theorem max0_ok (a b : Int) (W : AW) : oBuiltin Try.prog .max #[3, 3] 3 #[false, true] [.int .i64 a, .int .i64 b] W = some (.int .i64 (max a b), W) := by
  have e : oBuiltin Try.prog .max #[3, 3] 3 #[false, true] [.int .i64 a, .int .i64 b] W = (pureS Try.prog ([Value.int .i64 a, .int .i64 b].all plain) (builtin .max #[3, 3] 3 #[false, true] #[.int .i64 a, .int .i64 b])).map fun v => (v, W) := by
    unfold oBuiltin
    rfl
  rw [e]
  have e2 : builtin .max #[3, 3] 3 #[false, true] #[.int .i64 a, .int .i64 b] = (do pure (.value (← Builtin.max_ #[3, 3] 3 #[.int .i64 a, .int .i64 b]))) := rfl
  rw [e2]
  refine pureV ?_ rfl _ rfl
  unfold Builtin.max_
  simp only [List.foldlM_cons, List.foldlM_nil, pureRun_bind, Builtin.max2, pureRun_pure, Option.bind_some]
  congr 2
  split <;> omega
/-- an order by a number -/
def byK (kf : Int → Int) (a b : Int) : Bool := decide (kf a < kf b)
theorem byK_ord (kf : Int → Int) : Ord (bef (byK kf)) := by
  refine ⟨fun a b h => ?_, fun a b c h1 h2 => ?_⟩
  · simp only [bef, byK, Bool.or_eq_true, Bool.and_eq_true, Bool.not_eq_true', decide_eq_true_eq, decide_eq_false_iff_not, Bool.or_eq_false_iff, Bool.and_eq_false_imp] at *
    omega
  · simp only [bef, byK, Bool.or_eq_true, Bool.and_eq_true, Bool.not_eq_true', decide_eq_true_eq, decide_eq_false_iff_not, Bool.or_eq_false_iff, Bool.and_eq_false_imp] at *
    omega
def tenK (a : Int) : Int := -((max a 0).tmod 10)
theorem less_ok : IsLess (.func (.func 35) #[] #[]) (byK id) := fun a b W => by
  refine om_drop rfl ?_ law06_less_om
  unfold law06_less
  simp only [SX, Ok_some]
  exact ⟨rfl, .refl _⟩
theorem tens_ok : IsLess (.func (.func 52) #[] #[]) (byK tenK) := fun a b W => by
  refine om_drop rfl ?_ law06_tens_om
  unfold law06_tens
  have e : ∀ x W, oBin Try.prog .rem 3 false true (.int .i64 x) (.int .i64 10) W = some (.int .i64 (x.tmod 10), W) := fun x W => oBin_rem (by omega)
  simp only [SX, max0_ok, e, Ok_some]
  refine ⟨?_, .refl _⟩
  unfold byK tenK
  congr 1
  simp
/-- the order that a kind names -/
def kfOf (k : Int) : Int → Int := if k.tmod 2 = 1 then tenK else id
def lsN (k : Int) : Nat := if k.tmod 2 = 1 then 52 else 35
theorem order_ok (k : Int) (W : AW) : omS (.func (.func 14) #[] #[]) [.int .u8 k] W = some (.func (.func (lsN k)) #[] #[], W) := by
  have main : law06_order omS (.int .u8 k) W = some (.func (.func (lsN k)) #[] #[], W) := by
    unfold law06_order lsN
    have e : oBin Try.prog .rem 5 false true (.int .u8 k) (.int .u8 2) W = some (.int .u8 (k.tmod 2), W) := oBin_rem (by omega)
    by_cases h : k.tmod 2 = 1
    · simp only [SX, e, h]
      rfl
    · simp only [SX, e, h]
      rfl
  rw [law06_order_om main, gc_not rfl]
theorem isLess_of (k : Int) : IsLess (.func (.func (lsN k)) #[] #[]) (byK (kfOf k)) := by
  unfold lsN kfOf
  by_cases h : k.tmod 2 = 1
  · rw [if_pos h, if_pos h]; exact tens_ok
  · rw [if_neg h, if_neg h]; exact less_ok
theorem QS.fresh {W : AW} {In : Nat → Prop} {q mh : Nat} {less : Value} {ls : Int → Int → Bool} {nx : Int} {n : Nat} {f : Nat → En} (h : QS W In q mh less ls nx n f) {i j : Nat} (hi : i < n) (hj : j < n) (e : (f i).h = (f j).h) : i = j := by
  obtain ⟨⟨lv, bl, h1, h2, h3⟩, ml, mq, me, iq, im, hp, ⟨m, m1, m2, m3⟩, hd, nx1⟩ := h
  have a1 := m2 i hi
  rw [e, m2 j hj] at a1
  injection a1 with a1
  injection a1 with a1; injection a1 with a1; injection a1 with a1
  exact h1.pile.inj i j hi hj a1.symm
/-- what a queue of these numbers holds -/
def idx (l : List Int) : List (Int × Int) := l.zipIdx.map fun p => (((p.2 + 1 : Nat) : Int), p.1)
theorem idx_take {l : List Int} {k : Nat} (hk : k < l.length) : idx (l.take (k + 1)) = idx (l.take k) ++ [(((k + 1 : Nat) : Int), l[k])] := by
  unfold idx
  rw [List.take_succ_eq_append_getElem hk, List.zipIdx_append, List.map_append]
  simp [List.length_take, Nat.min_eq_left (Nat.le_of_lt hk)]
def hv (e : En) : Int × Int := (e.h, e.v)
theorem lenI : ((#[22] : Array TypeId)[0]?).bind Try.prog.underlying = some (.slice 3) := by kernel_rfl
theorem made1_ok {k : Int} {v : Value} {l : List Int} {W : AW} {In : Nat → Prop} (h : Ints W v l) (hl : l.length ≤ 300) (hi : ∀ b, W.next ≤ b ↔ In b) :
    ∃ W' q mh g, omS (.func (.func 13) #[] #[]) [.int .u8 k, v] W = some (qV q, W') ∧ QS W' In q mh (.func (.func (lsN k)) #[] #[]) (byK (kfOf k)) ((l.length : Int) + 1) l.length g ∧ ((all l.length g).map hv).Perm (idx l) ∧ Gr W W' In := by
  obtain ⟨W1, q, mh, n1, n2, n3⟩ := new_ok (W := W) (fun b hb => (hi b).1 hb) (lsN k) (byK (kfOf k)) fun _ => ⟨0, 0, 0⟩
  have main : Ok (law06_made omS (.int .u8 k) v W) fun r => r.1 = qV q ∧ ∃ g, QS r.2 In q mh (.func (.func (lsN k)) #[] #[]) (byK (kfOf k)) ((l.length : Int) + 1) l.length g ∧ ((all l.length g).map hv).Perm (idx l) ∧ Gr W r.2 In := by
    unfold law06_made
    have e1 : ¬ ((300 : Int) < (l.length : Int)) := by omega
    simp only [SX, order_ok, n1, pEq, h.len lenI, e1]
    refine Ok_loop l.length (by omega) (fun j R W' => ∃ g, R 1 = v ∧ R 5 = qV q ∧ R 6 = .int .i64 (j : Int) ∧ QS W' In q mh (.func (.func (lsN k)) #[] #[]) (byK (kfOf k)) ((j : Int) + 1) j g ∧ ((all j g).map hv).Perm (idx (l.take j)) ∧ Gr W W' In)
      (fun r => r.1 = .exit 0 ∧ r.2.1 5 = qV q ∧ ∃ g, QS r.2.2 In q mh (.func (.func (lsN k)) #[] #[]) (byK (kfOf k)) ((l.length : Int) + 1) l.length g ∧ ((all l.length g).map hv).Perm (idx l) ∧ Gr W r.2.2 In) ⟨_, rfl, rfl, rfl, n2, .refl _, n3⟩ ?_ ?_ ?_
    · rintro j R W' hj ⟨g, r1, r5, r6, hQ, hP, hG⟩
      unfold law06_made_L1
      have e2 : ((j : Int) < (l.length : Int)) := by omega
      have e3 := fun W' => oBin_add (P := Try.prog) (W := W') (t := 3) (c := false) (d := true) (a := (j : Int)) (b := 1) (by omega) (by omega)
      have h' : Ints W' v l := by
        refine h.mono ⟨hG.next, fun b hb => hG.get b hb fun hx => ?_⟩
        have := (hi b).2 hx
        omega
      obtain ⟨p, g1, g2⟩ := h'.get hj
      obtain ⟨W2, g', s1, s2, s3, s4⟩ := qPush_ok (byK_ord (kfOf k)) (isLess_of k) hQ (by omega) (by omega) (fun b hb => (hi b).1 (by have := hG.next; omega)) l[j]
      have e4 : ¬ ¬ ((0 : Int) = 0) := by simp
      simp only [SX, r1, r5, r6, h.len lenI, e2, g1, g2 _ (.refl _), s1, e3, Ok_some]
      refine .inl ⟨trivial, g', r1, r5, by rw [show ((j + 1 : Nat) : Int) = (j : Int) + 1 by omega]; rfl, s2, ?_, hG.trans s4⟩
      rw [idx_take hj]
      refine (s3.map hv).trans ?_
      rw [List.map_cons]
      refine (hP.cons _).trans ?_
      have : hv { b := W'.next, h := (j : Int) + 1, v := l[j] } = (((j + 1 : Nat) : Int), l[j]) := by unfold hv; simp
      rw [this]
      exact (List.perm_append_singleton _ _).symm
    · rintro R W' ⟨g, r1, r5, r6, hQ, hP, hG⟩
      unfold law06_made_L1
      have e2 : ¬ ((l.length : Int) < (l.length : Int)) := by omega
      simp only [SX, r1, r5, r6, h.len lenI, e2, Ok_some]
      rw [List.take_length] at hP
      exact ⟨by simp, trivial, r5, g, hQ, hP, hG⟩
    · rintro ⟨x, R, W'⟩ ⟨hx, r5, hq⟩
      simp only at hx r5 hq
      subst hx
      simp only [SX, r5, Ok_some]
      exact ⟨trivial, hq⟩
  obtain ⟨⟨r, W'⟩, h1, h2, g, h3⟩ := main
  simp only at h2 h3
  subst h2
  exact ⟨W', q, mh, g, by rw [law06_made_om h1, gc_not rfl], h3⟩
/-- a row of bools -/
def bR (n : Nat) (g : Nat → Bool) : List Value := (List.range n).map fun i => .bool (g i)
theorem z4 : tZero Try.prog 4 = some (.bool false) := by kernel_rfl
theorem s4 : tSz Try.prog 4 = some 1 := by kernel_rfl
theorem b4 : (Try.prog.info? 4).map (·.bytes) = some 1 := by kernel_rfl
end Go.Proofs.Ytkpgmabebjmahaa
/- A queue's entries, sorted. -/
namespace Go.Proofs.Ytkpgmabebjmahaa
open Go Go.Eng Go.Hp
set_option linter.unusedVariables false
set_option linter.unusedSimpArgs false
set_option linter.unusedSectionVars false
set_option maxRecDepth 100000
/-! ### the orders, without what sorts by them -/
def IsLess1 (less : Value) (ls : Int → Int → Bool) : Prop := ∀ a b W, om1 less [.int .i64 a, .int .i64 b] W = some (.bool (ls a b), W)
theorem IsLess1.up {less : Value} {ls : Int → Int → Bool} (h : IsLess1 less ls) : IsLess less ls := fun a b W => om1_le _ _ _ _ (h a b W)
theorem less1_ok : IsLess1 (.func (.func 35) #[] #[]) (byK id) := fun a b W => by
  refine om_drop rfl ?_ law06_less_om1
  unfold law06_less
  simp only [SX, Ok_some]
  exact ⟨rfl, .refl _⟩
theorem pBefore1_ok {V : AW} {q : Nat} {lv less : Value} {ls : Int → Int → Bool} {rq ra rb : List Value} (hl : IsLess1 less ls) {a b : En} (hq : cellsAt V q = some (lv :: less :: rq)) (ha : cellsAt V a.b = some (.int .i64 a.h :: .int .i64 a.v :: ra)) (hb : cellsAt V b.b = some (.int .i64 b.h :: .int .i64 b.v :: rb)) :
    om1 (.func (.func 103) #[] #[]) [.pointer (some ⟨q, 0, none⟩), enP a, enP b] V = some (.bool (bef ls a b), V) := by
  refine om_drop rfl ?_ heaps_pileint_before_om1
  unfold heaps_pileint_before bef
  have q1 : ldC (.pointer (some ⟨q, 1, none⟩)) V = some (less, V) := ldC_ok hq rfl
  have a1 : ldC (.pointer (some ⟨a.b, 0, none⟩)) V = some (.int .i64 a.h, V) := ldC_ok ha rfl
  have a2 : ldC (.pointer (some ⟨a.b, 1, none⟩)) V = some (.int .i64 a.v, V) := ldC_ok ha rfl
  have b1 : ldC (.pointer (some ⟨b.b, 0, none⟩)) V = some (.int .i64 b.h, V) := ldC_ok hb rfl
  have b2 : ldC (.pointer (some ⟨b.b, 1, none⟩)) V = some (.int .i64 b.v, V) := ldC_ok hb rfl
  simp only [SX, oNilCheck_ptr, Nat.zero_add, q1, a2, b2, hl a.v b.v]
  cases ls a.v b.v
  case true =>
    simp only [SX, Ok_some]
    exact ⟨by simp, .refl _⟩
  simp only [SX, oNilCheck_ptr, Nat.zero_add, q1, a2, b2, hl b.v a.v]
  cases ls b.v a.v
  case true =>
    simp only [SX, Ok_some]
    exact ⟨by simp, .refl _⟩
  simp only [SX, oNilCheck_ptr, Nat.zero_add, a1, b1, Ok_some]
  exact ⟨by simp, .refl _⟩
/-! ### the copy -/
theorem u104 : Try.prog.underlying 104 = some (.slice 127) := by kernel_rfl
theorem sNil (c d : Bool) (l k : Nat) (W : AW) : oBin Try.prog .eql 104 c d (.slice none l k) (.slice none 0 0) W = some (.bool true, W) := by
  unfold oBin aBin aEql; simp only [u104]; rfl
theorem sSome (c d : Bool) (a : Addr) (l k : Nat) (W : AW) : oBin Try.prog .eql 104 c d (.slice (some a) l k) (.slice none 0 0) W = some (.bool false, W) := by
  unfold oBin aBin aEql; simp only [u104]
theorem bs104_0 (W : AW) : oBuildSlice Try.prog 104 0 [] W = some (.slice (some ⟨W.next, 0, none⟩) 0 0, W.add (.cells [])) := Eq.trans (by kernel_rfl) rfl
section
variable {P : Program} {W : AW}
/-- append onto an empty literal -/
theorem app_lit0 {ts : Array TypeId} {z bytes : Nat} (hk : appOk P ts z bytes = true) {b o n c : Nat} {cs new : List Value} (hc : cellsAt W b = some cs) (hn : new = (cs.drop o).take (n * z)) (hl : new.length = n * z) (h0 : 0 < n) (h1 : new.all Eng.one = true)
    {a : Addr} (hb : n < 1099511627776) (hb2 : (2 * n + 192) * bytes ≤ 281474976710656) :
    aAppend P W ts (.slice (some a) 0 0) (.slice (some ⟨b, o, none⟩) n c) = some (.slice (some ⟨W.next, 0, none⟩) n (BIG + z), W.add (.cells new)) := by
  obtain ⟨t, e, zv, k1, k2, k3, k4, k5, k6⟩ := appOk_inv hk
  have hr : readN W b o (n * z) = some new := by rw [readN_def, hc]; simp only; rw [if_pos (by rw [← hn]; exact hl), hn]
  have hr1 : readSlice W (.slice (some ⟨b, o, none⟩) n c) (n * z) = some new := by
    unfold readSlice
    simp only
    rw [if_neg (by have := Nat.mul_pos h0 k5; omega), if_neg (by omega)]
    exact hr
  have hr2 : readSlice W (.slice (some a) 0 0) (0 * z) = some [] := by
    unfold readSlice
    simp
  have hB : 0 < BIG := by unfold BIG; omega
  have hB2 : ¬ 0 = BIG + z := by unfold BIG; omega
  unfold aAppend
  simp only [k1, k2, k3, k4, if_true, Nat.zero_add, if_pos (And.intro k5 (And.intro k6 (And.intro hb hb2))), if_neg (show ¬ n = 0 by omega), hr1, hr2, h1, if_neg hB2, if_pos hB, if_neg (show ¬ n ≤ 0 by omega), AW.new_eq, List.nil_append]
theorem app_none {ts : Array TypeId} {z bytes : Nat} (hk : appOk P ts z bytes = true) {a a2 : Option Addr} {l c c2 : Nat} (h : l ≤ c) (hb : l < 1099511627776) (hb2 : (2 * l + 192) * bytes ≤ 281474976710656) :
    aAppend P W ts (.slice a l c) (.slice a2 0 c2) = some (.slice a l c, W) := by
  obtain ⟨t, e, zv, k1, k2, k3, k4, k5, k6⟩ := appOk_inv hk
  unfold aAppend
  simp only [k1, k2, k3, k4, if_true, Nat.add_zero, if_pos (And.intro k5 (And.intro k6 (And.intro hb hb2))), if_pos h]
end
theorem rowE_one (n : Nat) (f : Nat → En) : (rowE n f).all Eng.one = true := by
  unfold rowE
  rw [List.all_map, List.all_eq_true]
  intro i _
  rfl
theorem clone_ok {W : AW} {n : Nat} {f : Nat → En} {lv : Value} {bl : Option Nat} (h : SlAt W n f lv bl) (hn : n ≤ 10000) :
    ∃ v W', omS (.func (.func 100) #[] #[]) [lv] W = some (v, W') ∧ Le W W' ∧ ((n = 0 ∧ ∃ a c, v = .slice a 0 c) ∨ (0 < n ∧ ∃ b, W.next ≤ b ∧ b < W'.next ∧ v = .slice (some ⟨b, 0, none⟩) n (BIG + 1) ∧ W'.get b = some (.cells (rowE n f)))) := by
  cases h with
  | nil h0 =>
    have main : slices_Cloneheaps_entryintheaps_entryint omS (.slice none 0 0) W = some (.slice none 0 0, W) := by
      unfold slices_Cloneheaps_entryintheaps_entryint
      simp only [SX, sNil]
    exact ⟨_, W, by rw [slices_Cloneheaps_entryintheaps_entryint_om main, gc_same], .refl _, .inl ⟨h0, _, _, rfl⟩⟩
  | row bl junk h1 h2 h3 =>
    have hc : cellsAt (W.add (.cells [])) bl = some (rowE n f ++ junk) := by rw [cellsAt_add _ h2]; exact cellsAt_of h1
    by_cases h0 : n = 0
    · subst h0
      have e := app_none (P := Try.prog) (W := W.add (.cells [])) (ts := #[104, 104]) ap104 (a := some ⟨W.next, 0, none⟩) (a2 := some ⟨bl, 0, none⟩) (l := 0) (c := 0) (c2 := BIG + 1) (by omega) (by omega) (by omega)
      have main : slices_Cloneheaps_entryintheaps_entryint omS (.slice (some ⟨bl, 0, none⟩) 0 (BIG + 1)) W = some (.slice (some ⟨W.next, 0, none⟩) 0 0, W.add (.cells [])) := by
        unfold slices_Cloneheaps_entryintheaps_entryint
        simp only [SX, sSome, bs104_0, e]
      refine ⟨_, W.add (.cells []), by rw [slices_Cloneheaps_entryintheaps_entryint_om main, gc_not rfl], (Le.refl _).add _, .inl ⟨rfl, _, _, rfl⟩⟩
    · have e := app_lit0 (P := Try.prog) (W := W.add (.cells [])) (ts := #[104, 104]) ap104 (b := bl) (o := 0) (n := n) (c := BIG + 1) (new := rowE n f) hc (by rw [List.drop_zero, Nat.mul_one, List.take_append_of_le_length (by rw [rowE_len]; omega), List.take_of_length_le (by rw [rowE_len]; omega)]) (by rw [rowE_len]; omega) (by omega) (rowE_one n f) (a := ⟨W.next, 0, none⟩) (by omega) (by omega)
      have main : slices_Cloneheaps_entryintheaps_entryint omS (.slice (some ⟨bl, 0, none⟩) n (BIG + 1)) W = some (.slice (some ⟨W.next + 1, 0, none⟩) n (BIG + 1), (W.add (.cells [])).add (.cells (rowE n f))) := by
        unfold slices_Cloneheaps_entryintheaps_entryint
        simp only [SX, sSome, bs104_0, e, AW.add_next]
      refine ⟨_, _, by rw [slices_Cloneheaps_entryintheaps_entryint_om main, gc_not rfl], ((Le.refl _).add _).add _, .inr ⟨by omega, W.next + 1, by omega, by simp only [AW.add_next]; omega, rfl, ?_⟩⟩
      have := (W.add (.cells [])).get_add (.cells (rowE n f))
      rw [AW.add_next] at this
      exact this
end Go.Proofs.Ytkpgmabebjmahaa
/- A queue's entries, sorted: what the library sorts. -/
namespace Go.Proofs.Ytkpgmabebjmahaa
open Go Go.Eng Go.Hp
set_option linter.unusedVariables false
set_option linter.unusedSimpArgs false
set_option linter.unusedSectionVars false
set_option maxRecDepth 100000
/-! ### items -/
def befP (ls : Int → Int → Bool) (a b : Int × Int) : Bool := ls a.2 b.2 || (!ls b.2 a.2 && decide (a.1 < b.1))
def itC (x : Int × Int) : List Value := [.int .i64 x.1, .int .i64 x.2]
def itAt (cs : List Value) (p : Nat) (x : Int × Int) : Prop := cs[p]? = some (.int .i64 x.1) ∧ cs[p + 1]? = some (.int .i64 x.2)
abbrev Items (W : AW) (v : Value) (l : List (Int × Int)) : Prop := Row W 2 itAt v l
theorem itC_len (x : Int × Int) : (itC x).length = 2 := rfl
theorem itC_one (x : Int × Int) : (itC x).all Eng.one = true := rfl
theorem itC_at (x : Int × Int) (pre post : List Value) : itAt (pre ++ (itC x ++ post)) pre.length x := by
  unfold itAt itC
  constructor
  · rw [List.getElem?_append_right (Nat.le_refl _), Nat.sub_self]; rfl
  · rw [List.getElem?_append_right (by omega), Nat.add_sub_cancel_left]; rfl
theorem Lst.items {lo : Nat} {W : AW} {v : Value} {l : List (Int × Int)} (h : Lst lo W 2 itC v l) : Items W v l := h.row itC_len itC_at
theorem ap58 : appOk Try.prog #[58, 58] 2 16 = true := by kernel_rfl
theorem bd65 (a b : Int) (W : AW) : oBuild Try.prog 65 [(0, .int .i64 a), (1, .int .i64 b)] W = some (.agg #[.int .i64 a, .int .i64 b], W) := Eq.trans (by kernel_rfl) rfl
theorem bs58 (a b : Int) (W : AW) : oBuildSlice Try.prog 58 1 [(0, .agg #[.int .i64 a, .int .i64 b])] W = some (.slice (some ⟨W.next, 0, none⟩) 1 1, W.add (.cells [.int .i64 a, .int .i64 b])) := Eq.trans (by kernel_rfl) rfl
theorem body102 : HasBody Try.prog 102 := ⟨_, _, Try.func102, by kernel_rfl, rfl⟩
/-- the order of the entries, as the library asks it -/
def cfE (ls : Int → Int → Bool) (f : Nat → En) (i j : Nat) : Int := if (f i).b = (f j).b then 0 else if bef ls (f i) (f j) then -1 else 1
theorem bef_trans {α : Type} {lt : α → α → Bool} (o : Ord lt) {a b c : α} (h1 : lt a b = true) (h2 : lt b c = true) : lt a c = true := by
  cases h : lt a c with
  | true => rfl
  | false =>
    have := o.neg b c a (o.asym _ _ h2) h
    rw [h1] at this; cases this
theorem cfE_lt {ls : Int → Int → Bool} (o : Ord (bef ls)) {f : Nat → En} {n : Nat} (hinj : ∀ i j, i < n → j < n → (f i).b = (f j).b → i = j) {i j : Nat} (hi : i < n) (hj : j < n) : cfE ls f i j < 0 ↔ bef ls (f i) (f j) = true := by
  unfold cfE
  by_cases h : (f i).b = (f j).b
  · obtain rfl := hinj i j hi hj h
    rw [if_pos rfl, ord_irr o]
    simp
  · rw [if_neg h]
    cases bef ls (f i) (f j) <;> simp
theorem cfE_ord {ls : Int → Int → Bool} (o : Ord (bef ls)) {f : Nat → En} {n : Nat} (hinj : ∀ i j, i < n → j < n → (f i).b = (f j).b → i = j) : OrdN n (cfE ls f) where
  irrefl i hi h := by
    rw [cfE_lt o hinj hi hi, ord_irr o] at h; cases h
  trans i j l hi hj hl h1 h2 := by
    rw [cfE_lt o hinj hi hj] at h1
    rw [cfE_lt o hinj hj hl] at h2
    rw [cfE_lt o hinj hi hl]
    exact bef_trans o h1 h2
  ntrans i j l hi hj hl h1 h2 := by
    rw [cfE_lt o hinj hi hj, Bool.not_eq_true] at h1
    rw [cfE_lt o hinj hj hl, Bool.not_eq_true] at h2
    rw [cfE_lt o hinj hi hl, Bool.not_eq_true]
    exact o.neg _ _ _ h2 h1
theorem flat1 (l : List En) : (l.map fun e => [enP e]).flatten = l.map enP := by
  induction l with
  | nil => rfl
  | cons a l ih => rw [List.map_cons, List.flatten_cons, ih]; rfl
theorem rowE_all (n : Nat) (f : Nat → En) : rowE n f = (all n f).map enP := by
  unfold rowE all
  rw [List.map_map]; rfl
section
variable {q : Nat} {lv less c2 c3 : Value} {n : Nat} {f : Nat → En} {bl : Option Nat} {ls : Int → Int → Bool}
/-- the entries of a copy are sorted -/
theorem sortE_ok (o : Ord (bef ls)) (hl : IsLess1 less ls) (hlz : ∀ D, liesD D less) {V : AW} (h : QP V q lv less c2 c3 n f bl) (hn : n ≤ 10000) (h0 : 0 < n) {b X : Nat} (hb : V.get b = some (.cells (rowE n f))) (hbl : b < V.next) (hbq : b ≠ q) (hbb : bl ≠ some b) (hbe : ∀ i, i < n → (f i).b ≠ b) (hX : V.get X = some (.cells [.pointer (some ⟨q, 0, none⟩)])) (hXl : X < V.next) (hXb : X ≠ b) :
    ∃ es : List En, es.Perm (all n f) ∧ es.Pairwise (fun x y => bef ls y x = false) ∧ omS (.func (.func 101) #[] #[]) [.slice (some ⟨b, 0, none⟩) n (BIG + 1), .func (.func 102) #[] #[.pointer (some ⟨X, 0, none⟩)]] V = some (.tuple #[], V.put b (.cells (es.map enP))) := by
  obtain ⟨hqc, hql, ⟨hsl, hen, hinj⟩, hbq', heq⟩ := h
  have hlen : (all n f).length = n := all_len n f
  have hget : ∀ i (hi : i < (all n f).length), (all n f)[i] = f i := fun i hi => by simp [all]
  obtain ⟨es, e1, e2, e3⟩ := sortR_of (all n f) (fun e => [enP e]) (bef ls) (cf := cfE ls f) (by rw [hlen]; exact cfE_ord o hinj) (by omega) fun i j hi hj => by
    rw [hget, hget]
    exact cfE_lt o hinj (by omega) (by omega)
  refine ⟨es, e1, e2, ?_⟩
  -- what the view holds
  have vQ : ∃ r, cellsAt (roV V b) q = some ([lv, less] ++ r) := by
    obtain ⟨r, hr⟩ := roV_has (W := V) (b0 := b) (x := q) (cs := [lv, less]) (rest := [c2, c3]) (.inl hqc) hql (Ne.symm hbq) fun v hv => by
      rcases List.mem_cons.1 hv with rfl | hv
      · cases hsl with
        | nil h0 => exact liesD_snil
        | row bl junk h1 h2 h3 => exact liesD_slice ⟨fun e => hbb (congrArg some e), _, .inl h1⟩
      · obtain rfl := List.mem_singleton.1 hv
        exact hlz _
    exact ⟨r, by unfold cellsAt; rw [hr]⟩
  obtain ⟨rq, vQ⟩ := vQ
  have vX : ∃ r, cellsAt (roV V b) X = some ([.pointer (some ⟨q, 0, none⟩)] ++ r) := by
    obtain ⟨r, hr⟩ := roV_has (W := V) (b0 := b) (x := X) (cs := [.pointer (some ⟨q, 0, none⟩)]) (rest := []) (.inl hX) hXl hXb fun v hv => by
      obtain rfl := List.mem_singleton.1 hv
      exact liesD_ptr ⟨Ne.symm hbq, _, .inl hqc⟩
    exact ⟨r, by unfold cellsAt; rw [hr]⟩
  obtain ⟨rX, vX⟩ := vX
  have vE : ∀ i, i < n → ∃ r, cellsAt (roV V b) (f i).b = some (.int .i64 (f i).h :: .int .i64 (f i).v :: r) := fun i hi => by
    obtain ⟨r, hr⟩ := roV_has (W := V) (b0 := b) (x := (f i).b) (cs := enC (f i) i) (rest := []) (.inl (by rw [List.append_nil]; exact (hen i hi).1)) (hen i hi).2 (hbe i hi) fun v hv => liesD_plain (by
      simp only [enC, List.mem_cons, List.not_mem_nil, or_false] at hv
      rcases hv with rfl | rfl | rfl <;> rfl)
    exact ⟨.int .i64 (i : Int) :: r, by unfold cellsAt; rw [hr]; rfl⟩
  have key : SortFA Try.prog (ansPtr om1 102 103) [] false 1 V [.slice (some ⟨b, 0, none⟩) n (BIG + 1), .func (.func 102) #[] #[.pointer (some ⟨X, 0, none⟩)]] (V.put b (.cells (es.map enP))) := by
    refine .inr ⟨b, BIG + 1, (all n f).map fun e => [enP e], [], 102, #[.pointer (some ⟨X, 0, none⟩)], cfE ls f, ⟨?_, ?_, ?_, ?_, ?_, ?_, ?_, ?_, ?_, body102, ?_, ?_, ?_⟩⟩
    · intro h
      have := congrArg List.length h
      rw [List.length_map, hlen] at this
      simp at this; omega
    · rw [List.length_map, hlen]; omega
    · intro r hr
      obtain ⟨e, -, rfl⟩ := List.mem_map.1 hr
      rfl
    · intro r hr v hv
      obtain ⟨e, -, rfl⟩ := List.mem_map.1 hr
      obtain rfl := List.mem_singleton.1 hv
      rfl
    · rw [List.length_map, hlen]
    · rw [flat1, List.append_nil, ← rowE_all]; exact hb
    · intro r hr v hv
      obtain ⟨e, he, rfl⟩ := List.mem_map.1 hr
      obtain rfl := List.mem_singleton.1 hv
      obtain ⟨i, hi, rfl⟩ := all_mem.1 he
      exact liesD_ptr ⟨hbe i hi, _, .inl (hen i hi).1⟩
    · intro v hv
      obtain rfl : v = .pointer (some ⟨X, 0, none⟩) := by simpa using hv
      exact liesD_ptr ⟨hXb, _, .inl hX⟩
    · intro g hg; cases hg
    · intro i j hi hj
      rw [List.length_map] at hi hj
      rw [List.getElem_map, List.getElem_map, hget, hget]
      rw [hlen] at hi hj
      obtain ⟨ri, hri⟩ := vE i hi
      obtain ⟨rj, hrj⟩ := vE j hj
      have hbo := pBefore1_ok (rq := rq) hl vQ hri hrj
      show ansPtr om1 102 103 V b 102 #[.pointer (some ⟨X, 0, none⟩)] (enP (f i)) (enP (f j)) = _
      unfold ansPtr cfE
      simp only [if_true, enP]
      rw [show (cellsAt (roV V b) X).bind (fun x => x[0]?) = some (.pointer (some ⟨q, 0, none⟩)) by rw [vX]; rfl]
      simp only
      by_cases hij : (f i).b = (f j).b
      · rw [if_pos (by rw [hij]), if_pos hij]
      · rw [if_neg (fun e => hij (by injection e)), if_neg hij, (hen i hi).1, (hen j hj).1]
        simp only
        rw [if_pos ⟨hij, by simp, by simp⟩]
        have hbo' : om1 (.func (.func 103) #[] #[]) [.pointer (some ⟨q, 0, none⟩), .pointer (some ⟨(f i).b, 0, none⟩), .pointer (some ⟨(f j).b, 0, none⟩)] (roV V b) = some (.bool (bef ls (f i) (f j)), roV V b) := hbo
        rw [hbo']
    · rw [List.length_map, hlen]; exact cfE_ord o hinj
    · rw [e3, flat1, List.append_nil]
  exact sort101_ok key
end
end Go.Proofs.Ytkpgmabebjmahaa
/- A queue's entries, sorted; Save. -/
namespace Go.Proofs.Ytkpgmabebjmahaa
open Go Go.Eng Go.Hp
set_option linter.unusedVariables false
set_option linter.unusedSimpArgs false
set_option linter.unusedSectionVars false
set_option maxRecDepth 100000
theorem len104 : ((#[104] : Array TypeId)[0]?).bind Try.prog.underlying = some (.slice 127) := by kernel_rfl
theorem Lst.low {α : Type} {lo lo' z : Nat} {W : AW} {f : α → List Value} {v : Value} {l : List α} (h : Lst lo W z f v l) (hl : lo' ≤ lo) : Lst lo' W z f v l := by
  rcases h with h | ⟨h0, B, h1, h2⟩
  · exact .inl h
  · exact .inr ⟨h0, B, by omega, h2⟩
theorem om_lst {α : Type} {o t : Option (Value × AW)} {W : AW} {lo z : Nat} {f : α → List Value} {l : List α} (h : Ok t fun r => Le W r.2 ∧ Lst lo r.2 z f r.1 l) (hom : ∀ {r}, t = some r → o = some (gc W r)) : ∃ v W2, o = some (v, W2) ∧ Le W W2 ∧ Lst lo W2 z f v l := by
  obtain ⟨⟨v, W'⟩, h1, h2, h3⟩ := h
  rcases h3 with ⟨rfl, rfl⟩ | ⟨h0, B, h4, h5, rfl, h6⟩
  · rcases gc_two (W := W) (W' := W') (.slice none 0 0) with hg | ⟨hg, hle⟩
    · exact ⟨_, W', by rw [hom h1]; exact congrArg some hg, h2, .nil _ _ _ _⟩
    · exact ⟨_, W, by rw [hom h1]; exact congrArg some hg, .refl _, .nil _ _ _ _⟩
  · exact ⟨_, W', by rw [hom h1, gc_not rfl], h2, .inr ⟨h0, B, h4, h5, rfl, h6⟩⟩
/-- sorted items of a queue -/
structure Srt (ls : Int → Int → Bool) (n : Nat) (f : Nat → En) (l : List (Int × Int)) : Prop where
  perm : l.Perm ((all n f).map hv)
  sort : l.Pairwise fun a b => befP ls b a = false
section
variable {W : AW} {In : Nat → Prop} {q mh : Nat} {less : Value} {ls : Int → Int → Bool} {nx : Int} {n : Nat} {f : Nat → En}
theorem sorted_ok (o : Ord (bef ls)) (hl : IsLess1 less ls) (hlz : ∀ D, liesD D less) (h : QS W In q mh less ls nx n f) (hn : n ≤ 10000) :
    ∃ W' v l, omS (.func (.func 67) #[] #[]) [qV q] W = some (v, W') ∧ Le W W' ∧ Lst W.next W' 2 itC v l ∧ Srt ls n f l := by
  have main : ∃ l, Srt ls n f l ∧ Ok (heaps_Queueint_sorted omS (qV q) W) fun r => Le W r.2 ∧ Lst W.next r.2 2 itC r.1 l := by
    obtain ⟨⟨lv, bl, h1, h2, h3⟩, -⟩ := h
    have oBoxP : ∀ W, oBox (qV q) W = some (.pointer (some ⟨W.next, 0, none⟩), W.add (.cells [qV q])) := fun W => rfl
    generalize hW1 : W.add (.cells [qV q]) = W1
    have g1 : ∀ b, b < W.next → W1.get b = W.get b := fun b hb => by rw [← hW1]; exact AW.get_add_ne _ _ (by omega)
    have n1 : W1.next = W.next + 1 := by rw [← hW1, AW.add_next]
    have l1 : Le W W1 := by rw [← hW1]; exact (Le.refl _).add _
    have x1 : W1.get W.next = some (.cells [qV q]) := by rw [← hW1]; exact AW.get_add _ _
    have q1 : QP W1 q lv less (.map (some mh)) (.int .i64 nx) n f bl := h1.keep (by omega) fun b hb _ => g1 b hb
    obtain ⟨v1, W2, c1, c2, c3⟩ := clone_ok q1.pile.sl hn
    have q2 : QP W2 q lv less (.map (some mh)) (.int .i64 nx) n f bl := q1.keep c2.next fun b hb _ => c2.get b hb
    have x2 : W2.get W.next = some (.cells [qV q]) := (c2.get _ (by omega)).trans x1
    have hbn : ∀ b, bl = some b → b < W1.next := fun b hb => q1.pile.sl.lt hb
    -- the sort
    have hs : ∃ (es : List En) (W3 : AW), es.Perm (all n f) ∧ es.Pairwise (fun x y => bef ls y x = false) ∧ omS (.func (.func 101) #[] #[]) [v1, .func (.func 102) #[] #[.pointer (some ⟨W.next, 0, none⟩)]] W2 = some (.tuple #[], W3) ∧ W3.next = W2.next ∧ (∀ b, b < W1.next → W3.get b = W2.get b) ∧
        (∀ W', oBuiltin Try.prog .len #[104] 3 #[false] [v1] W' = some (.int .i64 (n : Int), W')) ∧ ∀ i (hi : i < es.length), ∃ b, (∀ W' k, ixS 1 v1 (.int k (i : Int)) W' = some (.pointer (some ⟨b, i, none⟩), W')) ∧ ∀ W', Le W3 W' → ldC (.pointer (some ⟨b, i, none⟩)) W' = some (enP es[i], W') := by
      rcases c3 with ⟨rfl, a, c, rfl⟩ | ⟨h0, b, b1, b2, rfl, b3⟩
      · refine ⟨[], W2, .refl _, .nil, sort101_ok (.inl ⟨a, c, _, rfl, rfl⟩), rfl, fun _ _ => rfl, fun W' => len_slice len104 _ _ _, fun i hi => by simp at hi⟩
      · obtain ⟨es, e1, e2, e3⟩ := sortE_ok o hl hlz q2 hn h0 b3 b2 (by have := q1.lt; omega) (fun e => by have := hbn b e; omega) (fun i hi e => by have := (q1.pile.en i hi).2; omega) x2 (by have := c2.next; omega) (by omega)
        have hlen : es.length = n := by rw [e1.length_eq, all_len]
        refine ⟨es, _, e1, e2, e3, by rw [AW.put_next], fun d hd => AW.get_put_ne _ _ (by omega), fun W' => len_slice len104 _ _ _, fun i hi => ⟨b, fun W' k => by rw [ixS_ok (by omega), Nat.zero_add, Nat.mul_one], fun W' hle => ldR (rwOf (cs := es.map enP) ?_) ?_⟩⟩
        · rw [hle.get b (by rw [AW.put_next]; exact b2)]
          exact AW.get_put _ _ _
        · rw [List.getElem?_map, List.getElem?_eq_getElem hi]; rfl
    obtain ⟨es, W3, e1, e2, e3, n3, g3, e4, e5⟩ := hs
    have hlen : es.length = n := by rw [e1.length_eq, all_len]
    have l3 : Le W1 W3 := ⟨by rw [n3]; exact c2.next, fun b hb => by rw [g3 b hb]; exact c2.get b hb⟩
    have hcell : ∀ i (hi : i < es.length) W', Le W3 W' → ldC (.pointer (some ⟨es[i].b, 0, none⟩)) W' = some (.int .i64 es[i].h, W') ∧ ldC (.pointer (some ⟨es[i].b, 1, none⟩)) W' = some (.int .i64 es[i].v, W') := fun i hi W' hle => by
      obtain ⟨k, hk, e⟩ := all_mem.1 (e1.mem_iff.1 (List.getElem_mem hi))
      have hc : W'.get (f k).b = some (.cells (enC (f k) k)) := by
        have := q1.pile.en k hk
        rw [hle.get _ (Nat.lt_of_lt_of_le this.2 l3.next), l3.get _ this.2]
        exact this.1
      rw [← e]
      exact ⟨ldR (rwOf hc) rfl, ldR (rwOf hc) rfl⟩
    refine ⟨es.map hv, ⟨e1.map hv, by rw [List.pairwise_map]; exact e2⟩, ?_⟩
    unfold heaps_Queueint_sorted
    simp only [SX, oBoxP, hW1, ldR (o := 0) (rwOf x1) rfl, oNilCheck_ptr, Nat.zero_add, q1.l0, c1, e3, e4]
    refine Ok_loop n (by omega) (fun k R W' => ∃ out, R 16 = v1 ∧ R 17 = .int .i64 (n : Int) ∧ R 18 = .int .i64 (k : Int) ∧ R 4 = out ∧ Le W3 W' ∧ Lst W3.next W' 2 itC out ((es.take k).map hv))
      (fun r => r.1 = .exit 0 ∧ ∃ out, r.2.1 4 = out ∧ Le W3 r.2.2 ∧ Lst W.next r.2.2 2 itC out (es.map hv)) ⟨_, rfl, rfl, rfl, rfl, .refl _, .nil _ _ _ _⟩ ?_ ?_ ?_
    · rintro k R W' hk ⟨out, r16, r17, r18, r4, hle, hL⟩
      unfold heaps_Queueint_sorted_L1
      have hke : k < es.length := by omega
      obtain ⟨b, f1, f2⟩ := e5 k hke
      obtain ⟨d1, d2⟩ := hcell k hke W' hle
      have t1 : ((k : Int) < (n : Int)) := by omega
      have t2 := fun W' => oBin_add (P := Try.prog) (W := W') (t := 3) (c := false) (d := true) (a := (k : Int)) (b := 1) (by omega) (by omega)
      have hlt : ((es.take k).map hv).length = k := by rw [List.length_map, List.length_take]; omega
      obtain ⟨v', W4, p1, p2, p3, p4⟩ := (hL.mono ((Le.refl W').add (.cells (itC (hv es[k]))))).push (a := hv es[k]) (b := W'.next) (c := 1) ap58 itC_len itC_one cellsAt_new (by rw [hlt]; omega) (by rw [hlt]; omega) (by rw [AW.add_next]; have := hle.next; omega)
      simp only [SX, r16, r17, r18, r4, t1, f1, f2 W' hle, oNilCheck_ptr, Nat.zero_add, d1, d2, bd65, bs58]
      have p1' : aAppend Try.prog (W'.add (.cells [.int .i64 es[k].h, .int .i64 es[k].v])) #[58, 58] out (.slice (some ⟨W'.next, 0, none⟩) 1 1) = some (v', W4) := p1
      simp only [SX, p1', t2, Ok_some]
      refine .inl ⟨trivial, v', r16, r17, by rw [show ((k + 1 : Nat) : Int) = (k : Int) + 1 by omega]; rfl, rfl, p4 _ (hle.add _) (Nat.le_refl _), ?_⟩
      rw [List.take_succ_eq_append_getElem hke, List.map_append]
      exact p2
    · rintro R W' ⟨out, r16, r17, r18, r4, hle, hL⟩
      unfold heaps_Queueint_sorted_L1
      have t1 : ¬ ((n : Int) < (n : Int)) := by omega
      simp only [SX, r16, r17, r18, t1, Ok_some]
      rw [List.take_of_length_le (by omega)] at hL
      exact ⟨by simp, trivial, out, r4, hle, Lst.low hL (by have := l3.next; omega)⟩
    · rintro ⟨x, R, W'⟩ ⟨hx, out, r4, hle, hL⟩
      simp only at hx r4 hle hL
      subst hx
      simp only [SX, r4, Ok_some]
      exact ⟨(l1.trans l3).trans hle, hL⟩
  obtain ⟨l, hs, main⟩ := main
  obtain ⟨v, W2, k1, k2, k3⟩ := om_lst main heaps_Queueint_sorted_om
  exact ⟨W2, v, l, k1, k2, k3, hs⟩
end
end Go.Proofs.Ytkpgmabebjmahaa
/- A queue: Save, All. -/
namespace Go.Proofs.Ytkpgmabebjmahaa
open Go Go.Eng Go.Hp
set_option linter.unusedVariables false
set_option linter.unusedSimpArgs false
set_option linter.unusedSectionVars false
set_option maxRecDepth 100000
theorem al60 (W : AW) : oAlloc Try.prog 60 W = some (.pointer (some ⟨W.next, 0, none⟩), W.add (.cells [.int .i64 0, .slice none 0 0])) := Eq.trans (by kernel_rfl) rfl
theorem bd60 (x : Int) (a : Option Addr) (l c : Nat) (W : AW) : oBuild Try.prog 60 [(0, .int .i64 x), (1, .slice a l c)] W = some (.agg #[.int .i64 x, .slice a l c], W) := Eq.trans (by kernel_rfl) rfl
theorem oL60 (x : Value) (W : AW) : oLoad Try.prog 60 x W = ldA 2 x W := by kernel_rfl
theorem al65 (W : AW) : oAlloc Try.prog 65 W = some (.pointer (some ⟨W.next, 0, none⟩), W.add (.cells [.int .i64 0, .int .i64 0])) := Eq.trans (by kernel_rfl) rfl
theorem len58 : ((#[58] : Array TypeId)[0]?).bind Try.prog.underlying = some (.slice 65) := by kernel_rfl
section
variable {W : AW} {In : Nat → Prop} {q mh : Nat} {less : Value} {ls : Int → Int → Bool} {nx : Int} {n : Nat} {f : Nat → En}
theorem save_ok (o : Ord (bef ls)) (hl : IsLess1 less ls) (hlz : ∀ D, liesD D less) (h : QS W In q mh less ls nx n f) (hn : n ≤ 10000) :
    ∃ W' v l, omS (.func (.func 27) #[] #[]) [qV q] W = some (.agg #[.int .i64 nx, v], W') ∧ Le W W' ∧ Lst W.next W' 2 itC v l ∧ Srt ls n f l := by
  generalize hW1 : W.add (.cells [.int .i64 0, .slice none 0 0]) = W1
  have n1 : W1.next = W.next + 1 := by rw [← hW1, AW.add_next]
  have l1 : Le W W1 := by rw [← hW1]; exact (Le.refl _).add _
  have x1 : W1.get W.next = some (.cells [.int .i64 0, .slice none 0 0]) := by rw [← hW1]; exact AW.get_add _ _
  have h1 : QS W1 In q mh less ls nx n f := h.keep l1.next (fun b hb _ => l1.get b hb) (fun b _ hi => hi)
  have hm := made_ok h1
  obtain ⟨W2, v, l, s1, s2, s3, s4⟩ := sorted_ok o hl hlz h1 hn
  have h2 : QS W2 In q mh less ls nx n f := h1.keep s2.next (fun b hb _ => s2.get b hb) (fun b _ hi => hi)
  have x2 : W2.get W.next = some (.cells [.int .i64 0, .slice none 0 0]) := (s2.get _ (by omega)).trans x1
  have c1 : ldC (.pointer (some ⟨q, 3, none⟩)) W1 = some (.int .i64 nx, W1) := by obtain ⟨⟨lv, bl, k1, -⟩, -⟩ := h1; exact k1.l3
  have c2 : ldC (.pointer (some ⟨q, 3, none⟩)) W2 = some (.int .i64 nx, W2) := by obtain ⟨⟨lv, bl, k1, -⟩, -⟩ := h2; exact k1.l3
  have main : Ok (heaps_Queueint_Save omS (qV q) W) fun r => r.1 = .agg #[.int .i64 nx, v] ∧ Le W r.2 ∧ Lst W.next r.2 2 itC v l := by
    obtain ⟨a, c, rfl, -⟩ := Lst.items s3
    unfold heaps_Queueint_Save
    have e2 : setN [Value.int .i64 0, .slice none 0 0] 0 [.int .i64 nx, .slice a l.length c] = [.int .i64 nx, .slice a l.length c] := rfl
    have st : stV 2 (.pointer (some ⟨W.next, 0, none⟩)) (.agg #[.int .i64 nx, .slice a l.length c]) W2 = some (undef, W2.put W.next (.cells [.int .i64 nx, .slice a l.length c])) := by
      rw [stV_agg, rwOf x2, Option.bind_some, if_pos ⟨rfl, by simp, rfl⟩]
      rfl
    have ld : ldA 2 (.pointer (some ⟨W.next, 0, none⟩)) (W2.put W.next (.cells [.int .i64 nx, .slice a l.length c])) = some (.agg #[.int .i64 nx, .slice a l.length c], W2.put W.next (.cells [.int .i64 nx, .slice a l.length c])) := ldA_all (cellsAt_of (AW.get_put _ _ _)) rfl
    simp only [SX, al60, hW1, hm, oNilCheck_ptr, Nat.zero_add, c1, s1, c2, agV_some, vsame_int, Bool.and_self, bd60, st, oRes_L1, oL60, ld, Option.bind_some, Ok_some]
    refine ⟨trivial, ⟨by rw [AW.put_next]; exact Nat.le_trans l1.next s2.next, fun b hb => ?_⟩, ?_⟩
    · rw [AW.get_put_ne _ _ (by omega), s2.get b (by omega)]
      exact l1.get b hb
    · rcases s3 with ⟨h0, e⟩ | ⟨h0, B, b1, b2, e, b3⟩
      · exact .inl ⟨h0, e⟩
      · refine .inr ⟨h0, B, by omega, by rw [AW.put_next]; exact b2, e, ?_⟩
        rw [AW.get_put_ne _ _ (by omega)]
        exact b3
  obtain ⟨⟨r, W'⟩, k1, k2, k3, k4⟩ := main
  simp only at k2 k3 k4
  subst k2
  rcases gc_two (W := W) (W' := W') (.agg #[.int .i64 nx, v]) with hg | ⟨hg, hle⟩
  · exact ⟨W', v, l, by rw [heaps_Queueint_Save_om k1, hg], k3, k4, s4⟩
  · refine ⟨W, v, l, by rw [heaps_Queueint_Save_om k1, hg], .refl _, ?_, s4⟩
    rcases k4 with k4 | ⟨h0, B, b1, b2, e, b3⟩
    · exact .inl k4
    · subst e
      have : gc W (.agg #[.int .i64 nx, .slice (some ⟨B, 0, none⟩) l.length (BIG + 2)], W') = (.agg #[.int .i64 nx, .slice (some ⟨B, 0, none⟩) l.length (BIG + 2)], W') := gc_not rfl
      rw [this] at hg
      injection hg with _ hg
      subst hg
      exact .inr ⟨h0, B, b1, b2, rfl, b3⟩
end
end Go.Proofs.Ytkpgmabebjmahaa
/- What ranges over a queue; walked, Same. -/
namespace Go.Proofs.Ytkpgmabebjmahaa
open Go Go.Eng Go.Hp
set_option linter.unusedVariables false
set_option linter.unusedSimpArgs false
set_option linter.unusedSectionVars false
set_option maxRecDepth 100000
section
variable {W : AW} {In : Nat → Prop} {q mh : Nat} {less : Value} {ls : Int → Int → Bool} {nx : Int} {n : Nat} {f : Nat → En}
end
end Go.Proofs.Ytkpgmabebjmahaa
/- walked, Same. -/
namespace Go.Proofs.Ytkpgmabebjmahaa
open Go Go.Eng Go.Hp
set_option linter.unusedVariables false
set_option linter.unusedSimpArgs false
set_option linter.unusedSectionVars false
set_option maxRecDepth 100000
theorem lst_slice {α : Type} {lo z : Nat} {W : AW} {f : α → List Value} {v : Value} {l : List α} (h : Lst lo W z f v l) : ∃ a c, v = .slice a l.length c := by
  rcases h with ⟨rfl, rfl⟩ | ⟨_, B, _, _, rfl, _⟩ <;> exact ⟨_, _, rfl⟩
section
variable {W : AW} {In : Nat → Prop} {q mh : Nat} {less : Value} {ls : Int → Int → Bool} {nx : Int} {n : Nat} {f : Nat → En}
end
end Go.Proofs.Ytkpgmabebjmahaa
/- What is sorted is one; Same. -/
namespace Go.Proofs.Ytkpgmabebjmahaa
open Go Go.Eng Go.Hp
set_option linter.unusedVariables false
set_option linter.unusedSimpArgs false
set_option linter.unusedSectionVars false
set_option maxRecDepth 100000
/-- what is sorted, its handles different, is one list -/
theorem sort_uniq {ls : Int → Int → Bool} : ∀ {l l' : List (Int × Int)}, l.Perm l' → l.Pairwise (fun a b => befP ls b a = false) → l'.Pairwise (fun a b => befP ls b a = false) → (∀ a ∈ l, ∀ b ∈ l, a.1 = b.1 → a = b) → l = l'
  | [], l', hp, _, _, _ => (List.nil_perm.1 hp).symm
  | a :: l, [], hp, _, _, _ => absurd hp.length_eq (by simp)
  | a :: l, b :: l', hp, h1, h2, hd => by
    have hab : a = b := by
      by_cases e : a = b
      · exact e
      · exfalso
        have ha : a ∈ l' := by
          rcases List.mem_cons.1 (hp.mem_iff.1 (List.mem_cons_self ..)) with h | h
          · exact absurd h e
          · exact h
        have hb : b ∈ l := by
          rcases List.mem_cons.1 (hp.mem_iff.2 (List.mem_cons_self ..)) with h | h
          · exact absurd h.symm e
          · exact h
        have x1 := List.rel_of_pairwise_cons h1 hb
        have x2 := List.rel_of_pairwise_cons h2 ha
        have x3 : a.1 ≠ b.1 := fun h => e (hd a (List.mem_cons_self ..) b (List.mem_cons_of_mem _ hb) h)
        unfold befP at x1 x2
        simp only [Bool.or_eq_false_iff, Bool.and_eq_false_imp, Bool.not_eq_true', decide_eq_false_iff_not] at x1 x2
        have y1 := x1.2 x2.1
        have y2 := x2.2 x1.1
        omega
    subst hab
    rw [sort_uniq (List.Perm.cons_inv hp) (List.Pairwise.of_cons h1) (List.Pairwise.of_cons h2) fun x hx y hy => hd x (List.mem_cons_of_mem _ hx) y (List.mem_cons_of_mem _ hy)]
/-- the handles of a queue are different -/
theorem QS.diff {W : AW} {In : Nat → Prop} {q mh : Nat} {less : Value} {ls : Int → Int → Bool} {nx : Int} {n : Nat} {f : Nat → En} (h : QS W In q mh less ls nx n f) {l : List (Int × Int)} (hl : l.Perm ((all n f).map hv)) : ∀ a ∈ l, ∀ b ∈ l, a.1 = b.1 → a = b := by
  intro a ha b hb e
  obtain ⟨x, hx, rfl⟩ := List.mem_map.1 (hl.mem_iff.1 ha)
  obtain ⟨y, hy, rfl⟩ := List.mem_map.1 (hl.mem_iff.1 hb)
  obtain ⟨i, hi, rfl⟩ := all_mem.1 hx
  obtain ⟨j, hj, rfl⟩ := all_mem.1 hy
  rw [h.fresh hi hj e]
theorem Srt.eq {W : AW} {In : Nat → Prop} {q mh : Nat} {less : Value} {ls : Int → Int → Bool} {nx : Int} {n m : Nat} {f g : Nat → En} {l l' : List (Int × Int)} (h : QS W In q mh less ls nx n f) (h1 : Srt ls n f l) (h2 : Srt ls m g l') (hp : ((all m g).map hv).Perm ((all n f).map hv)) : l' = l := by
  refine sort_uniq (h2.perm.trans (hp.trans h1.perm.symm)) h2.sort h1.sort (h.diff (h2.perm.trans hp))
theorem Items.get {W : AW} {v : Value} {l : List (Int × Int)} (h : Items W v l) {i : Nat} (hi : i < l.length) :
    ∃ b o, (∀ W' k, ixS 2 v (.int k (i : Int)) W' = some (.pointer (some ⟨b, o, none⟩), W')) ∧ b < W.next ∧ ∀ W', W'.get b = W.get b → ldA 2 (.pointer (some ⟨b, o, none⟩)) W' = some (.agg #[.int .i64 l[i].1, .int .i64 l[i].2], W') ∧ ldC (.pointer (some ⟨b, o, none⟩)) W' = some (.int .i64 l[i].1, W') := by
  obtain ⟨b, o, cs, h1, h2, h3, h4, h5⟩ := h.elem hi
  refine ⟨b, o, h1, h2, fun W' hg => ?_⟩
  have hc : cellsAt W' b = some cs := by
    have : cellsAt W' b = cellsAt W b := by unfold cellsAt; rw [hg]
    rw [this]; exact h3
  refine ⟨?_, ldC_ok hc h4⟩
  have e3 : (cs.drop o).take 2 = [.int .i64 l[i].1, .int .i64 l[i].2] := by
    obtain ⟨a1, a2⟩ := List.getElem?_eq_some_iff.1 h4
    obtain ⟨b1, b2⟩ := List.getElem?_eq_some_iff.1 h5
    rw [List.drop_eq_getElem_cons a1, List.drop_eq_getElem_cons b1, a2, b2]
    rfl
  have := ldA_ok (n := 2) (o := o) hc (by rw [e3]; rfl)
  rw [e3] at this
  exact this
end Go.Proofs.Ytkpgmabebjmahaa
/- A queue: Load. -/
namespace Go.Proofs.Ytkpgmabebjmahaa
open Go Go.Eng Go.Hp
set_option linter.unusedVariables false
set_option linter.unusedSimpArgs false
set_option linter.unusedSectionVars false
set_option maxRecDepth 100000
theorem bd132c (h v i : Int) (W : AW) : oBuild Try.prog 132 [(0, .int .i64 h), (1, .int .i64 v), (2, .int .i64 i)] W = some (.agg #[.int .i64 h, .int .i64 v, .int .i64 i], W) := Eq.trans (by kernel_rfl) rfl
/-- the errors of a state -/
def badR (nx : Int) (l : List (Int × Int)) : Prop := ∃ i, ∃ hi : i < l.length, l[i].1 < 1 ∨ nx ≤ l[i].1
def twiceR (l : List (Int × Int)) (n : Nat) : Prop := ∃ i j, ∃ hj : j < l.length, ∃ hij : i < j, j < n ∧ l[i].1 = l[j].1
def formR (ls : Int → Int → Bool) (l : List (Int × Int)) : Prop := ∃ i, ∃ hi : i + 1 < l.length, befP ls l[i] l[i + 1] = false
open Classical in
noncomputable def chk (ls : Int → Int → Bool) (nx : Int) (l : List (Int × Int)) : Int :=
  if nx < 1 ∨ 1000000000000000 < nx then 7 else if badR nx l then 7 else if twiceR l l.length then 8 else if formR ls l then 6 else 0
theorem bef_P {ls : Int → Int → Bool} (a b : En) : bef ls a b = befP ls (hv a) (hv b) := rfl
theorem Items.get2 {W : AW} {v : Value} {l : List (Int × Int)} (h : Items W v l) {i : Nat} (hi : i < l.length) :
    ∃ b o, (∀ W' k, ixS 2 v (.int k (i : Int)) W' = some (.pointer (some ⟨b, o, none⟩), W')) ∧ b < W.next ∧ ∀ W', W'.get b = W.get b → ldA 2 (.pointer (some ⟨b, o, none⟩)) W' = some (.agg #[.int .i64 l[i].1, .int .i64 l[i].2], W') ∧ ldC (.pointer (some ⟨b, o, none⟩)) W' = some (.int .i64 l[i].1, W') ∧ ldC (.pointer (some ⟨b, o + 1, none⟩)) W' = some (.int .i64 l[i].2, W') := by
  obtain ⟨b, o, cs, h1, h2, h3, h4, h5⟩ := h.elem hi
  refine ⟨b, o, h1, h2, fun W' hg => ?_⟩
  have hc : cellsAt W' b = some cs := by
    have : cellsAt W' b = cellsAt W b := by unfold cellsAt; rw [hg]
    rw [this]; exact h3
  refine ⟨?_, ldC_ok hc h4, ldC_ok hc h5⟩
  have e3 : (cs.drop o).take 2 = [.int .i64 l[i].1, .int .i64 l[i].2] := by
    obtain ⟨a1, a2⟩ := List.getElem?_eq_some_iff.1 h4
    obtain ⟨b1, b2⟩ := List.getElem?_eq_some_iff.1 h5
    rw [List.drop_eq_getElem_cons a1, List.drop_eq_getElem_cons b1, a2, b2]
    rfl
  have := ldA_ok (n := 2) (o := o) hc (by rw [e3]; rfl)
  rw [e3] at this
  exact this
theorem asc_heap {lt : En → En → Bool} (o : Ord lt) {n : Nat} {f : Nat → En} (h : ∀ i, i + 1 < n → lt (f i) (f (i + 1)) = true) : Heap lt n f := by
  have up : ∀ d i, i + d + 1 < n → lt (f i) (f (i + d + 1)) = true := by
    intro d
    induction d with
    | zero => exact fun i hi => h i hi
    | succ d ih => exact fun i hi => bef_trans o (ih i (by omega)) (h (i + d + 1) (by omega))
  intro k hk hkn
  have : par k < k := by unfold par; omega
  have := up (k - par k - 1) (par k) (by omega)
  rw [show par k + (k - par k - 1) + 1 = k by omega] at this
  exact o.asym _ _ this
/-- the queue while it is loaded -/
structure LQ (V : AW) (lo q mh : Nat) (less : Value) (nx : Int) (l : List (Int × Int)) (k : Nat) (f : Nat → En) (tw : Bool) : Prop where
  qp : ∃ lv bl, QP V q lv less (.map (some mh)) (.int .i64 nx) k f bl ∧ bl ≠ some mh ∧ (∀ B, bl = some B → lo ≤ B)
  ml : mh < V.next
  mq : mh ≠ q
  lm : lo ≤ mh
  lq : lo ≤ q
  en : ∀ i, i < k → (f i).b ≠ mh ∧ lo ≤ (f i).b
  hv : ∀ i (hi : i < l.length), i < k → hv (f i) = l[i]
  hd : ∀ i, i < k → 1 ≤ (f i).h ∧ (f i).h < nx
  mp : ∃ m c, MapV V mh m c ∧ (∀ x, (m x).isSome = true ↔ ∃ i, i < k ∧ (f i).h = x) ∧ (tw = false → c = k ∧ (∀ i, i < k → m (f i).h = some (enP (f i))))
  tw : tw = true ↔ twiceR l k
theorem LQ.keep {V V' : AW} {lo q mh : Nat} {less : Value} {nx : Int} {l : List (Int × Int)} {k : Nat} {f : Nat → En} {tw : Bool} (h : LQ V lo q mh less nx l k f tw) (le : Le V V') : LQ V' lo q mh less nx l k f tw := by
  obtain ⟨⟨lv, bl, h1, h2, h3⟩, ml, mq, lm, lq, en, hv, hd, ⟨m, c, m1, m2⟩, htw⟩ := h
  exact ⟨⟨lv, bl, h1.keep le.next (fun b hb _ => le.get b hb), h2, h3⟩, Nat.lt_of_lt_of_le ml le.next, mq, lm, lq, en, hv, hd, ⟨m, c, m1.keep (le.get _ ml), m2⟩, htw⟩
theorem twice_step {l : List (Int × Int)} {k : Nat} (hk : k < l.length) : twiceR l (k + 1) ↔ twiceR l k ∨ ∃ i, ∃ hi : i < k, l[i].1 = l[k].1 := by
  constructor
  · rintro ⟨i, j, hj, hij, hjk, e⟩
    by_cases ej : j = k
    · subst ej; exact .inr ⟨i, hij, e⟩
    · exact .inl ⟨i, j, hj, hij, by omega, e⟩
  · rintro (⟨i, j, hj, hij, hjk, e⟩ | ⟨i, hi, e⟩)
    · exact ⟨i, j, hj, hij, by omega, e⟩
    · exact ⟨i, k, hk, hi, by omega, e⟩
/-- one more value is loaded -/
theorem LQ.step {V : AW} {lo q mh : Nat} {less : Value} {nx : Int} {l : List (Int × Int)} {k : Nat} {f : Nat → En} {tw : Bool} (h : LQ V lo q mh less nx l k f tw) (hlo : lo ≤ V.next) (hk : k < l.length) (hl : l.length ≤ 5000) (hr : ¬ (l[k].1 < 1 ∨ nx ≤ l[k].1)) :
    ∃ (old : Value) (is : Bool) (W2 W5 W6 : AW) (nv : Value), oLookup Try.prog 107 (.map (some mh)) (.int .i64 l[k].1) true V = some (.tuple #[old, .bool is], V) ∧ ldC (.pointer (some ⟨q, 2, none⟩)) V = some (.map (some mh), V) ∧
      ldC (.pointer (some ⟨q, 2, none⟩)) (V.add (.cells [.int .i64 l[k].1, .int .i64 l[k].2, .int .i64 (k : Int)])) = some (.map (some mh), V.add (.cells [.int .i64 l[k].1, .int .i64 l[k].2, .int .i64 (k : Int)])) ∧
      oMapUpdate Try.prog 107 (.map (some mh)) (.int .i64 l[k].1) (.pointer (some ⟨V.next, 0, none⟩)) (V.add (.cells [.int .i64 l[k].1, .int .i64 l[k].2, .int .i64 (k : Int)])) = some (undef, W2) ∧
      (∃ lv, ldC (.pointer (some ⟨q, 0, none⟩)) W2 = some (lv, W2) ∧ aAppend Try.prog (W2.add (.cells [.pointer (some ⟨V.next, 0, none⟩)])) #[104, 104] lv (.slice (some ⟨W2.next, 0, none⟩) 1 1) = some (nv, W5)) ∧
      stV 1 (.pointer (some ⟨q, 0, none⟩)) nv W5 = some (undef, W6) ∧ (∃ g, LQ W6 lo q mh less nx l (k + 1) g (tw || is)) ∧ V.next ≤ W6.next ∧ ∀ b, b < lo → W6.get b = V.get b := by
  obtain ⟨⟨lv, bl, h1, h2, h3⟩, ml, mq, lm, lq, en, hvl, hd, ⟨m, c, m1, m2, m3⟩, htw⟩ := h
  generalize hW1 : V.add (.cells [.int .i64 l[k].1, .int .i64 l[k].2, .int .i64 (k : Int)]) = W1
  have n1 : W1.next = V.next + 1 := by rw [← hW1, AW.add_next]
  have g1 : ∀ b, b < V.next → W1.get b = V.get b := fun b hb => by rw [← hW1]; exact AW.get_add_ne _ _ (by omega)
  have x1 : W1.get V.next = some (.cells [.int .i64 l[k].1, .int .i64 l[k].2, .int .i64 (k : Int)]) := by rw [← hW1]; exact AW.get_add _ _
  have q1 : QP W1 q lv less (.map (some mh)) (.int .i64 nx) k f bl := h1.keep (by omega) fun b hb _ => g1 b hb
  have m1' : MapV W1 mh m c := m1.keep (g1 _ ml)
  obtain ⟨es, cc, d1, d2⟩ := mapV_set m1' u107 u2 l[k].1 (.pointer (some ⟨V.next, 0, none⟩))
  generalize hW2 : W1.put mh (.map es cc) = W2 at d1 d2
  have g2 : ∀ b, b ≠ mh → W2.get b = W1.get b := fun b hb => by rw [← hW2]; exact AW.get_put_ne _ _ (Ne.symm hb)
  have n2 : W2.next = V.next + 1 := by rw [← hW2, AW.put_next, n1]
  have q2 : QP W2 q lv less (.map (some mh)) (.int .i64 nx) k f bl := q1.keep (by omega) fun b hb ho => g2 b fun e => by
    subst e
    rcases ho with ho | ho | ⟨i, hi, ho⟩
    · exact mq ho
    · exact h2 ho
    · exact (en i hi).1 ho
  generalize hW3 : W2.add (.cells [.pointer (some ⟨V.next, 0, none⟩)]) = W3
  have n3 : W3.next = V.next + 2 := by rw [← hW3, AW.add_next, n2]
  have g3 : ∀ b, b < W2.next → W3.get b = W2.get b := fun b hb => by rw [← hW3]; exact AW.get_add_ne _ _ (by omega)
  have x3 : cellsAt W3 W2.next = some [.pointer (some ⟨V.next, 0, none⟩)] := by rw [← hW3]; exact cellsAt_new
  have q3 : QP W3 q lv less (.map (some mh)) (.int .i64 nx) k f bl := q2.keep (by omega) fun b hb _ => g3 b hb
  obtain ⟨W5, p1, p2, p3, p4⟩ := pApp q3.pile.sl (by omega) (c := 1) x3 rfl
  have hbl : ∀ b, bl = some b → b < V.next := fun b hb => h1.pile.sl.lt hb
  have hq5 : W5.get q = some (.cells [lv, less, .map (some mh), .int .i64 nx]) := by rw [p4 q (by have := h1.lt; omega) h1.bq]; exact q3.qc
  have s1 := stA (v := .slice (some ⟨W3.next, 0, none⟩) (k + 1) (BIG + 1)) (o := 0) hq5 (by simp) rfl rfl
  rw [show ([lv, less, .map (some mh), .int .i64 nx] : List Value).set 0 (.slice (some ⟨W3.next, 0, none⟩) (k + 1) (BIG + 1)) = [.slice (some ⟨W3.next, 0, none⟩) (k + 1) (BIG + 1), less, .map (some mh), .int .i64 nx] from rfl] at s1
  generalize hW6 : W5.put q (.cells [.slice (some ⟨W3.next, 0, none⟩) (k + 1) (BIG + 1), less, .map (some mh), .int .i64 nx]) = W6 at s1
  have n6 : W6.next = V.next + 3 := by rw [← hW6, AW.put_next, p2, n3]
  have g6 : ∀ b, b ≠ q → W6.get b = W5.get b := fun b hb => by rw [← hW6]; exact AW.get_put_ne _ _ (Ne.symm hb)
  -- what stands after it
  have back : ∀ b, b < V.next → b ≠ q → b ≠ mh → bl ≠ some b → W6.get b = V.get b := fun b hb e1 e2 e3 => by
    rw [g6 b e1, p4 b (by omega) e3, g3 b (by omega), g2 b e2, g1 b hb]
  have hg6 : W6.get V.next = some (.cells [.int .i64 l[k].1, .int .i64 l[k].2, .int .i64 (k : Int)]) := by
    rw [g6 _ (by have := h1.lt; omega), p4 _ (by omega) (fun e => by have := hbl _ e; omega), g3 _ (by omega), g2 _ (by omega)]; exact x1
  have hml6 : W6.get mh = W2.get mh := by rw [g6 _ mq, p4 _ (by omega) h2, g3 _ (by omega)]
  have gt : mapV_get2 m1 u107 u2 z127 l[k].1 = mapV_get2 m1 u107 u2 z127 l[k].1 := rfl
  refine ⟨_, _, W2, W5, W6, _, mapV_get2 m1 u107 u2 z127 l[k].1, h1.l2, q1.l2, d1, ⟨lv, q2.l0, by rw [hW3]; exact p1⟩, s1, ⟨snoc k f ⟨V.next, l[k].1, l[k].2⟩, ?_⟩, by omega, fun b hb => back b (by omega) (by omega) (by omega) fun e => by have := h3 _ e; omega⟩
  have hlt : ∀ i, i < k → (f i).b < V.next := fun i hi => (h1.pile.en i hi).2
  have eh : ∀ i (hi : i < k), (f i).h = l[i].1 := fun i hi => by have := hvl i (by omega) hi; exact congrArg Prod.fst this
  refine ⟨⟨_, some W3.next, ⟨by rw [← hW6]; exact AW.get_put _ _ _, by have := h1.lt; omega, ⟨.row W3.next [] ?_ (by omega) fun i hi => ?_, fun i hi => ?_, fun i j hi hj e => ?_⟩, fun e => ?_, fun i hi => ?_⟩, fun e => ?_, fun B hB => ?_⟩, by omega, mq, lm, lq, fun i hi => ?_, fun i hil hi => ?_, fun i hi => ?_, ⟨_, _, d2.keep hml6, fun x => ?_, fun ht => ?_⟩, ?_⟩
  · rw [List.append_nil, g6 _ (by have := h1.lt; omega), rowE_snoc]; exact p3
  · by_cases e : i = k
    · rw [e, snoc_n]; simp only; omega
    · rw [snoc_lt (by omega)]; have := hlt i (by omega); omega
  · by_cases e : i = k
    · subst e
      rw [snoc_n]
      exact ⟨hg6, by simp only; omega⟩
    · rw [snoc_lt (by omega)]
      have hi' : i < k := by omega
      have := hlt i hi'
      exact ⟨by rw [back _ this (h1.eq i hi') (en i hi').1 (h1.pile.sl.ne hi')]; exact (h1.pile.en i hi').1, by omega⟩
  · by_cases e1 : i = k
    · by_cases e2 : j = k
      · omega
      · rw [e1, snoc_n, snoc_lt (by omega)] at e
        have := hlt j (by omega)
        simp only at e; omega
    · by_cases e2 : j = k
      · rw [e2, snoc_n, snoc_lt (by omega)] at e
        have := hlt i (by omega)
        simp only at e; omega
      · rw [snoc_lt (by omega), snoc_lt (by omega)] at e
        exact h1.pile.inj i j (by omega) (by omega) e
  · injection e with e; have := h1.lt; omega
  · by_cases e : i = k
    · rw [e, snoc_n]; simp only; have := h1.lt; omega
    · rw [snoc_lt (by omega)]; exact h1.eq i (by omega)
  · injection e with e; omega
  · injection hB with hB; omega
  · by_cases e : i = k
    · rw [e, snoc_n]; simp only; exact ⟨by omega, hlo⟩
    · rw [snoc_lt (by omega)]; exact en i (by omega)
  · by_cases e : i = k
    · subst e; rw [snoc_n]; rfl
    · rw [snoc_lt (by omega)]; exact hvl i hil (by omega)
  · by_cases e : i = k
    · rw [e, snoc_n]; simp only; omega
    · rw [snoc_lt (by omega)]; exact hd i (by omega)
  · constructor
    · intro hx
      by_cases e : x = l[k].1
      · exact ⟨k, by omega, by rw [snoc_n]; exact e.symm⟩
      · rw [if_neg e] at hx
        obtain ⟨i, hi, e1⟩ := (m2 x).1 hx
        exact ⟨i, by omega, by rw [snoc_lt hi]; exact e1⟩
    · rintro ⟨i, hi, e1⟩
      by_cases e : x = l[k].1
      · rw [if_pos e]; rfl
      · rw [if_neg e]
        by_cases ei : i = k
        · rw [ei, snoc_n] at e1; exact absurd e1.symm e
        · rw [snoc_lt (by omega)] at e1
          exact (m2 x).2 ⟨i, by omega, e1⟩
  · simp only [Bool.or_eq_false_iff] at ht
    obtain ⟨t1, t2⟩ := m3 ht.1
    rw [if_neg (by rw [ht.2]; exact Bool.false_ne_true)]
    refine ⟨by omega, fun i hi => ?_⟩
    by_cases e : i = k
    · rw [e, snoc_n, if_pos rfl]
    · rw [snoc_lt (by omega), if_neg, t2 i (by omega)]
      intro e1
      have := (m2 l[k].1).2 ⟨i, by omega, e1⟩
      rw [ht.2] at this; cases this
  · rw [Bool.or_eq_true, htw, twice_step hk, m2]
    constructor
    · rintro (a | ⟨i, hi, e⟩)
      · exact .inl a
      · exact .inr ⟨i, hi, by rw [← eh i hi]; exact e⟩
    · rintro (a | ⟨i, hi, e⟩)
      · exact .inl a
      · exact .inr ⟨i, hi, by rw [eh i hi]; exact e⟩
end Go.Proofs.Ytkpgmabebjmahaa
/- A queue: Load, what it answers. -/
namespace Go.Proofs.Ytkpgmabebjmahaa
open Go Go.Eng Go.Hp
set_option linter.unusedVariables false
set_option linter.unusedSimpArgs false
set_option linter.unusedSectionVars false
set_option maxRecDepth 100000
abbrev sV (nx : Int) (iv : Value) : Value := .agg #[.int .i64 nx, iv]
section
variable {W : AW} {b : Nat} {n : Int} {ev : Value}
theorem bx60 (n : Int) (ev : Value) (W : AW) : ∃ V, oBox (sV n ev) W = some (.pointer (some ⟨W.next, 0, none⟩), V) ∧ Le W V ∧ V.next = W.next + 1 ∧ V.get W.next = some (.cells [.int .i64 n, ev]) := ⟨_, oBox_agg _, (Le.refl _).add _, AW.add_next _ _, AW.get_add _ _⟩
theorem ld60a (h : W.get b = some (.cells [.int .i64 n, ev])) : ldC (.pointer (some ⟨b, 0, none⟩)) W = some (.int .i64 n, W) := ldR (rwOf h) rfl
theorem ld60b (h : W.get b = some (.cells [.int .i64 n, ev])) : ldC (.pointer (some ⟨b, 1, none⟩)) W = some (ev, W) := ldR (rwOf h) rfl
end
abbrev itV (x : Int × Int) : Value := .agg #[.int .i64 x.1, .int .i64 x.2]
theorem box65 (x : Int × Int) (V : AW) : ∃ V5 V6, oAlloc Try.prog 65 V = some (.pointer (some ⟨V.next, 0, none⟩), V5) ∧ stV 2 (.pointer (some ⟨V.next, 0, none⟩)) (itV x) V5 = some (undef, V6) ∧ Le V V6 ∧ V6.next = V.next + 1 ∧ V6.get V.next = some (.cells [.int .i64 x.1, .int .i64 x.2]) := by
  refine ⟨_, (V.add (.cells [.int .i64 0, .int .i64 0])).put V.next (.cells [.int .i64 x.1, .int .i64 x.2]), al65 V, ?_, ((Le.refl V).add _).put (Nat.le_refl _) _, by rw [AW.put_next, AW.add_next], AW.get_put _ _ _⟩
  rw [stV_agg, rwOf (AW.get_add _ _), Option.bind_some, if_pos ⟨rfl, by simp, by simp [one_int]⟩]
  rfl
theorem LQ.start {W : AW} {lo q mh : Nat} {less : Value} {ls : Int → Int → Bool} {f : Nat → En} {l : List (Int × Int)} {nx : Int} (h : QS W (fun b => lo ≤ b) q mh less ls 1 0 f) : ∃ W', stV 1 (.pointer (some ⟨q, 3, none⟩)) (.int .i64 nx) W = some (undef, W') ∧ LQ W' lo q mh less nx l 0 f false ∧ W'.next = W.next ∧ ∀ b, b < lo → W'.get b = W.get b := by
  obtain ⟨⟨lv, bl, h1, h2, h3⟩, ml, mq, me, iq, im, hp, ⟨m, m1, m2, m3⟩, hd, nx1⟩ := h
  have s1 := stA (v := .int .i64 nx) (o := 3) h1.qc (by simp) rfl rfl
  rw [show ([lv, less, .map (some mh), .int .i64 1] : List Value).set 3 (.int .i64 nx) = [lv, less, .map (some mh), .int .i64 nx] from rfl] at s1
  have q2 := h1.turn (c3' := .int .i64 nx)
  have n2 : (W.put q (.cells [lv, less, .map (some mh), .int .i64 nx])).next = W.next := AW.put_next _ _ _
  refine ⟨_, s1, ⟨⟨lv, bl, q2, h2, fun B hB => h3 B (.inl hB)⟩, by rw [n2]; exact ml, mq, im, iq, fun i hi => by omega, fun i _ hi => by omega, fun i hi => by omega, ⟨m, 0, m1.keep (AW.get_put_ne _ _ (Ne.symm mq)), fun x => ⟨fun hx => ?_, fun ⟨i, hi, _⟩ => by omega⟩, fun _ => ⟨rfl, fun i hi => by omega⟩⟩, ⟨fun h => by (cases h), fun ⟨i, j, _, _, hj, _⟩ => by omega⟩⟩, n2, fun b hb => AW.get_put_ne _ _ (by have : lo ≤ q := iq; omega)⟩
  obtain ⟨v, hv⟩ := Option.isSome_iff_exists.1 hx
  obtain ⟨i, hi, -⟩ := m3 x v hv
  omega
theorem LQ.done {V : AW} {lo q mh : Nat} {less : Value} {ls : Int → Int → Bool} {nx : Int} {l : List (Int × Int)} {f : Nat → En} (o : Ord (bef ls)) (h : LQ V lo q mh less nx l l.length f false) (hnx : 1 ≤ nx) (hf : ¬ formR ls l) : QS V (fun b => lo ≤ b) q mh less ls nx l.length f := by
  obtain ⟨⟨lv, bl, h1, h2, h3⟩, ml, mq, lm, lq, en, hvl, hd, ⟨m, c, m1, m2, m3⟩, htw⟩ := h
  obtain ⟨rfl, m4⟩ := m3 rfl
  refine ⟨⟨lv, bl, h1, h2, fun b hb => ?_⟩, ml, mq, fun i hi => (en i hi).1, lq, lm, asc_heap o fun i hi => ?_, ⟨m, m1, m4, fun k v hk => ?_⟩, hd, hnx⟩
  · rcases hb with hb | ⟨i, hi, rfl⟩
    · exact h3 b hb
    · exact (en i hi).2
  · rw [bef_P, hvl i (by omega) (by omega), hvl (i + 1) hi hi]
    cases hb : befP ls l[i] l[i + 1]
    · exact absurd ⟨i, hi, hb⟩ hf
    · rfl
  · obtain ⟨i, hi, e⟩ := (m2 k).1 (by rw [hk]; rfl)
    refine ⟨i, hi, e, ?_⟩
    have := m4 i hi
    rw [e, hk] at this
    injection this
theorem load_main {W : AW} {k : Nat} {ls : Int → Int → Bool} {nx : Int} {iv : Value} {l : List (Int × Int)} (o : Ord (bef ls)) (hls : IsLess (.func (.func k) #[] #[]) ls) (h : Items W iv l) (hsl : isSl iv) (hl : l.length ≤ 5000) :
    Ok (heaps_Loadint omS (.func (.func k) #[] #[]) (sV nx iv) W) fun r => Le W r.2 ∧ ((¬ chk ls nx l = 0 ∧ r.1 = .tuple #[.pointer none, .int .i64 (chk ls nx l)]) ∨ (chk ls nx l = 0 ∧ ∃ q mh f, r.1 = .tuple #[qV q, .int .i64 0] ∧ QS r.2 (fun b => W.next ≤ b) q mh (.func (.func k) #[] #[]) ls nx l.length f ∧ ∀ i (hi : i < l.length), hv (f i) = l[i])) := by
  unfold heaps_Loadint
  obtain ⟨V, oB, l1, n1, x1⟩ := bx60 nx iv W
  obtain ⟨V2, q, mh, p1, p2, p3⟩ := new_ok (W := V) (In := fun b => V.next ≤ b) (fun b hb => hb) k ls (fun _ => ⟨0, 0, 0⟩)
  have l2 : Le V V2 := ⟨p3.next, fun b hb => p3.get b hb (by omega)⟩
  have x2 : V2.get W.next = some (.cells [.int .i64 nx, iv]) := by rw [l2.get _ (by omega)]; exact x1
  have h2 := h.mono (l1.trans l2)
  have e1 : ¬ (5000 : Int) < (l.length : Int) := by omega
  by_cases c1 : nx < 1
  · have ec : chk ls nx l = 7 := by unfold chk; rw [if_pos (.inl c1)]
    simp only [SX, oB, p1, pEq, Nat.zero_add, ld60b x2, h2.len len58, e1, decide_false, ld60a x2, c1, decide_true, Ok_some]
    exact ⟨l1.trans l2, .inl ⟨by rw [ec]; omega, by rw [ec]⟩⟩
  by_cases c2 : 1000000000000000 < nx
  · have ec : chk ls nx l = 7 := by unfold chk; rw [if_pos (.inr c2)]
    simp only [SX, oB, p1, pEq, Nat.zero_add, ld60b x2, h2.len len58, e1, decide_false, ld60a x2, c1, c2, decide_true, Ok_some]
    exact ⟨l1.trans l2, .inl ⟨by rw [ec]; omega, by rw [ec]⟩⟩
  have ec0 : chk ls nx l = (open Classical in if badR nx l then 7 else if twiceR l l.length then 8 else if formR ls l then 6 else 0) := by
    unfold chk; rw [if_neg (by omega)]
  obtain ⟨V3, s1, s2, s3, s4⟩ := LQ.start (l := l) (nx := nx) p2
  have x3 : V3.get W.next = some (.cells [.int .i64 nx, iv]) := by rw [s4 _ (by omega)]; exact x2
  have lV3 : Le V V3 := ⟨by have := l2.next; omega, fun b hb => by rw [s4 b hb, l2.get b hb]⟩
  have h3 := h.mono (l1.trans lV3)
  simp only [SX, oB, p1, pEq, Nat.zero_add, ld60b x2, h2.len len58, e1, decide_false, ld60a x2, c1, c2, oNilCheck_ptr, s1, ld60b x3, h3.len len58]
  refine Ok_loop l.length (by omega) (fun k' R U => ∃ (f : Nat → En) (tw : Bool), R 3 = .pointer (some ⟨W.next, 0, none⟩) ∧ R 6 = qV q ∧ R 7 = .bool tw ∧ R 39 = iv ∧ R 40 = .int .i64 (l.length : Int) ∧ R 41 = .int .i64 (k' : Int) ∧ LQ U V.next q mh (.func (.func k) #[] #[]) nx l k' f tw ∧ Le V U)
    (fun r => Le V r.2.2 ∧ ((r.1 = .ret ∧ badR nx l ∧ r.2.1 4 = .pointer none ∧ r.2.1 5 = .int .i64 7) ∨ (r.1 = .exit 1 ∧ ¬ badR nx l ∧ ∃ (f : Nat → En) (tw : Bool), r.2.1 6 = qV q ∧ r.2.1 7 = .bool tw ∧ LQ r.2.2 V.next q mh (.func (.func k) #[] #[]) nx l l.length f tw)))
    ⟨fun _ => ⟨0, 0, 0⟩, false, rfl, rfl, rfl, rfl, rfl, rfl, s2, lV3⟩ ?_ ?_ ?_
  · rintro k' R U hk ⟨f, tw, r3, r6, r7, r39, r40, r41, L, lU⟩
    unfold heaps_Loadint_L1
    have lWU := l1.trans lU
    obtain ⟨b, off, i1, i2, i3⟩ := Items.get2 (h.mono lWU) hk
    obtain ⟨f0, -, -⟩ := i3 U rfl
    have t1 : ((k' : Int) < (l.length : Int)) := by omega
    have t2 := fun W' => oBin_add (P := Try.prog) (W := W') (t := 3) (c := false) (d := true) (a := (k' : Int)) (b := 1) (by omega) (by omega)
    have e3 : ((k' + 1 : Nat) : Int) = (k' : Int) + 1 := by omega
    obtain ⟨U1, U2, a1, a2, a3, a4, a5⟩ := box65 l[k'] U
    have xU : ∀ U', Le V U' → U'.get W.next = some (.cells [.int .i64 nx, iv]) := fun U' hle => by rw [hle.get _ (by omega)]; exact x1
    have lU2 := lU.trans a3
    by_cases b1 : l[k'].1 < 1
    · simp only [SX, r3, r6, r39, r40, r41, t1, decide_true, i1, f0, a1, a2, Nat.zero_add, ld60a a5, b1, Ok_some]
      exact .inr ⟨by simp, lU2, .inl ⟨trivial, ⟨k', hk, .inl b1⟩, rfl, rfl⟩⟩
    by_cases b2 : nx ≤ l[k'].1
    · simp only [SX, r3, r6, r39, r40, r41, t1, decide_true, i1, f0, a1, a2, Nat.zero_add, ld60a a5, b1, decide_false, ld60a (xU U2 lU2), b2, Ok_some]
      exact .inr ⟨by simp, lU2, .inl ⟨trivial, ⟨k', hk, .inr b2⟩, rfl, rfl⟩⟩
    obtain ⟨old, is, Wa, Wb, Wc, nv, d1, d2, d3, d4, ⟨lv, d5, d6⟩, d7, ⟨g, d8⟩, d9, d10⟩ := (L.keep a3).step (by have := lU2.next; omega) hk hl (by omega)
    have b65 : ∀ U', Le U2 U' → ldC (.pointer (some ⟨U.next, 0, none⟩)) U' = some (.int .i64 l[k'].1, U') ∧ ldC (.pointer (some ⟨U.next, 1, none⟩)) U' = some (.int .i64 l[k'].2, U') := fun U' hle => by
      have : U'.get U.next = some (.cells [.int .i64 l[k'].1, .int .i64 l[k'].2]) := by rw [hle.get _ (by omega)]; exact a5
      exact ⟨ldR (rwOf this) rfl, ldR (rwOf this) rfl⟩
    have lB : Le U2 (U2.add (.cells [.int .i64 l[k'].1, .int .i64 l[k'].2, .int .i64 (k' : Int)])) := (Le.refl _).add _
    have lWc : Le V Wc := ⟨by have := lU2.next; omega, fun b hb => by rw [d10 b hb, lU2.get b hb]⟩
    cases is with
    | true =>
      simp only [SX, r3, r6, r39, r40, r41, t1, decide_true, i1, f0, a1, a2, Nat.zero_add, (b65 _ (.refl _)).1, (b65 _ (.refl _)).2, b1, decide_false, ld60a (xU U2 lU2), b2, oNilCheck_ptr, d2, d1, bd132c, oBox3, d3, (b65 _ lB).1, d4, d5, bs104, d6, d7, t2, Ok_some]
      exact .inl ⟨trivial, g, true, r3, r6, rfl, r39, r40, by rw [e3]; rfl, by rw [Bool.or_true] at d8; exact d8, lWc⟩
    | false =>
      simp only [SX, r3, r6, r39, r40, r41, t1, decide_true, i1, f0, a1, a2, Nat.zero_add, (b65 _ (.refl _)).1, (b65 _ (.refl _)).2, b1, decide_false, ld60a (xU U2 lU2), b2, oNilCheck_ptr, d2, d1, bd132c, oBox3, d3, (b65 _ lB).1, d4, d5, bs104, d6, d7, t2, Ok_some]
      exact .inl ⟨trivial, g, tw, r3, r6, r7, r39, r40, by rw [e3]; rfl, by rw [Bool.or_false] at d8; exact d8, lWc⟩
  · rintro R U ⟨f, tw, r3, r6, r7, r39, r40, r41, L, lU⟩
    unfold heaps_Loadint_L1
    have t1 : ¬ ((l.length : Int) < (l.length : Int)) := by omega
    simp only [SX, r40, r41, t1, decide_false, Ok_some]
    refine ⟨by simp, lU, .inr ⟨trivial, ?_, f, tw, r6, r7, L⟩⟩
    rintro ⟨i, hi, hb⟩
    have := L.hd i hi
    have e := L.hv i hi hi
    have e' : (f i).h = l[i].1 := congrArg Prod.fst e
    omega
  · rintro ⟨x, R, U⟩ ⟨lU, hx⟩
    simp only at lU hx
    rcases hx with ⟨rfl, hbad, r4, r5⟩ | ⟨rfl, hgood, f, tw, r6, r7, L⟩
    · have ec : chk ls nx l = 7 := by rw [ec0, if_pos hbad]
      simp only [SX, r4, r5, Ok_some]
      exact ⟨l1.trans lU, .inl ⟨by rw [ec]; omega, by rw [ec]⟩⟩
    cases tw with
    | true =>
      have ec : chk ls nx l = 8 := by rw [ec0, if_neg hgood, if_pos (L.tw.1 rfl)]
      simp only [SX, r7, Ok_some]
      exact ⟨l1.trans lU, .inl ⟨by rw [ec]; omega, by rw [ec]⟩⟩
    | false =>
    have hnt : ¬ twiceR l l.length := fun h => by have := L.tw.2 h; cases this
    have ec1 : chk ls nx l = (open Classical in if formR ls l then 6 else 0) := by rw [ec0, if_neg hgood, if_neg hnt]
    obtain ⟨lv, bl, h1, h2', h3'⟩ := L.qp
    simp only [SX, r7]
    refine Ok_loop (l.length - 1) (by omega) (fun k' R' U' => U' = U ∧ R' 6 = qV q ∧ R' 13 = .int .i64 ((k' + 1 : Nat) : Int) ∧ ∀ i (hi : i + 1 < l.length), i < k' → befP ls l[i] l[i + 1] = true)
      (fun r => r.2.2 = U ∧ ((r.1 = .ret ∧ formR ls l ∧ r.2.1 4 = .pointer none ∧ r.2.1 5 = .int .i64 6) ∨ (r.1 = .exit 3 ∧ ¬ formR ls l ∧ r.2.1 6 = qV q))) ⟨rfl, r6, rfl, fun i _ h => absurd h (by omega)⟩ ?_ ?_ ?_
    · rintro k' R' U' hk ⟨rfl, r6, r13, hx⟩
      unfold heaps_Loadint_L2
      have hk1 : k' + 1 < l.length := by omega
      have t1 : (((k' + 1 : Nat) : Int) < (l.length : Int)) := by omega
      have t2 := fun W' => oBin_add (P := Try.prog) (W := W') (t := 3) (c := false) (d := true) (a := ((k' + 1 : Nat) : Int)) (b := 1) (by omega) (by omega)
      have e3 : ((k' + 1 + 1 : Nat) : Int) = ((k' + 1 : Nat) : Int) + 1 := by omega
      have t3 : ∀ W', oBin Try.prog .sub 3 false true (.int .i64 ((k' + 1 : Nat) : Int)) (.int .i64 1) W' = some (.int .i64 (k' : Int), W') := fun W' => sub1 k' (by omega) W'
      have pl := pLess_ok hls h1 (i := k') (k := k' + 1) (by omega) hk1
      rw [bef_P, L.hv k' (by omega) (by omega), L.hv (k' + 1) hk1 hk1] at pl
      cases hb : befP ls l[k'] l[k' + 1]
      · rw [hb] at pl
        simp only [SX, r6, r13, oNilCheck_ptr, Nat.zero_add, h1.l0, h1.pile.len, t1, decide_true, t3, pl, Ok_some]
        exact .inr ⟨by simp, trivial, .inl ⟨trivial, ⟨k', hk1, hb⟩, rfl, rfl⟩⟩
      · rw [hb] at pl
        simp only [SX, r6, r13, oNilCheck_ptr, Nat.zero_add, h1.l0, h1.pile.len, t1, decide_true, t3, pl, t2, Ok_some]
        refine .inl ⟨trivial, trivial, r6, by rw [e3]; rfl, fun i hi hik => ?_⟩
        by_cases e : i = k'
        · subst e; exact hb
        · exact hx i hi (by omega)
    · rintro R' U' ⟨rfl, r6, r13, hx⟩
      unfold heaps_Loadint_L2
      have t1 : ¬ (((l.length - 1 + 1 : Nat) : Int) < (l.length : Int)) := by omega
      simp only [SX, r6, r13, oNilCheck_ptr, Nat.zero_add, h1.l0, h1.pile.len, t1, decide_false, Ok_some]
      refine ⟨by simp, trivial, .inr ⟨trivial, ?_, r6⟩⟩
      rintro ⟨i, hi, hb⟩
      rw [hx i hi (by omega)] at hb; cases hb
    · rintro ⟨x, R', U'⟩ ⟨rfl, hx⟩
      simp only at hx lU
      rcases hx with ⟨rfl, hf, r4, r5⟩ | ⟨rfl, hf, r6'⟩
      · have ec : chk ls nx l = 6 := by rw [ec1, if_pos hf]
        simp only [SX, r4, r5, Ok_some]
        exact ⟨l1.trans lU, .inl ⟨by rw [ec]; omega, by rw [ec]⟩⟩
      · have ec : chk ls nx l = 0 := by rw [ec1, if_neg hf]
        simp only [SX, r6', Ok_some]
        exact ⟨l1.trans lU, .inr ⟨ec, q, mh, f, rfl, (L.done o (by omega) hf).keep (Nat.le_refl _) (fun _ _ _ => rfl) (fun b _ hb => by have : V.next ≤ b := hb; show W.next ≤ b; omega), fun i hi => L.hv i hi hi⟩⟩
theorem load_ok {W : AW} {k : Nat} {ls : Int → Int → Bool} {nx : Int} {iv : Value} {l : List (Int × Int)} (o : Ord (bef ls)) (hls : IsLess (.func (.func k) #[] #[]) ls) (h : Items W iv l) (hsl : isSl iv) (hl : l.length ≤ 5000) (hc : chk ls nx l = 0) : ∃ W' q mh f, omS (.func (.func 34) #[] #[]) [.func (.func k) #[] #[], sV nx iv] W = some (.tuple #[qV q, .int .i64 0], W') ∧ Le W W' ∧ QS W' (fun b => W.next ≤ b) q mh (.func (.func k) #[] #[]) ls nx l.length f ∧ ∀ i (hi : i < l.length), hv (f i) = l[i] := by
  obtain ⟨⟨v, W'⟩, h1, h2, h3⟩ := load_main (nx := nx) o hls h hsl hl
  simp only at h2 h3
  rcases h3 with ⟨e, -⟩ | ⟨-, q, mh, f, rfl, h4, h5⟩
  · exact absurd hc e
  · exact ⟨W', q, mh, f, by rw [heaps_Loadint_om h1, gc_not rfl], h2, h4, h5⟩
end Go.Proofs.Ytkpgmabebjmahaa
/- The specification's queue: Less, before, find, cut, put. -/
namespace Go.Proofs.Ytkpgmabebjmahaa
open Go Go.Eng Go.Hp
set_option linter.unusedVariables false
set_option linter.unusedSimpArgs false
set_option linter.unusedSectionVars false
set_option maxRecDepth 100000
abbrev RQ (lo : Nat) (W : AW) (v : Value) (l : List (Int × Int)) : Prop := RL lo W 2 itC v l
theorem ordP {ls : Int → Int → Bool} (o : Ord (bef ls)) : Ord (befP ls) := ⟨fun a b h => o.asym ⟨0, a.1, a.2⟩ ⟨0, b.1, b.2⟩ h, fun a b c h1 h2 => o.neg ⟨0, a.1, a.2⟩ ⟨0, b.1, b.2⟩ ⟨0, c.1, c.2⟩ h1 h2⟩
abbrev KS (k : Int) : Int → Int → Bool := byK (kfOf k)
section
variable {W : AW} {lo : Nat} {nx : Int} {iv : Value} {l : List (Int × Int)}
end
end Go.Proofs.Ytkpgmabebjmahaa
/- The specification's queue: Push, Peek, Pop, Get, Set, Remove. -/
namespace Go.Proofs.Ytkpgmabebjmahaa
open Go Go.Eng Go.Hp
set_option linter.unusedVariables false
set_option linter.unusedSimpArgs false
set_option linter.unusedSectionVars false
set_option maxRecDepth 100000
section
variable {W : AW} {lo : Nat} {nx : Int} {iv : Value} {l : List (Int × Int)}
/-- where put puts it -/
structure PutAt (k : Int) (l : List (Int × Int)) (x : Int × Int) (n : Nat) : Prop where
  low : ∀ j (hj : j < l.length), j < n → befP (KS k) l[j] x = true
  up : ∀ hn : n < l.length, befP (KS k) l[n] x = false
end
end Go.Proofs.Ytkpgmabebjmahaa
/- The specification's queue: Check. -/
namespace Go.Proofs.Ytkpgmabebjmahaa
open Go Go.Eng Go.Hp
set_option linter.unusedVariables false
set_option linter.unusedSimpArgs false
set_option linter.unusedSectionVars false
set_option maxRecDepth 100000
section
variable {W : AW} {lo : Nat} {nx : Int} {iv : Value} {l : List (Int × Int)}
end
end Go.Proofs.Ytkpgmabebjmahaa
/- A queue and its specification, side by side. -/
namespace Go.Proofs.Ytkpgmabebjmahaa
open Go Go.Eng Go.Hp
set_option linter.unusedVariables false
set_option linter.unusedSimpArgs false
set_option linter.unusedSectionVars false
set_option maxRecDepth 100000
abbrev hvs (n : Nat) (f : Nat → En) : List (Int × Int) := (all n f).map hv
theorem hvs_mem {n : Nat} {f : Nat → En} {x : Int × Int} : x ∈ hvs n f ↔ ∃ i, i < n ∧ hv (f i) = x := by
  constructor
  · intro h
    obtain ⟨e, he, rfl⟩ := List.mem_map.1 h
    obtain ⟨i, hi, rfl⟩ := all_mem.1 he
    exact ⟨i, hi, rfl⟩
  · rintro ⟨i, hi, rfl⟩
    exact List.mem_map.2 ⟨f i, all_mem.2 ⟨i, hi, rfl⟩, rfl⟩
theorem hvs_len (n : Nat) (f : Nat → En) : (hvs n f).length = n := by rw [List.length_map, all_len]
abbrev SortB (k : Int) (l : List (Int × Int)) : Prop := l.Pairwise fun a b => befP (KS k) b a = false
abbrev lsV (k : Int) : Value := .func (.func (lsN k)) #[] #[]
/-- a queue, and what the specification says of it -/
structure JQ (In : Nat → Prop) (rb : Nat) (V : AW) (q mh : Nat) (k nx : Int) (n : Nat) (f : Nat → En) (iv : Value) (L : List (Int × Int)) : Prop where
  qs : QS V In q mh (lsV k) (KS k) nx n f
  up : ∀ b, V.next ≤ b → In b
  sb : V.get rb = some (.cells [.int .i64 nx, iv])
  nb : ¬ In rb
  row : ∀ V' : AW, Gr V V' (fun b => In b ∨ b = rb) → RQ 0 V' iv L
  perm : L.Perm (hvs n f)
  sort : SortB k L
section
variable {In : Nat → Prop} {rb : Nat} {V V' : AW} {q mh : Nat} {k nx : Int} {n : Nat} {f : Nat → En} {iv : Value} {L : List (Int × Int)}
theorem JQ.len (J : JQ In rb V q mh k nx n f iv L) : L.length = n := by rw [J.perm.length_eq, hvs_len]
theorem JQ.dif (J : JQ In rb V q mh k nx n f iv L) : ∀ a ∈ L, ∀ b ∈ L, a.1 = b.1 → a = b := J.qs.diff J.perm
theorem JQ.mem (J : JQ In rb V q mh k nx n f iv L) {x : Int × Int} : x ∈ L ↔ ∃ i, i < n ∧ hv (f i) = x := by rw [J.perm.mem_iff, hvs_mem]
theorem JQ.isSl (J : JQ In rb V q mh k nx n f iv L) : isSl iv := (J.row V (.refl _ _)).isSl
abbrev InB (In : Nat → Prop) (rb : Nat) : Nat → Prop := fun b => In b ∨ b = rb
/-- the specification's new row is kept -/
def RowQ (In : Nat → Prop) (rb : Nat) (V0 Va Vb : AW) (iv : Value) (L : List (Int × Int)) : Prop := ∀ V' : AW, Gr V0 V' (InB In rb) → Vb.next ≤ V'.next → (∀ b, Va.next ≤ b → b < Vb.next → V'.get b = Vb.get b) → RQ 0 V' iv L
def RefQ (In : Nat → Prop) (rb : Nat) (V0 : AW) (k nx nx' : Int) (iv : Value) (fn : Value) (args : Value → List Value) (ret : Value → Value) (T : List (Int × Int)) : Prop :=
  ∀ V, Gr V0 V (InB In rb) → ∃ V' iv' L', omS fn (args (sV nx iv)) V = some (ret (sV nx' iv'), V') ∧ Le V V' ∧ RowQ In rb V0 V V' iv' L' ∧ L'.Perm T ∧ SortB k L' ∧ Eng.isSl iv'
def HoQ (q mh : Nat) (k nx nx' : Int) (n : Nat) (f : Nat → En) (fn : Value) (args : List Value) (r : Value) (T : List (Int × Int)) : Prop :=
  ∀ U In2, QS U In2 q mh (lsV k) (KS k) nx n f → (∀ b, U.next ≤ b → In2 b) → ∃ U' n' f', omS fn (qV q :: args) U = some (r, U') ∧ QS U' In2 q mh (lsV k) (KS k) nx' n' f' ∧ Gr U U' In2 ∧ (hvs n' f').Perm T ∧ n' ≤ n + 1
theorem same_first {a b : Int × Int} (hd : a.1 = b.1 → a = b) (h1 : befP (KS k) a b = false) (h2 : befP (KS k) b a = false) : a = b := by
  refine hd ?_
  unfold befP at h1 h2
  simp only [Bool.or_eq_false_iff, Bool.and_eq_false_imp, Bool.not_eq_true', decide_eq_false_iff_not] at h1 h2
  have y1 := h1.2 h2.1
  have y2 := h2.2 h1.1
  omega
theorem JQ.first (J : JQ In rb V q mh k nx (n + 1) f iv L) : ∃ h0 : 0 < L.length, L[0] = hv (f 0) := by
  have h0 : 0 < L.length := by rw [J.len]; omega
  have hm : hv (f 0) ∈ L := J.mem.2 ⟨0, by omega, rfl⟩
  obtain ⟨i, hi, e⟩ := J.mem.1 (List.getElem_mem h0)
  refine ⟨h0, same_first (k := k) (J.dif _ (List.getElem_mem h0) _ hm) ?_ ?_⟩
  · rw [← e, ← bef_P]
    exact J.qs.hp.first (byK_ord _) i hi
  · obtain ⟨j, hj, ej⟩ := List.mem_iff_getElem.1 hm
    rcases Nat.eq_zero_or_pos j with rfl | hj0
    · rw [← ej]
      have := (ordP (byK_ord (kfOf k))).asym L[0] L[0]
      cases hb : befP (KS k) L[0] L[0]
      · rfl
      · rw [hb] at this; exact this rfl
    · rw [← ej]
      exact (List.pairwise_iff_getElem.1 J.sort) 0 j h0 hj hj0
end
end Go.Proofs.Ytkpgmabebjmahaa
/- law06.do: one call of a queue and of its specification. -/
namespace Go.Proofs.Ytkpgmabebjmahaa
open Go Go.Eng Go.Hp
set_option linter.unusedVariables false
set_option linter.unusedSimpArgs false
set_option linter.unusedSectionVars false
set_option maxRecDepth 100000
abbrev caQ (c : Int × Int × Int) : Value := .agg #[.int .u8 c.1, .int .i64 c.2.1, .int .i64 c.2.2]
abbrev bq (b : Nat) : Value := .pointer (some ⟨b, 0, none⟩)
def ShQ (In : Nat → Prop) (V V' : AW) : Nat → Prop := fun b => In b ∧ b < V.next ∨ V'.next ≤ b
section
variable {In : Nat → Prop} {rb : Nat} {V V' : AW} {q mh : Nat} {k nx : Int} {n : Nat} {f : Nat → En} {iv : Value} {L : List (Int × Int)}
def DoQ (In : Nat → Prop) (rb : Nat) (V : AW) (q mh : Nat) (k : Int) (n : Nat) (V' : AW) : Prop :=
  ∃ (In' : Nat → Prop) (nx' : Int) (n' : Nat) (f' : Nat → En) (iv' : Value) (L' : List (Int × Int)), JQ In' rb V' q mh k nx' n' f' iv' L' ∧ n' ≤ n + 1 ∧ Gr V V' (InB In rb) ∧ ∀ b, In' b → In b
end
end Go.Proofs.Ytkpgmabebjmahaa
/- HeapsHandles: what it rests on. -/
namespace Go.Proofs.Ytkpgmabebjmahaa
open Go Go.Eng Go.Hp
set_option linter.unusedVariables false
set_option linter.unusedSimpArgs false
set_option linter.unusedSectionVars false
set_option maxRecDepth 100000
/-- the greater one of a number and its complement -/
def mx (a : Int) : Int := max a (IntKind.i64.wrap (-(IntKind.i64.wrap (a + 1))))
/-! ### one push and its removal -/
section
variable {W : AW} {In : Nat → Prop} {q mh : Nat} {less : Value} {ls : Int → Int → Bool} {nx : Int} {n : Nat} {f : Nat → En}
end
end Go.Proofs.Ytkpgmabebjmahaa
/- HeapsHandles: at every kind, numbers and pair. -/
namespace Go.Proofs.Ytkpgmabebjmahaa
open Go Go.Eng Go.Hp
set_option linter.unusedVariables false
set_option linter.unusedSimpArgs false
set_option linter.unusedSectionVars false
set_option maxRecDepth 100000
theorem lz_of (k : Nat) (D : Nat → Prop) : liesD D (.func (.func k) #[] #[]) := liesD_func (by simp) (by simp)
/-- what a list loses -/
def but (h : Int) (l : List (Int × Int)) : List (Int × Int) := l.filter fun x => !decide (x.1 = h)
end Go.Proofs.Ytkpgmabebjmahaa
/- HeapsWalks: what is yielded while the queue is changed. -/
namespace Go.Proofs.Ytkpgmabebjmahaa
open Go Go.Eng Go.Hp
set_option linter.unusedVariables false
set_option linter.unusedSimpArgs false
set_option linter.unusedSectionVars false
set_option maxRecDepth 100000
theorem len47 : ((#[47] : Array TypeId)[0]?).bind Try.prog.underlying = some (.slice 5) := by kernel_rfl
abbrev U8s (W : AW) (v : Value) (l : List Int) : Prop := Row W 1 (intAt .u8) v l
theorem U8s.get {W : AW} {v : Value} {l : List Int} (h : U8s W v l) {i : Nat} (hi : i < l.length) :
    ∃ p, (∀ W' k, ixS 1 v (.int k (i : Int)) W' = some (p, W')) ∧ ∀ W', Le W W' → ldC p W' = some (.int .u8 l[i], W') := by
  obtain ⟨b, o, cs, h1, h2, h3, h4⟩ := h.elem hi
  exact ⟨_, h1, fun W' hle => ldC_ok (by rw [hle.cellsAt h2]; exact h3) h4⟩
section
variable {W : AW} {In : Nat → Prop} {q mh : Nat} {less : Value} {ls : Int → Int → Bool} {nx : Int} {n : Nat} {f : Nat → En}
end
end Go.Proofs.Ytkpgmabebjmahaa
/- HeapsWalks: it answers true. -/
namespace Go.Proofs.Ytkpgmabebjmahaa
open Go Go.Eng Go.Hp
set_option linter.unusedVariables false
set_option linter.unusedSimpArgs false
set_option linter.unusedSectionVars false
set_option maxRecDepth 100000
end Go.Proofs.Ytkpgmabebjmahaa
/- HeapsPlays: it answers true. -/
namespace Go.Proofs.Ytkpgmabebjmahaa
open Go Go.Eng Go.Hp
set_option linter.unusedVariables false
set_option linter.unusedSimpArgs false
set_option linter.unusedSectionVars false
set_option maxRecDepth 100000
def caQt (cs : List Value) (p : Nat) (x : Int × Int × Int) : Prop := cs[p]? = some (.int .u8 x.1) ∧ cs[p + 1]? = some (.int .i64 x.2.1) ∧ cs[p + 2]? = some (.int .i64 x.2.2)
abbrev CaQ (W : AW) (v : Value) (l : List (Int × Int × Int)) : Prop := Row W 3 caQt v l
theorem CaQ.get {W : AW} {v : Value} {l : List (Int × Int × Int)} (h : CaQ W v l) {i : Nat} (hi : i < l.length) :
    ∃ b o, (∀ W' k, ixS 3 v (.int k (i : Int)) W' = some (.pointer (some ⟨b, o, none⟩), W')) ∧ ∀ W', Le W W' → ldA 3 (.pointer (some ⟨b, o, none⟩)) W' = some (caQ l[i], W') := by
  obtain ⟨b, o, cs, h1, h2, h3, h4, h5, h6⟩ := h.elem hi
  refine ⟨b, o, h1, fun W' hle => ?_⟩
  have hc : cellsAt W' b = some cs := by rw [hle.cellsAt h2]; exact h3
  have e3 : (cs.drop o).take 3 = [.int .u8 l[i].1, .int .i64 l[i].2.1, .int .i64 l[i].2.2] := by
    obtain ⟨a1, a2⟩ := List.getElem?_eq_some_iff.1 h4
    obtain ⟨b1, b2⟩ := List.getElem?_eq_some_iff.1 h5
    obtain ⟨c1, c2⟩ := List.getElem?_eq_some_iff.1 h6
    rw [List.drop_eq_getElem_cons a1, List.drop_eq_getElem_cons b1, List.drop_eq_getElem_cons c1, a2, b2, c2]
    rfl
  have := ldA_ok (n := 3) (o := o) hc (by rw [e3]; rfl)
  rw [e3] at this
  exact this
section
variable {In : Nat → Prop} {rb : Nat} {V V' : AW} {q mh : Nat} {k nx : Int} {n : Nat} {f : Nat → En} {iv : Value} {L : List (Int × Int)}
theorem Srt.is (J : JQ In rb V q mh k nx n f iv L) {l : List (Int × Int)} (h : Srt (KS k) n f l) : l = L :=
  sort_uniq (h.perm.trans J.perm.symm) h.sort J.sort (J.qs.diff h.perm)
end
theorem hvs_is {f : Nat → En} {l : List (Int × Int)} (h : ∀ i (hi : i < l.length), hv (f i) = l[i]) : hvs l.length f = l := by
  refine List.ext_getElem (hvs_len _ _) fun i h1 h2 => ?_
  have : (hvs l.length f)[i] = hv (f i) := by simp [hvs, all]
  rw [this, h i h2]
end Go.Proofs.Ytkpgmabebjmahaa
/- The pile of a queue: its blocks, and what its methods do to them. -/
namespace Go.Proofs.Ytkpgmabebjmahaa.Na
open Go Go.Eng Go.Hp
set_option linter.unusedVariables false
set_option linter.unusedSimpArgs false
set_option linter.unusedSectionVars false
set_option maxRecDepth 100000
theorem ldR {b o : Nat} {cs : List Value} {x : Value} {W : AW} (h : rwCells W b = some cs) (hv : cs[o]? = some x) : ldC (.pointer (some ⟨b, o, none⟩)) W = some (x, W) := ldC_ok (rwCells_cellsAt h) hv
theorem rwOf {W : AW} {b : Nat} {cs : List Value} (h : W.get b = some (.cells cs)) : rwCells W b = some cs := by unfold rwCells; rw [h]
/-- one cell is stored -/
theorem stA {W : AW} {b o : Nat} {cs : List Value} {v : Value} (h : W.get b = some (.cells cs)) (ho : o < cs.length) (hv : v.cells = #[v]) (h1 : Eng.one v = true) : stV 1 (.pointer (some ⟨b, o, none⟩)) v W = some (undef, W.put b (.cells (cs.set o v))) := by
  rw [stV_one hv h1, rwOf h, Option.bind_some, if_pos ho]
theorem lenE : ((#[135] : Array TypeId)[0]?).bind Try.prog.underlying = some (.slice 141) := by kernel_rfl
/-- a pair of numbers -/
abbrev hoV (v : ByteArray × Int) : Value := .agg #[.string v.1, .int .i64 v.2]
structure En where
  b : Nat
  h : Int
  v : ByteArray × Int
abbrev enP (e : En) : Value := .pointer (some ⟨e.b, 0, none⟩)
abbrev enC (e : En) (i : Nat) : List Value := [.int .i64 e.h, .string e.v.1, .int .i64 e.v.2, .int .i64 (i : Int)]
def rowE (n : Nat) (f : Nat → En) : List Value := (List.range n).map fun i => enP (f i)
theorem rowE_len (n : Nat) (f : Nat → En) : (rowE n f).length = n := by simp [rowE]
theorem rowE_get {n : Nat} (f : Nat → En) {i : Nat} (h : i < n) : (rowE n f)[i]? = some (enP (f i)) := by
  unfold rowE
  rw [List.getElem?_map, List.getElem?_range h]; rfl
theorem rowE_succ (n : Nat) (f : Nat → En) : rowE (n + 1) f = rowE n f ++ [enP (f n)] := by
  unfold rowE
  rw [List.range_succ, List.map_append]; rfl
theorem rowE_congr {n : Nat} {f g : Nat → En} (h : ∀ i, i < n → f i = g i) : rowE n f = rowE n g := by
  unfold rowE
  exact List.map_congr_left fun i hi => by rw [h i (List.mem_range.1 hi)]
theorem rowE_set {n : Nat} (f : Nat → En) {i k : Nat} (hi : i < n) (hk : k < n) (j : List Value) : ((rowE n f ++ j).set i (enP (f k))).set k (enP (f i)) = rowE n (swp f i k) ++ j := by
  rw [List.set_append_left _ _ (by rw [rowE_len]; exact hi), List.set_append_left _ _ (by rw [List.length_set, rowE_len]; exact hk)]
  congr 1
  apply List.ext_getElem?
  intro m
  by_cases hm : m < n
  · rw [rowE_get _ hm, List.getElem?_set, List.getElem?_set]
    simp only [List.length_set, rowE_len]
    by_cases h1 : k = m
    · subst h1
      rw [if_pos rfl, if_pos hk, swp_r]
    · rw [if_neg h1]
      by_cases h2 : i = m
      · subst h2
        rw [if_pos rfl, if_pos hi, swp_l]
      · rw [if_neg h2, rowE_get _ hm, swp_ne _ (fun e => h2 e.symm) (fun e => h1 e.symm)]
  · rw [List.getElem?_eq_none (by simp [rowE_len]; omega), List.getElem?_eq_none (by simp [rowE_len]; omega)]
/-- the slice of a pile: nothing yet, or a block that is its own -/
inductive SlAt (W : AW) (n : Nat) (f : Nat → En) : Value → Option Nat → Prop
  | nil : n = 0 → SlAt W n f (.slice none 0 0) none
  | row (bl : Nat) (junk : List Value) : W.get bl = some (.cells (rowE n f ++ junk)) → bl < W.next → (∀ i, i < n → (f i).b ≠ bl) → SlAt W n f (.slice (some ⟨bl, 0, none⟩) n (BIG + 1)) (some bl)
structure Pile (W : AW) (n : Nat) (f : Nat → En) (lv : Value) (bl : Option Nat) : Prop where
  sl : SlAt W n f lv bl
  en : ∀ i, i < n → W.get (f i).b = some (.cells (enC (f i) i)) ∧ (f i).b < W.next
  inj : ∀ i j, i < n → j < n → (f i).b = (f j).b → i = j
theorem Pile.len {W : AW} {n : Nat} {f : Nat → En} {lv : Value} {bl : Option Nat} (h : Pile W n f lv bl) (W' : AW) : oBuiltin Try.prog .len #[135] 3 #[false] [lv] W' = some (.int .i64 (n : Int), W') := by
  cases h.sl with
  | nil h0 => subst h0; exact len_slice lenE _ _ _
  | row bl junk => exact len_slice lenE _ _ _
theorem Pile.get {W : AW} {n : Nat} {f : Nat → En} {lv : Value} {bl : Option Nat} (h : Pile W n f lv bl) {i : Nat} (hi : i < n) : ∃ b, bl = some b ∧ (∀ W' k, ixS 1 lv (.int k (i : Int)) W' = some (.pointer (some ⟨b, i, none⟩), W')) ∧ ldC (.pointer (some ⟨b, i, none⟩)) W = some (enP (f i), W) := by
  cases h.sl with
  | nil h0 => omega
  | row b junk h1 h2 h3 =>
    refine ⟨b, rfl, fun W' k => by rw [ixS_ok hi, Nat.zero_add, Nat.mul_one], ldR (rwOf h1) ?_⟩
    rw [List.getElem?_append_left (by rw [rowE_len]; exact hi), rowE_get f hi]
theorem Pile.cell {W : AW} {n : Nat} {f : Nat → En} {lv : Value} {bl : Option Nat} (h : Pile W n f lv bl) {i : Nat} (hi : i < n) : ldC (.pointer (some ⟨(f i).b, 0, none⟩)) W = some (.int .i64 (f i).h, W) ∧ ldA 2 (.pointer (some ⟨(f i).b, 1, none⟩)) W = some (hoV (f i).v, W) :=
  ⟨ldR (rwOf (h.en i hi).1) rfl, ldA_ok (rwCells_cellsAt (rwOf (h.en i hi).1)) rfl⟩
/-- what a pile's methods may turn -/
def Own (n : Nat) (f : Nat → En) (bl : Option Nat) (b : Nat) : Prop := bl = some b ∨ ∃ i, i < n ∧ (f i).b = b
structure Fr (W W' : AW) (S : Nat → Prop) : Prop where
  next : W'.next = W.next
  get : ∀ b, ¬ S b → W'.get b = W.get b
theorem Fr.refl (W : AW) (S : Nat → Prop) : Fr W W S := ⟨rfl, fun _ _ => rfl⟩
theorem Fr.trans {A B C : AW} {S : Nat → Prop} (h : Fr A B S) (k : Fr B C S) : Fr A C S := ⟨k.next.trans h.next, fun b hb => (k.get b hb).trans (h.get b hb)⟩
theorem Fr.mono {A B : AW} {S T : Nat → Prop} (h : Fr A B S) (hst : ∀ b, S b → T b) : Fr A B T := ⟨h.next, fun b hb => h.get b (fun hs => hb (hst b hs))⟩
/-- the queue's block, with its pile -/
structure QP (W : AW) (q : Nat) (lv less c2 c3 : Value) (n : Nat) (f : Nat → En) (bl : Option Nat) : Prop where
  qc : W.get q = some (.cells [lv, less, c2, c3])
  lt : q < W.next
  pile : Pile W n f lv bl
  bq : bl ≠ some q
  eq : ∀ i, i < n → (f i).b ≠ q
section
variable {W : AW} {q : Nat} {lv less c2 c3 : Value} {n : Nat} {f : Nat → En} {bl : Option Nat}
theorem QP.l0 (h : QP W q lv less c2 c3 n f bl) : ldC (.pointer (some ⟨q, 0, none⟩)) W = some (lv, W) := ldR (rwOf h.qc) rfl
theorem QP.l1 (h : QP W q lv less c2 c3 n f bl) : ldC (.pointer (some ⟨q, 1, none⟩)) W = some (less, W) := ldR (rwOf h.qc) rfl
theorem QP.l2 (h : QP W q lv less c2 c3 n f bl) : ldC (.pointer (some ⟨q, 2, none⟩)) W = some (c2, W) := ldR (rwOf h.qc) rfl
theorem QP.l3 (h : QP W q lv less c2 c3 n f bl) : ldC (.pointer (some ⟨q, 3, none⟩)) W = some (c3, W) := ldR (rwOf h.qc) rfl
theorem pLen_ok (h : QP W q lv less c2 c3 n f bl) : omS (.func (.func 195) #[] #[]) [.pointer (some ⟨q, 0, none⟩)] W = some (.int .i64 (n : Int), W) := by
  refine om_drop rfl ?_ heaps_pilelaw06_Name_Len_om
  unfold heaps_pilelaw06_Name_Len
  simp only [SX, oNilCheck_ptr, Nat.zero_add, h.l0, h.pile.len, Ok_some]
  exact ⟨trivial, .refl _⟩
/-- the order of the entries -/
def bef (ls : ByteArray × Int → ByteArray × Int → Bool) (a b : En) : Bool := ls a.v b.v || (!ls b.v a.v && decide (a.h < b.h))
/-- a function's value that is an order -/
def IsLess (less : Value) (ls : ByteArray × Int → ByteArray × Int → Bool) : Prop := ∀ a b W, omS less [hoV a, hoV b] W = some (.bool (ls a b), W)
theorem pBefore_ok {ls : ByteArray × Int → ByteArray × Int → Bool} (hl : IsLess less ls) (h : QP W q lv less c2 c3 n f bl) {i k : Nat} (hi : i < n) (hk : k < n) : omS (.func (.func 200) #[] #[]) [.pointer (some ⟨q, 0, none⟩), enP (f i), enP (f k)] W = some (.bool (bef ls (f i) (f k)), W) := by
  refine om_drop rfl ?_ heaps_pilelaw06_Name_before_om
  unfold heaps_pilelaw06_Name_before bef
  obtain ⟨a1, a2⟩ := h.pile.cell hi
  obtain ⟨b1, b2⟩ := h.pile.cell hk
  simp only [SX, oNilCheck_ptr, Nat.zero_add, h.l1, a2, b2, hl (f i).v (f k).v]
  cases ls (f i).v (f k).v
  case true =>
    simp only [SX, Ok_some]
    exact ⟨by simp, .refl _⟩
  simp only [SX, oNilCheck_ptr, Nat.zero_add, h.l1, a2, b2, hl (f k).v (f i).v]
  cases ls (f k).v (f i).v
  case true =>
    simp only [SX, Ok_some]
    exact ⟨by simp, .refl _⟩
  simp only [SX, oNilCheck_ptr, Nat.zero_add, a1, b1, Ok_some]
  exact ⟨by simp, .refl _⟩
theorem pLess_ok {ls : ByteArray × Int → ByteArray × Int → Bool} (hl : IsLess less ls) (h : QP W q lv less c2 c3 n f bl) {i k : Nat} (hi : i < n) (hk : k < n) : omS (.func (.func 196) #[] #[]) [.pointer (some ⟨q, 0, none⟩), .int .i64 (i : Int), .int .i64 (k : Int)] W = some (.bool (bef ls (f i) (f k)), W) := by
  refine om_drop rfl ?_ heaps_pilelaw06_Name_Less_om
  unfold heaps_pilelaw06_Name_Less
  obtain ⟨b, -, a1, a2⟩ := h.pile.get hi
  obtain ⟨b', -, b1, b2⟩ := h.pile.get hk
  simp only [SX, oNilCheck_ptr, Nat.zero_add, h.l0, a1, a2, b1, b2, pBefore_ok hl h hi hk, Ok_some]
  exact ⟨trivial, .refl _⟩
theorem pSwap_ok (h : QP W q lv less c2 c3 n f bl) {i k : Nat} (hi : i < n) (hk : k < n) : ∃ W', omS (.func (.func 199) #[] #[]) [.pointer (some ⟨q, 0, none⟩), .int .i64 (i : Int), .int .i64 (k : Int)] W = some (.tuple #[], W') ∧ QP W' q lv less c2 c3 n (swp f i k) bl ∧ Fr W W' (Own n f bl) := by
  have main : Ok (heaps_pilelaw06_Name_Swap omS (.pointer (some ⟨q, 0, none⟩)) (.int .i64 (i : Int)) (.int .i64 (k : Int)) W) fun r => r.1 = .tuple #[] ∧ QP r.2 q lv less c2 c3 n (swp f i k) bl ∧ Fr W r.2 (Own n f bl) := by
    unfold heaps_pilelaw06_Name_Swap
    obtain ⟨hq, hlt, ⟨hsl, hen, hinj⟩, hbq, heq⟩ := h
    cases hsl with
    | nil h0 => omega
    | row b junk h1 h2 h3 =>
      have ix : ∀ {j : Nat} (hj : j < n) (W' : AW) (kk : IntKind), ixS 1 (.slice (some ⟨b, 0, none⟩) n (BIG + 1)) (.int kk (j : Int)) W' = some (.pointer (some ⟨b, j, none⟩), W') := fun hj W' kk => by rw [ixS_ok hj, Nat.zero_add, Nat.mul_one]
      have hbq' : b ≠ q := fun e => hbq (by rw [e])
      have hl0 : ∀ {W' : AW}, W'.get q = W.get q → ldC (.pointer (some ⟨q, 0, none⟩)) W' = some (.slice (some ⟨b, 0, none⟩) n (BIG + 1), W') := fun e => ldR (rwOf (e.trans hq)) rfl
      have g1 : ∀ {j : Nat}, j < n → (rowE n f ++ junk)[j]? = some (enP (f j)) := fun hj => by rw [List.getElem?_append_left (by rw [rowE_len]; exact hj), rowE_get f hj]
      have hlen : ∀ {j : Nat}, j < n → j < (rowE n f ++ junk).length := fun hj => by rw [List.length_append, rowE_len]; omega
      have s1 := stA (W := W) (v := enP (f k)) h1 (hlen hi) rfl rfl
      have hA : (W.put b (.cells ((rowE n f ++ junk).set i (enP (f k))))).get b = some (.cells ((rowE n f ++ junk).set i (enP (f k)))) := AW.get_put _ _ _
      have s2 := stA (v := enP (f i)) hA (by rw [List.length_set]; exact hlen hk) rfl rfl
      rw [rowE_set f hi hk] at s2
      have hB : ∀ X : AW, (X.put b (.cells (rowE n (swp f i k) ++ junk))).get b = some (.cells (rowE n (swp f i k) ++ junk)) := fun X => AW.get_put _ _ _
      simp only [SX, oNilCheck_ptr, Nat.zero_add, hl0 rfl, ix hi, ix hk, ldR (rwOf h1) (g1 hi), ldR (rwOf h1) (g1 hk), s1, s2]
      generalize hW2 : (W.put b (.cells ((rowE n f ++ junk).set i (enP (f k))))).put b (.cells (rowE n (swp f i k) ++ junk)) = W2 at *
      have e2 : ∀ c, c ≠ b → W2.get c = W.get c := fun c hc => by rw [← hW2, AW.get_put_ne _ _ (Ne.symm hc), AW.get_put_ne _ _ (Ne.symm hc)]
      have n2 : W2.next = W.next := by rw [← hW2, AW.put_next, AW.put_next]
      have b2 : W2.get b = some (.cells (rowE n (swp f i k) ++ junk)) := by rw [← hW2]; exact AW.get_put _ _ _
      have g2 : ∀ {j : Nat}, j < n → (rowE n (swp f i k) ++ junk)[j]? = some (enP (swp f i k j)) := fun hj => by rw [List.getElem?_append_left (by rw [rowE_len]; exact hj), rowE_get _ hj]
      have ei := hen i hi
      have ek := hen k hk
      have c1 : W2.get (f k).b = some (.cells (enC (f k) k)) := (e2 _ (h3 k hk)).trans ek.1
      have s3 := stA (v := .int .i64 (i : Int)) (o := 3) c1 (by simp) rfl rfl
      have s3' : ((enC (f k) k).set 3 (.int .i64 (i : Int))) = enC (f k) i := rfl
      rw [s3'] at s3
      simp only [SX, oNilCheck_ptr, Nat.zero_add, hl0 (e2 _ (Ne.symm hbq')), ix hi, ix hk, ldR (rwOf b2) (g2 hi), ldR (rwOf b2) (g2 hk), swp_l, swp_r, s3]
      generalize hW3 : W2.put (f k).b (.cells (enC (f k) i)) = W3 at *
      have c2' : ∃ p, W3.get (f i).b = some (.cells (enC (f i) p)) ∧ (i = k → p = i) := by
        by_cases hik : i = k
        · subst hik
          exact ⟨i, by rw [← hW3]; exact AW.get_put _ _ _, fun _ => rfl⟩
        · refine ⟨i, ?_, fun e => absurd e hik⟩
          rw [← hW3, AW.get_put_ne _ _ (fun e => hik (hinj k i hk hi e).symm), e2 _ (h3 i hi)]
          exact ei.1
      obtain ⟨p, c2', -⟩ := c2'
      have s4 := stA (v := .int .i64 (k : Int)) (o := 3) c2' (by simp) rfl rfl
      have s4' : ((enC (f i) p).set 3 (.int .i64 (k : Int))) = enC (f i) k := rfl
      rw [s4'] at s4
      simp only [SX, oNilCheck_ptr, Nat.zero_add, s4, Ok_some]
      have e4 : ∀ c, c ≠ b → c ≠ (f k).b → c ≠ (f i).b → (W3.put (f i).b (.cells (enC (f i) k))).get c = W.get c := fun c x1 x2 x3 => by rw [AW.get_put_ne _ _ (Ne.symm x3), ← hW3, AW.get_put_ne _ _ (Ne.symm x2), e2 _ x1]
      have n4 : (W3.put (f i).b (.cells (enC (f i) k))).next = W.next := by rw [AW.put_next, ← hW3, AW.put_next, n2]
      have b4 : (W3.put (f i).b (.cells (enC (f i) k))).get b = some (.cells (rowE n (swp f i k) ++ junk)) := by rw [AW.get_put_ne _ _ (h3 i hi), ← hW3, AW.get_put_ne _ _ (h3 k hk)]; exact b2
      have hb : ∀ j, (swp f i k j).b = (f j).b ∨ (j = i ∧ (swp f i k j).b = (f k).b) ∨ (j = k ∧ (swp f i k j).b = (f i).b) := fun j => by
        by_cases x1 : j = i
        · subst x1; rw [swp_l]; exact .inr (.inl ⟨rfl, rfl⟩)
        · by_cases x2 : j = k
          · subst x2; rw [swp_r]; exact .inr (.inr ⟨rfl, rfl⟩)
          · rw [swp_ne _ x1 x2]; exact .inl rfl
      have hcomp : ∀ j, swp f i k j = f (swN i k j) := fun j => by rw [swp_comp]
      refine ⟨trivial, ⟨?_, by rw [n4]; exact hlt, ⟨.row b junk b4 (by rw [n4]; exact h2) (fun j hj => by rw [hcomp]; exact h3 _ (swN_lt hi hk hj)), fun j hj => ?_, fun j m hj hm e => ?_⟩, hbq, fun j hj => by rw [hcomp]; exact heq _ (swN_lt hi hk hj)⟩, n4, fun c hc => ?_⟩
      · rw [e4 q (Ne.symm hbq') (Ne.symm (heq k hk)) (Ne.symm (heq i hi))]; exact hq
      · rw [n4, hcomp]
        refine ⟨?_, (hen _ (swN_lt hi hk hj)).2⟩
        by_cases x1 : j = i
        · subst x1
          have : swN j k j = k := swp_l id j k
          rw [this]
          by_cases x2 : j = k
          · subst x2; exact AW.get_put _ _ _
          · rw [AW.get_put_ne _ _ (fun e => x2 (hinj j k hi hk e)), ← hW3]; exact AW.get_put _ _ _
        · by_cases x2 : j = k
          · subst x2
            have : swN i j j = i := swp_r id i j
            rw [this]
            exact AW.get_put _ _ _
          · have : swN i k j = j := swp_ne id x1 x2
            rw [this, e4 _ (h3 j hj) (fun e => x2 (hinj j k hj hk e)) (fun e => x1 (hinj j i hj hi e))]
            exact (hen j hj).1
      · rw [hcomp, hcomp] at e
        have := hinj _ _ (swN_lt hi hk hj) (swN_lt hi hk hm) e
        have := congrArg (swN i k) this
        rwa [swN_swN, swN_swN] at this
      · exact e4 c (fun e => hc (.inl (by rw [e]))) (fun e => hc (.inr ⟨k, hk, e.symm⟩)) (fun e => hc (.inr ⟨i, hi, e.symm⟩))
  obtain ⟨⟨r, W'⟩, h1, h2, h3⟩ := main
  simp only at h2 h3
  subst h2
  exact ⟨W', by rw [heaps_pilelaw06_Name_Swap_om h1, gc_not rfl], h3⟩
end
end Go.Proofs.Ytkpgmabebjmahaa.Na
/- The pile of a queue: push and pop. -/
namespace Go.Proofs.Ytkpgmabebjmahaa.Na
open Go Go.Eng Go.Hp
set_option linter.unusedVariables false
set_option linter.unusedSimpArgs false
set_option linter.unusedSectionVars false
set_option maxRecDepth 100000
theorem ap104 : appOk Try.prog #[135, 135] 1 8 = true := by kernel_rfl
theorem bs104 (v : Option Addr) (W : AW) : oBuildSlice Try.prog 135 1 [(0, .pointer v)] W = some (.slice (some ⟨W.next, 0, none⟩) 1 1, W.add (.cells [.pointer v])) := Eq.trans (by kernel_rfl) rfl
theorem as127 (v : Value) (W : AW) : oAssert Try.prog (.iface 141 v) 141 false W = some (v, W) := Eq.trans (by kernel_rfl) rfl
theorem ki127 (v : Value) (W : AW) : oMkIface Try.prog 141 v W = some (.iface 141 v, W) := Eq.trans (by kernel_rfl) rfl
theorem ki103 (v : Value) (W : AW) : oMkIface Try.prog 144 v W = some (.iface 144 v, W) := Eq.trans (by kernel_rfl) rfl
/-- one more at the end -/
def snoc (n : Nat) (f : Nat → En) (e : En) : Nat → En := fun i => if i = n then e else f i
theorem snoc_lt {n i : Nat} {f : Nat → En} {e : En} (h : i < n) : snoc n f e i = f i := if_neg (by omega)
theorem snoc_n (n : Nat) (f : Nat → En) (e : En) : snoc n f e n = e := if_pos rfl
theorem all_snoc (n : Nat) (f : Nat → En) (e : En) : all (n + 1) (snoc n f e) = all n f ++ [e] := by
  rw [all_succ, snoc_n]
  congr 1
  unfold all
  exact List.map_congr_left fun i hi => snoc_lt (List.mem_range.1 hi)
theorem rowE_snoc (n : Nat) (f : Nat → En) (e : En) : rowE (n + 1) (snoc n f e) = rowE n f ++ [enP e] := by
  rw [rowE_succ, snoc_n, rowE_congr (g := f) fun i hi => snoc_lt hi]
section
variable {W : AW} {q : Nat} {lv less c2 c3 : Value} {n : Nat} {f : Nat → En} {bl : Option Nat}
theorem pApp {W : AW} {lv : Value} {bl : Option Nat} (h : SlAt W n f lv bl) (hn : n ≤ 10000) {b c : Nat} {x : Value} (hc : cellsAt W b = some [x]) (hx : Eng.one x = true) : ∃ W3, aAppend Try.prog W #[135, 135] lv (.slice (some ⟨b, 0, none⟩) 1 c) = some (.slice (some ⟨W.next, 0, none⟩) (n + 1) (BIG + 1), W3) ∧ W3.next = W.next + 1 ∧ W3.get W.next = some (.cells (rowE n f ++ [x])) ∧ ∀ b, b < W.next → bl ≠ some b → W3.get b = W.get b := by
  cases h with
  | nil h0 =>
    subst h0
    exact ⟨_, app_nil (new := [x]) ap104 hc rfl rfl (by omega) (by simp [hx]) (by omega) (by omega), rfl, AW.get_add _ _, fun d hd _ => AW.get_add_ne _ _ (by omega)⟩
  | row B junk h1 h2 h3 =>
    refine ⟨_, app_on2 (new := [x]) (n := 1) (m := n) ap104 hc rfl rfl (by omega) (by simp [hx]) h1 (by rw [List.length_append, rowE_len]; omega) (by omega) (by omega), rfl, ?_, fun d hd hne => ?_⟩
    · have := AW.get_add (W.kill B) (.cells ((rowE n f ++ junk).take (n * 1) ++ [x]))
      rw [AW.kill_next] at this
      rw [this, Nat.mul_one, List.take_append_of_le_length (by rw [rowE_len]; omega), List.take_of_length_le (by rw [rowE_len]; omega)]
    · rw [AW.get_add_ne _ _ (by rw [AW.kill_next]; omega), AW.get_kill_ne _ (fun e => hne (by rw [e]))]
theorem SlAt.keep {W W' : AW} {lv : Value} {bl : Option Nat} (h : SlAt W n f lv bl) (hn : W.next ≤ W'.next) (hg : ∀ b, bl = some b → W'.get b = W.get b) : SlAt W' n f lv bl := by
  cases h with
  | nil h0 => exact .nil h0
  | row b junk h1 h2 h3 => exact .row b junk ((hg b rfl).trans h1) (by omega) h3
theorem SlAt.lt {W : AW} {lv : Value} {bl : Option Nat} (h : SlAt W n f lv bl) {b : Nat} (hb : bl = some b) : b < W.next := by
  cases h with
  | nil h0 => cases hb
  | row b junk h1 h2 h3 => cases hb; exact h2
theorem SlAt.ne {W : AW} {lv : Value} {bl : Option Nat} (h : SlAt W n f lv bl) {i : Nat} (hi : i < n) : bl ≠ some (f i).b := by
  cases h with
  | nil h0 => omega
  | row b junk h1 h2 h3 => exact fun e => h3 i hi (by injection e with e; exact e.symm)
theorem pPush_ok (h : QP W q lv less c2 c3 n f bl) (hn : n ≤ 10000) {e : En} {p : Value} (he : W.get e.b = some (.cells [.int .i64 e.h, .string e.v.1, .int .i64 e.v.2, p])) (hlt : e.b < W.next) (hq : e.b ≠ q) (hbl : bl ≠ some e.b) (hne : ∀ i, i < n → (f i).b ≠ e.b) :
    ∃ W' lv' b', omS (.func (.func 198) #[] #[]) [.pointer (some ⟨q, 0, none⟩), .iface 141 (enP e)] W = some (.tuple #[], W') ∧ QP W' q lv' less c2 c3 (n + 1) (snoc n f e) (some b') ∧ W.next ≤ b' ∧ W.next ≤ W'.next ∧ ∀ b, b < W.next → b ≠ q → b ≠ e.b → bl ≠ some b → W'.get b = W.get b := by
  have main : Ok (heaps_pilelaw06_Name_Push omS (.pointer (some ⟨q, 0, none⟩)) (.iface 141 (enP e)) W) fun r => r.1 = .tuple #[] ∧ ∃ lv' b', QP r.2 q lv' less c2 c3 (n + 1) (snoc n f e) (some b') ∧ W.next ≤ b' ∧ W.next ≤ r.2.next ∧ ∀ b, b < W.next → b ≠ q → b ≠ e.b → bl ≠ some b → r.2.get b = W.get b := by
    unfold heaps_pilelaw06_Name_Push
    have s1 := stA (v := .int .i64 (n : Int)) (o := 3) he (by simp) rfl rfl
    have s1' : ([.int .i64 e.h, .string e.v.1, .int .i64 e.v.2, p] : List Value).set 3 (.int .i64 (n : Int)) = enC e n := rfl
    rw [s1'] at s1
    simp only [SX, as127, oNilCheck_ptr, Nat.zero_add, h.l0, h.pile.len, s1]
    obtain ⟨hqc, hql, ⟨hsl, hen, hinj⟩, hbq, heq⟩ := h
    generalize hW1 : W.put e.b (.cells (enC e n)) = W1 at *
    have g1 : ∀ b, b ≠ e.b → W1.get b = W.get b := fun b hb => by rw [← hW1]; exact AW.get_put_ne _ _ (Ne.symm hb)
    have n1 : W1.next = W.next := by rw [← hW1, AW.put_next]
    have ge1 : W1.get e.b = some (.cells (enC e n)) := by rw [← hW1]; exact AW.get_put _ _ _
    have q1 : W1.get q = some (.cells [lv, less, c2, c3]) := (g1 q (Ne.symm hq)).trans hqc
    have g2 : ∀ b, b < W.next → (W1.add (.cells [enP e])).get b = W1.get b := fun b hb => AW.get_add_ne _ _ (by omega)
    have hs2 : SlAt (W1.add (.cells [enP e])) n f lv bl := hsl.keep (by rw [AW.add_next, n1]; omega) fun b hb => by
      rw [g2 b (hsl.lt hb), g1 b (fun x => hbl (by rw [hb, x]))]
    obtain ⟨W3, a1, a2, a3, a4⟩ := pApp (b := W1.next) (c := 1) hs2 hn cellsAt_new (x := enP e) rfl
    rw [AW.add_next, n1] at a2 a3 a4
    simp only [SX, oNilCheck_ptr, Nat.zero_add, ldR (o := 0) (rwOf q1) rfl, bs104, a1]
    rw [AW.add_next, n1]
    have g3 : ∀ b, b < W.next → bl ≠ some b → W3.get b = W1.get b := fun b hb hne => by rw [a4 b (by omega) hne, g2 b hb]
    have q3 := (g3 q hql hbq).trans q1
    have s3 := stA (v := .slice (some ⟨W.next + 1, 0, none⟩) (n + 1) (BIG + 1)) (o := 0) q3 (by simp) rfl rfl
    simp only [SX, oNilCheck_ptr, Nat.zero_add, s3, Ok_some]
    rw [show ([lv, less, c2, c3] : List Value).set 0 (.slice (some ⟨W.next + 1, 0, none⟩) (n + 1) (BIG + 1)) = [.slice (some ⟨W.next + 1, 0, none⟩) (n + 1) (BIG + 1), less, c2, c3] from rfl] at *
    generalize hW4 : W3.put q (.cells [.slice (some ⟨W.next + 1, 0, none⟩) (n + 1) (BIG + 1), less, c2, c3]) = W4 at *
    have g4 : ∀ b, b ≠ q → W4.get b = W3.get b := fun b hb => by rw [← hW4]; exact AW.get_put_ne _ _ (Ne.symm hb)
    have n4 : W4.next = W.next + 1 + 1 := by rw [← hW4, AW.put_next, a2]
    have hall : ∀ i, i < n + 1 → W4.get (snoc n f e i).b = some (.cells (enC (snoc n f e i) i)) ∧ (snoc n f e i).b < W.next ∧ (snoc n f e i).b ≠ q := fun i hi => by
      by_cases hin : i < n
      · rw [snoc_lt hin]
        refine ⟨?_, (hen i hin).2, heq i hin⟩
        rw [g4 _ (heq i hin), g3 _ (hen i hin).2 (hsl.ne hin), g1 _ (hne i hin)]
        exact (hen i hin).1
      · have : i = n := by omega
        subst this
        rw [snoc_n]
        exact ⟨by rw [g4 _ hq, g3 _ hlt hbl]; exact ge1, hlt, hq⟩
    refine ⟨trivial, _, W.next + 1, ⟨by rw [← hW4]; exact AW.get_put _ _ _, by omega, ⟨.row (W.next + 1) [] ?_ (by omega) (fun i hi => by have := (hall i hi).2.1; omega), fun i hi => ⟨(hall i hi).1, by have := (hall i hi).2.1; omega⟩, fun i j hi hj hij => ?_⟩, fun x => by injection x with x; omega, fun i hi => (hall i hi).2.2⟩, by omega, by omega, fun b hb hbq' hbe hbb => by rw [g4 _ hbq', g3 _ hb hbb, g1 _ hbe]⟩
    · rw [g4 _ (by omega), a3, rowE_snoc, List.append_nil]
    · by_cases hin : i < n
      · by_cases hjn : j < n
        · rw [snoc_lt hin, snoc_lt hjn] at hij
          exact hinj i j hin hjn hij
        · have : j = n := by omega
          subst this
          rw [snoc_lt hin, snoc_n] at hij
          exact absurd hij (hne i hin)
      · have : i = n := by omega
        subst this
        by_cases hjn : j < i
        · rw [snoc_lt hjn, snoc_n] at hij
          exact absurd hij.symm (hne j hjn)
        · omega
  obtain ⟨⟨r, W'⟩, h1, h2, lv', b', h3⟩ := main
  simp only at h2 h3
  subst h2
  exact ⟨W', lv', b', by rw [heaps_pilelaw06_Name_Push_om h1, gc_not rfl], h3⟩
theorem sz104 : sliceZ Try.prog 135 = some 1 := by kernel_rfl
theorem sub1 (n : Nat) (hn : n < 4611686018427387904) (W : AW) : oBin Try.prog .sub 3 false true (.int .i64 ((n + 1 : Nat) : Int)) (.int .i64 1) W = some (.int .i64 (n : Int), W) := by
  rw [oBin_sub (by omega) (by omega)]
  congr 3
  omega
theorem pPop_ok (h : QP W q lv less c2 c3 (n + 1) f bl) (hn : n ≤ 10000) :
    ∃ W' lv', omS (.func (.func 197) #[] #[]) [.pointer (some ⟨q, 0, none⟩)] W = some (.iface 141 (enP (f n)), W') ∧ QP W' q lv' less c2 c3 n f bl ∧ W'.next = W.next ∧ (∀ b, b ≠ q → bl ≠ some b → W'.get b = W.get b) := by
  have main : Ok (heaps_pilelaw06_Name_Pop omS (.pointer (some ⟨q, 0, none⟩)) W) fun r => r.1 = .iface 141 (enP (f n)) ∧ ∃ lv', QP r.2 q lv' less c2 c3 n f bl ∧ r.2.next = W.next ∧ (∀ b, b ≠ q → bl ≠ some b → r.2.get b = W.get b) := by
    unfold heaps_pilelaw06_Name_Pop
    simp only [SX, oNilCheck_ptr, Nat.zero_add, h.l0, h.pile.len, sub1 n (by omega)]
    obtain ⟨hqc, hql, ⟨hsl, hen, hinj⟩, hbq, heq⟩ := h
    cases hsl with
    | nil h0 => omega
    | row b junk h1 h2 h3 =>
      have ix : ∀ {j : Nat} (hj : j < n + 1) (W' : AW) (kk : IntKind), ixS 1 (.slice (some ⟨b, 0, none⟩) (n + 1) (BIG + 1)) (.int kk (j : Int)) W' = some (.pointer (some ⟨b, j, none⟩), W') := fun hj W' kk => by rw [ixS_ok hj, Nat.zero_add, Nat.mul_one]
      have hbq' : b ≠ q := fun e => hbq (by rw [e])
      have g0 : (rowE (n + 1) f ++ junk)[n]? = some (enP (f n)) := by rw [List.getElem?_append_left (by rw [rowE_len]; omega), rowE_get f (by omega)]
      have s1 := stA (W := W) (v := .pointer none) h1 (o := n) (by rw [List.length_append, rowE_len]; omega) rfl rfl
      have hrow : (rowE (n + 1) f ++ junk).set n (.pointer none) = rowE n f ++ (.pointer none :: junk) := by
        rw [rowE_succ, List.append_assoc, List.set_append_right _ _ (by rw [rowE_len]; omega), rowE_len, Nat.sub_self]
        rfl
      rw [hrow] at s1
      simp only [SX, oNilCheck_ptr, Nat.zero_add, ldR (o := 0) (rwOf hqc) rfl, ix (Nat.lt_succ_self n), ldR (rwOf h1) g0, s1]
      generalize hW2 : W.put b (.cells (rowE n f ++ (.pointer none :: junk))) = W2 at *
      have e2 : ∀ c, c ≠ b → W2.get c = W.get c := fun c hc => by rw [← hW2, AW.get_put_ne _ _ (Ne.symm hc)]
      have n2 : W2.next = W.next := by rw [← hW2, AW.put_next]
      have b2 : W2.get b = some (.cells (rowE n f ++ (.pointer none :: junk))) := by rw [← hW2]; exact AW.get_put _ _ _
      have q2 := (e2 q (Ne.symm hbq')).trans hqc
      have s3 := stA (v := .slice (some ⟨b, 0, none⟩) n (BIG + 1)) (o := 0) q2 (by simp) rfl rfl
      rw [show ([.slice (some ⟨b, 0, none⟩) (n + 1) (BIG + 1), less, c2, c3] : List Value).set 0 (.slice (some ⟨b, 0, none⟩) n (BIG + 1)) = [.slice (some ⟨b, 0, none⟩) n (BIG + 1), less, c2, c3] from rfl] at s3
      simp only [SX, oNilCheck_ptr, Nat.zero_add, ldR (o := 0) (rwOf q2) rfl, slice_open sz104 (by omega) (show n ≤ n + 1 by omega), s3, ki127, Ok_some]
      generalize hW4 : W2.put q (.cells [.slice (some ⟨b, 0, none⟩) n (BIG + 1), less, c2, c3]) = W4 at *
      have g4 : ∀ c, c ≠ q → W4.get c = W2.get c := fun c hc => by rw [← hW4]; exact AW.get_put_ne _ _ (Ne.symm hc)
      have n4 : W4.next = W.next := by rw [← hW4, AW.put_next, n2]
      refine ⟨trivial, _, ⟨by rw [← hW4]; exact AW.get_put _ _ _, by omega, ⟨.row b (.pointer none :: junk) ((g4 b hbq').trans b2) (by omega) (fun i hi => h3 i (by omega)), fun i hi => ⟨?_, by have := (hen i (by omega)).2; omega⟩, fun i j hi hj => hinj i j (by omega) (by omega)⟩, hbq, fun i hi => heq i (by omega)⟩, n4, fun c hc hcb => ?_⟩
      · rw [g4 _ (heq i (by omega)), e2 _ (h3 i (by omega))]
        exact (hen i (by omega)).1
      · rw [g4 c hc, e2 c (fun e => hcb (by rw [e]))]
  obtain ⟨⟨r, W'⟩, h1, h2, lv', h3⟩ := main
  simp only at h2 h3
  subst h2
  exact ⟨W', lv', by rw [heaps_pilelaw06_Name_Pop_om h1, gc_not rfl], h3⟩
end
end Go.Proofs.Ytkpgmabebjmahaa.Na
/- container/heap over a queue's pile. -/
namespace Go.Proofs.Ytkpgmabebjmahaa.Na
open Go Go.Eng Go.Hp
set_option linter.unusedVariables false
set_option linter.unusedSimpArgs false
set_option linter.unusedSectionVars false
set_option maxRecDepth 100000
theorem iLess (v : Value) (xs : List Value) (W : AW) : oInvoke Try.prog omS (.iface 144 v) "Less" xs W = omS (.func (.func 196) #[] #[]) (v :: xs) W := inv_eq (by kernel_rfl) _ _
theorem iSwap (v : Value) (xs : List Value) (W : AW) : oInvoke Try.prog omS (.iface 144 v) "Swap" xs W = omS (.func (.func 199) #[] #[]) (v :: xs) W := inv_eq (by kernel_rfl) _ _
theorem iLen (v : Value) (xs : List Value) (W : AW) : oInvoke Try.prog omS (.iface 144 v) "Len" xs W = omS (.func (.func 195) #[] #[]) (v :: xs) W := inv_eq (by kernel_rfl) _ _
theorem iPush (v : Value) (xs : List Value) (W : AW) : oInvoke Try.prog omS (.iface 144 v) "Push" xs W = omS (.func (.func 198) #[] #[]) (v :: xs) W := inv_eq (by kernel_rfl) _ _
theorem iPop (v : Value) (xs : List Value) (W : AW) : oInvoke Try.prog omS (.iface 144 v) "Pop" xs W = omS (.func (.func 197) #[] #[]) (v :: xs) W := inv_eq (by kernel_rfl) _ _
abbrev hpV (q : Nat) : Value := .iface 144 (.pointer (some ⟨q, 0, none⟩))
theorem Own.perm {n : Nat} {f g : Nat → En} {bl : Option Nat} (h : (all n g).Perm (all n f)) {b : Nat} (ho : Own n g bl b) : Own n f bl b := by
  rcases ho with ho | ⟨i, hi, rfl⟩
  · exact .inl ho
  · obtain ⟨k, hk, e⟩ := all_mem.1 (h.mem_iff.1 (all_mem.2 ⟨i, hi, rfl⟩))
    exact .inr ⟨k, hk, by rw [e]⟩
section
variable {W : AW} {q : Nat} {lv less c2 c3 : Value} {n : Nat} {f : Nat → En} {bl : Option Nat} {ls : ByteArray × Int → ByteArray × Int → Bool}
theorem up_ok (o : Ord (bef ls)) (hl : IsLess less ls) (h : QP W q lv less c2 c3 n f bl) (hn : n ≤ 10001) {j : Nat} (hj : j < n) (hup : Up (bef ls) n f j) :
    ∃ W' g, omS (.func (.func 104) #[] #[]) [hpV q, .int .i64 (j : Int)] W = some (.tuple #[], W') ∧ QP W' q lv less c2 c3 n g bl ∧ Fr W W' (Own n f bl) ∧ Heap (bef ls) n g ∧ (all n g).Perm (all n f) := by
  have main : Ok (containerheap_up omS (hpV q) (.int .i64 (j : Int)) W) fun r => r.1 = .tuple #[] ∧ ∃ g, QP r.2 q lv less c2 c3 n g bl ∧ Fr W r.2 (Own n f bl) ∧ Heap (bef ls) n g ∧ (all n g).Perm (all n f) := by
    unfold containerheap_up
    have key : ∀ (i : Nat) (R : PlanTab.Fr) (W' : AW) (g : Nat → En), i < n → R 0 = hpV q → R 1 = .int .i64 (i : Int) → QP W' q lv less c2 c3 n g bl → Fr W W' (Own n f bl) → Up (bef ls) n g i → (all n g).Perm (all n f) →
        Ok (containerheap_up_L1 omS R W') fun r => (r.1 = .exit 0 ∧ ∃ g', QP r.2.2 q lv less c2 c3 n g' bl ∧ Fr W r.2.2 (Own n f bl) ∧ Heap (bef ls) n g' ∧ (all n g').Perm (all n f)) ∨ (r.1 = .normal ∧ 0 < i ∧ ∃ g', r.2.1 0 = hpV q ∧ r.2.1 1 = .int .i64 (par i : Int) ∧ QP r.2.2 q lv less c2 c3 n g' bl ∧ Fr W r.2.2 (Own n f bl) ∧ Up (bef ls) n g' (par i) ∧ (all n g').Perm (all n f)) := by
      intro i R W' g hi h0 h1 hQ hF hU hP
      unfold containerheap_up_L1
      have e1 := oBin_sub (P := Try.prog) (W := W') (t := 3) (c := false) (d := true) (a := (i : Int)) (b := 1) (by omega) (by omega)
      have e2 : oBin Try.prog .quo 3 false true (.int .i64 ((i : Int) - 1)) (.int .i64 2) W' = some (.int .i64 (par i : Int), W') := by
        rw [oBin_quo (by omega), td2, wrap_i64 (by omega) (by have := par_le i; omega)]
      by_cases hi0 : i = 0
      · subst hi0
        have e3 : ((par 0 : Nat) : Int) = ((0 : Nat) : Int) := rfl
        simp only [SX, h0, h1, e1, e2, e3, Ok_some]
        exact .inl ⟨trivial, g, hQ, hF, hU.done (.inl rfl), hP⟩
      · have hpi := par_lt (k := i) (by omega)
        have e3 : ¬ ((par i : Int) = (i : Int)) := by omega
        simp only [SX, h0, h1, e1, e2, e3, iLess, pLess_ok hl hQ hi (show par i < n by omega)]
        cases hb : bef ls (g i) (g (par i))
        · simp only [SX, Ok_some]
          exact .inl ⟨trivial, g, hQ, hF, hU.done (.inr hb), hP⟩
        · obtain ⟨W2, s1, s2, s3⟩ := pSwap_ok hQ (show par i < n by omega) hi
          simp only [SX, h0, h1, iSwap, s1, Ok_some]
          refine .inr ⟨trivial, by omega, _, h0, rfl, s2, hF.trans (s3.mono fun b hb => Own.perm hP hb), hU.step o (by omega) hi hb, (all_swp g (show par i < n by omega) hi).trans hP⟩
    refine Ok_loop j (by omega) (fun k R W' => ∃ i g, i + k ≤ j ∧ i < n ∧ R 0 = hpV q ∧ R 1 = .int .i64 (i : Int) ∧ QP W' q lv less c2 c3 n g bl ∧ Fr W W' (Own n f bl) ∧ Up (bef ls) n g i ∧ (all n g).Perm (all n f))
      (fun r => r.1 = .exit 0 ∧ ∃ g', QP r.2.2 q lv less c2 c3 n g' bl ∧ Fr W r.2.2 (Own n f bl) ∧ Heap (bef ls) n g' ∧ (all n g').Perm (all n f)) ⟨j, f, by omega, hj, rfl, rfl, h, .refl _ _, hup, .refl _⟩ ?_ ?_ ?_
    · rintro k R W' hk ⟨i, g, h1, h2, h3, h4, h5, h6, h7, h8⟩
      refine (key i R W' g h2 h3 h4 h5 h6 h7 h8).mono fun r hr => ?_
      rcases hr with hr | ⟨r1, r2, g', r3, r4, r5, r6, r7, r8⟩
      · exact .inr ⟨by rw [hr.1]; simp, hr⟩
      · have := par_lt r2
        exact .inl ⟨r1, par i, g', by omega, by omega, r3, r4, r5, r6, r7, r8⟩
    · rintro R W' ⟨i, g, h1, h2, h3, h4, h5, h6, h7, h8⟩
      refine (key i R W' g h2 h3 h4 h5 h6 h7 h8).mono fun r hr => ?_
      rcases hr with hr | ⟨r1, r2, -⟩
      · exact ⟨by rw [hr.1]; simp, hr⟩
      · omega
    · rintro ⟨x, R, W'⟩ ⟨hx, hq⟩
      simp only at hx hq
      subst hx
      simp only [SX, Ok_some]
      exact ⟨trivial, hq⟩
  obtain ⟨⟨r, W'⟩, h1, h2, g, h3⟩ := main
  simp only at h2 h3
  subst h2
  exact ⟨W', g, by rw [containerheap_up_om h1, gc_not rfl], h3⟩
end
end Go.Proofs.Ytkpgmabebjmahaa.Na
/- container/heap over a queue's pile: down, push, pop. -/
namespace Go.Proofs.Ytkpgmabebjmahaa.Na
open Go Go.Eng Go.Hp
set_option linter.unusedVariables false
set_option linter.unusedSimpArgs false
set_option linter.unusedSectionVars false
set_option maxRecDepth 100000
section
variable {W : AW} {q : Nat} {lv less c2 c3 : Value} {n : Nat} {f : Nat → En} {bl : Option Nat} {ls : ByteArray × Int → ByteArray × Int → Bool}
theorem QP.back {W W' : AW} (h : QP W' q lv less c2 c3 n f bl) (hn : W'.next = W.next) (hle : Le W W') : QP W q lv less c2 c3 n f bl := by
  obtain ⟨hqc, hql, ⟨hsl, hen, hinj⟩, hbq, heq⟩ := h
  rw [hn] at hql
  refine ⟨by rw [← hle.get q hql]; exact hqc, hql, ⟨hsl.keep (by omega) fun b hb => (hle.get b (by have := hsl.lt hb; omega)).symm, fun i hi => ?_, hinj⟩, hbq, heq⟩
  have := (hen i hi).2
  exact ⟨by rw [← hle.get _ (by omega)]; exact (hen i hi).1, by omega⟩
/-- beyond n nothing is turned -/
def Same (n : Nat) (f g : Nat → En) : Prop := ∀ i, n ≤ i → g i = f i
theorem Own.low {n N : Nat} {f g : Nat → En} {bl : Option Nat} (h : (all n g).Perm (all n f)) (hs : Same n f g) {b : Nat} (ho : Own N g bl b) (hN : n ≤ N) : Own N f bl b := by
  rcases ho with ho | ⟨i, hi, rfl⟩
  · exact .inl ho
  · by_cases hin : i < n
    · obtain ⟨k, hk, e⟩ := all_mem.1 (h.mem_iff.1 (all_mem.2 ⟨i, hin, rfl⟩))
      exact .inr ⟨k, by omega, by rw [e]⟩
    · exact .inr ⟨i, hi, by rw [hs i (by omega)]⟩
theorem down_ok (o : Ord (bef ls)) (hl : IsLess less ls) {N : Nat} (h : QP W q lv less c2 c3 N f bl) (hN : N ≤ 10001) (hn : n ≤ N) {i0 : Nat} (hi0 : i0 ≤ n) (hd : Dn (bef ls) n f i0) :
    ∃ W' g b, omS (.func (.func 94) #[] #[]) [hpV q, .int .i64 (i0 : Int), .int .i64 (n : Int)] W = some (.bool b, W') ∧ QP W' q lv less c2 c3 N g bl ∧ Fr W W' (Own N f bl) ∧ Heap (bef ls) n g ∧ (all n g).Perm (all n f) ∧ Same n f g := by
  have main : Ok (containerheap_down omS (hpV q) (.int .i64 (i0 : Int)) (.int .i64 (n : Int)) W) fun r => (∃ b, r.1 = .bool b) ∧ ∃ g, QP r.2 q lv less c2 c3 N g bl ∧ Fr W r.2 (Own N f bl) ∧ Heap (bef ls) n g ∧ (all n g).Perm (all n f) ∧ Same n f g := by
    unfold containerheap_down
    have key : ∀ (i : Nat) (R : PlanTab.Fr) (W' : AW) (g : Nat → En), i ≤ n → R 0 = hpV q → R 2 = .int .i64 (n : Int) → R 7 = .int .i64 (i : Int) → QP W' q lv less c2 c3 N g bl → Fr W W' (Own N f bl) → Dn (bef ls) n g i → (all n g).Perm (all n f) → Same n f g →
        Ok (containerheap_down_L1 omS R W') fun r => (r.1 = .exit 0 ∧ r.2.1 1 = R 1 ∧ r.2.1 7 = R 7 ∧ ∃ g', QP r.2.2 q lv less c2 c3 N g' bl ∧ Fr W r.2.2 (Own N f bl) ∧ Heap (bef ls) n g' ∧ (all n g').Perm (all n f) ∧ Same n f g') ∨ (r.1 = .normal ∧ i < n ∧ r.2.1 1 = R 1 ∧ ∃ g' j, i < j ∧ j < n ∧ r.2.1 0 = hpV q ∧ r.2.1 2 = .int .i64 (n : Int) ∧ r.2.1 7 = .int .i64 (j : Int) ∧ QP r.2.2 q lv less c2 c3 N g' bl ∧ Fr W r.2.2 (Own N f bl) ∧ Dn (bef ls) n g' j ∧ (all n g').Perm (all n f) ∧ Same n f g') := by
      intro i R W' g hi h0 h2 h7 hQ hF hD hP hS
      unfold containerheap_down_L1
      have e1 : oBin Try.prog .mul 3 true false (.int .i64 2) (.int .i64 (i : Int)) W' = some (.int .i64 (2 * (i : Int)), W') := oBin_mul (by omega) (by omega)
      have e2 := oBin_add (P := Try.prog) (W := W') (t := 3) (c := false) (d := true) (a := 2 * (i : Int)) (b := 1) (by omega) (by omega)
      have e3 := oBin_add (P := Try.prog) (W := W') (t := 3) (c := false) (d := true) (a := 2 * (i : Int) + 1) (b := 1) (by omega) (by omega)
      have e4 : ¬ (2 * (i : Int) + 1 < 0) := by omega
      by_cases hj : n ≤ 2 * i + 1
      · have e5 : (n : Int) ≤ 2 * (i : Int) + 1 := by omega
        simp only [SX, h0, h2, h7, e1, e2, e5, Ok_some]
        exact .inl ⟨trivial, rfl, h7, g, hQ, hF, hD.done o (fun k hk hkn => by omega), hP, hS⟩
      · have e5 : ¬ ((n : Int) ≤ 2 * (i : Int) + 1) := by omega
        have c1 : ((2 * i + 1 : Nat) : Int) = 2 * (i : Int) + 1 := by omega
        have c2' : ((2 * i + 2 : Nat) : Int) = 2 * (i : Int) + 1 + 1 := by omega
        have fin : ∀ j, (j = 2 * i + 1 ∨ j = 2 * i + 2) → j < n → (∀ k, (k = 2 * i + 1 ∨ k = 2 * i + 2) → k < n → bef ls (g k) (g j) = false) →
            (bef ls (g j) (g i) = false → Heap (bef ls) n g) ∧ (bef ls (g j) (g i) = true → ∃ W2, omS (.func (.func 199) #[] #[]) [.pointer (some ⟨q, 0, none⟩), .int .i64 (i : Int), .int .i64 (j : Int)] W' = some (.tuple #[], W2) ∧ QP W2 q lv less c2 c3 N (swp g i j) bl ∧ Fr W W2 (Own N f bl) ∧ Dn (bef ls) n (swp g i j) j ∧ (all n (swp g i j)).Perm (all n f) ∧ Same n f (swp g i j)) := by
          intro j hj1 hj2 hmin
          refine ⟨fun hb => hD.done o fun k hk hkn => o.neg _ _ _ hb (hmin k hk hkn), fun hb => ?_⟩
          obtain ⟨W2, s1, s2, s3⟩ := pSwap_ok hQ (show i < N by omega) (show j < N by omega)
          refine ⟨W2, s1, s2, hF.trans (s3.mono fun b hb => Own.low hP hS hb hn), hD.step o hj1 hj2 hb hmin, (all_swp g (by omega) hj2).trans hP, fun k hk => ?_⟩
          rw [swp_ne _ (by omega) (by omega)]
          exact hS k hk
        by_cases hj2 : 2 * i + 2 < n
        · have e6 : (2 * (i : Int) + 1 + 1 < (n : Int)) := by omega
          have l1 := pLess_ok hl hQ (show 2 * i + 2 < N by omega) (show 2 * i + 1 < N by omega)
          rw [c1, c2'] at l1
          simp only [SX, h0, h2, h7, e1, e2, e3, e4, e5, e6, iLess, l1]
          cases hb : bef ls (g (2 * i + 2)) (g (2 * i + 1))
          · obtain ⟨f1, f2⟩ := fin (2 * i + 1) (.inl rfl) (by omega) fun k hk hkn => by
              rcases hk with rfl | rfl
              · exact ord_irr o _
              · exact hb
            have l2 := pLess_ok hl hQ (show 2 * i + 1 < N by omega) (show i < N by omega)
            rw [c1] at l2 f2
            simp only [SX, h0, h7, iLess, l2]
            cases hb2 : bef ls (g (2 * i + 1)) (g i)
            · simp only [SX, Ok_some]
              exact .inl ⟨trivial, rfl, h7, g, hQ, hF, f1 hb2, hP, hS⟩
            · obtain ⟨W2, s1, s2, s3, s4, s5, s6⟩ := f2 hb2
              simp only [SX, h0, h7, iSwap, s1, Ok_some]
              exact .inr ⟨trivial, by omega, rfl, _, 2 * i + 1, by omega, by omega, h0, h2, by rw [c1]; rfl, s2, s3, s4, s5, s6⟩
          · obtain ⟨f1, f2⟩ := fin (2 * i + 2) (.inr rfl) (by omega) fun k hk hkn => by
              rcases hk with rfl | rfl
              · exact o.asym _ _ hb
              · exact ord_irr o _
            have l2 := pLess_ok hl hQ (show 2 * i + 2 < N by omega) (show i < N by omega)
            rw [c2'] at l2 f2
            simp only [SX, h0, h7, iLess, l2]
            cases hb2 : bef ls (g (2 * i + 2)) (g i)
            · simp only [SX, Ok_some]
              exact .inl ⟨trivial, rfl, h7, g, hQ, hF, f1 hb2, hP, hS⟩
            · obtain ⟨W2, s1, s2, s3, s4, s5, s6⟩ := f2 hb2
              simp only [SX, h0, h7, iSwap, s1, Ok_some]
              exact .inr ⟨trivial, by omega, rfl, _, 2 * i + 2, by omega, by omega, h0, h2, by rw [c2']; rfl, s2, s3, s4, s5, s6⟩
        · have e6 : ¬ (2 * (i : Int) + 1 + 1 < (n : Int)) := by omega
          obtain ⟨f1, f2⟩ := fin (2 * i + 1) (.inl rfl) (by omega) fun k hk hkn => by
            rcases hk with rfl | rfl
            · exact ord_irr o _
            · omega
          have l2 := pLess_ok hl hQ (show 2 * i + 1 < N by omega) (show i < N by omega)
          rw [c1] at l2 f2
          simp only [SX, h0, h2, h7, e1, e2, e3, e4, e5, e6, iLess, l2]
          cases hb2 : bef ls (g (2 * i + 1)) (g i)
          · simp only [SX, Ok_some]
            exact .inl ⟨trivial, rfl, h7, g, hQ, hF, f1 hb2, hP, hS⟩
          · obtain ⟨W2, s1, s2, s3, s4, s5, s6⟩ := f2 hb2
            simp only [SX, h0, h7, iSwap, s1, Ok_some]
            exact .inr ⟨trivial, by omega, rfl, _, 2 * i + 1, by omega, by omega, h0, h2, by rw [c1]; rfl, s2, s3, s4, s5, s6⟩
    simp only [SX]
    refine Ok_loop n (by omega) (fun k R W' => ∃ i g, k ≤ i ∧ i ≤ n ∧ R 0 = hpV q ∧ R 1 = .int .i64 (i0 : Int) ∧ R 2 = .int .i64 (n : Int) ∧ R 7 = .int .i64 (i : Int) ∧ QP W' q lv less c2 c3 N g bl ∧ Fr W W' (Own N f bl) ∧ Dn (bef ls) n g i ∧ (all n g).Perm (all n f) ∧ Same n f g)
      (fun r => r.1 = .exit 0 ∧ (∃ i : Nat, r.2.1 7 = .int .i64 (i : Int)) ∧ r.2.1 1 = .int .i64 (i0 : Int) ∧ ∃ g', QP r.2.2 q lv less c2 c3 N g' bl ∧ Fr W r.2.2 (Own N f bl) ∧ Heap (bef ls) n g' ∧ (all n g').Perm (all n f) ∧ Same n f g') ⟨i0, f, by omega, hi0, rfl, rfl, rfl, rfl, h, .refl _ _, hd, .refl _, fun _ _ => rfl⟩ ?_ ?_ ?_
    · rintro k R W' hk ⟨i, g, h1, h2, h3, h3', h4, h5, h6, h7, h8, h9, h10⟩
      refine (key i R W' g h2 h3 h4 h5 h6 h7 h8 h9 h10).mono fun r hr => ?_
      rcases hr with ⟨r1, r2, r3, r4⟩ | ⟨r1, r2, r3, g', j, j1, j2, r5, r6, r7, r8⟩
      · exact .inr ⟨by rw [r1]; simp, r1, ⟨i, by rw [r3, h5]⟩, by rw [r2, h3'], r4⟩
      · exact .inl ⟨r1, j, g', by omega, by omega, r5, by rw [r3, h3'], r6, r7, r8⟩
    · rintro R W' ⟨i, g, h1, h2, h3, h3', h4, h5, h6, h7, h8, h9, h10⟩
      refine (key i R W' g h2 h3 h4 h5 h6 h7 h8 h9 h10).mono fun r hr => ?_
      rcases hr with ⟨r1, r2, r3, r4⟩ | ⟨r1, r2, -⟩
      · exact ⟨by rw [r1]; simp, r1, ⟨i, by rw [r3, h5]⟩, by rw [r2, h3'], r4⟩
      · omega
    · rintro ⟨x, R, W'⟩ ⟨hx, ⟨i, h7⟩, h1, hq⟩
      simp only at hx h7 h1 hq
      subst hx
      simp only [SX, h7, h1, Ok_some]
      exact ⟨⟨_, rfl⟩, hq⟩
  obtain ⟨⟨r, W'⟩, h1, ⟨b, h2⟩, g, h3⟩ := main
  simp only at h2 h3
  subst h2
  rcases gc_two (W := W) (W' := W') (.bool b) with hg | ⟨hg, hle⟩
  · exact ⟨W', g, b, by rw [containerheap_down_om h1, hg], h3⟩
  · exact ⟨W, g, b, by rw [containerheap_down_om h1, hg], h3.1.back h3.2.1.next hle, .refl _ _, h3.2.2⟩
end
end Go.Proofs.Ytkpgmabebjmahaa.Na
/- container/heap over a queue's pile: push, pop. -/
namespace Go.Proofs.Ytkpgmabebjmahaa.Na
open Go Go.Eng Go.Hp
set_option linter.unusedVariables false
set_option linter.unusedSimpArgs false
set_option linter.unusedSectionVars false
set_option maxRecDepth 100000
section
variable {W : AW} {q : Nat} {lv less c2 c3 : Value} {n : Nat} {f : Nat → En} {bl : Option Nat} {ls : ByteArray × Int → ByteArray × Int → Bool}
theorem heap_up {lt : En → En → Bool} {e : En} (h : Heap lt n f) : Up lt (n + 1) (snoc n f e) n := by
  refine ⟨fun k h0 h1 h2 => ?_, fun k h0 h1 h2 h3 => ?_⟩
  · have := par_lt h0
    rw [snoc_lt (by omega), snoc_lt (by omega)]
    exact h k h0 (by omega)
  · have := par_lt h0
    omega
theorem hPush_ok (o : Ord (bef ls)) (hl : IsLess less ls) (h : QP W q lv less c2 c3 n f bl) (hh : Heap (bef ls) n f) (hn : n ≤ 10000) {e : En} {p : Value} (he : W.get e.b = some (.cells [.int .i64 e.h, .string e.v.1, .int .i64 e.v.2, p])) (hlt : e.b < W.next) (hq : e.b ≠ q) (hbl : bl ≠ some e.b) (hne : ∀ i, i < n → (f i).b ≠ e.b) :
    ∃ W' lv' b' g, omS (.func (.func 70) #[] #[]) [hpV q, .iface 141 (enP e)] W = some (.tuple #[], W') ∧ QP W' q lv' less c2 c3 (n + 1) g (some b') ∧ Heap (bef ls) (n + 1) g ∧ (all (n + 1) g).Perm (e :: all n f) ∧ W.next ≤ b' ∧ W.next ≤ W'.next ∧ ∀ b, b < W.next → b ≠ q → b ≠ e.b → ¬ Own n f bl b → W'.get b = W.get b := by
  obtain ⟨W1, lv', b', p1, p2, p3, p4, p5⟩ := pPush_ok h hn he hlt hq hbl hne
  obtain ⟨W2, g, u1, u2, u3, u4, u5⟩ := up_ok o hl p2 (by omega) (Nat.lt_succ_self n) (heap_up hh)
  have main : Ok (containerheap_Push omS (hpV q) (.iface 141 (enP e)) W) fun r => r.1 = .tuple #[] ∧ r.2 = W2 := by
    unfold containerheap_Push
    simp only [SX, iPush, p1, iLen, pLen_ok p2, sub1 n (by omega), u1, Ok_some]
    exact ⟨trivial, trivial⟩
  obtain ⟨⟨r, W'⟩, h1, h2, h3⟩ := main
  simp only at h2 h3
  subst h2; subst h3
  refine ⟨_, lv', b', g, by rw [containerheap_Push_om h1, gc_not rfl], u2, u4, u5.trans (by rw [all_snoc]; exact List.perm_append_singleton _ _), p3, by rw [u3.next]; exact p4, fun b hb hbq hbe ho => ?_⟩
  rw [u3.get b fun ho2 => ?_, p5 b hb hbq hbe fun hx => ho (.inl hx)]
  rcases ho2 with ho2 | ⟨i, hi, ho2⟩
  · injection ho2 with ho2; omega
  · by_cases hin : i < n
    · rw [snoc_lt hin] at ho2
      exact ho (.inr ⟨i, hin, ho2⟩)
    · have : i = n := by omega
      subst this
      rw [snoc_n] at ho2
      exact hbe ho2.symm
theorem heap_dn {lt : En → En → Bool} (h : Heap lt (n + 1) f) : Dn lt n (swp f 0 n) 0 := by
  refine ⟨fun k h0 h1 h2 => ?_, fun k h0 h1 h2 h3 => by omega⟩
  have := par_lt h0
  rw [swp_ne _ (by omega) (by omega), swp_ne _ h2 (by omega)]
  exact h k h0 (by omega)
theorem hPop_ok (o : Ord (bef ls)) (hl : IsLess less ls) (h : QP W q lv less c2 c3 (n + 1) f bl) (hh : Heap (bef ls) (n + 1) f) (hn : n ≤ 10000) :
    ∃ W' lv' g, omS (.func (.func 53) #[] #[]) [hpV q] W = some (.iface 141 (enP (f 0)), W') ∧ QP W' q lv' less c2 c3 n g bl ∧ Heap (bef ls) n g ∧ (f 0 :: all n g).Perm (all (n + 1) f) ∧ W'.next = W.next ∧ ∀ b, b ≠ q → ¬ Own (n + 1) f bl b → W'.get b = W.get b := by
  obtain ⟨W1, s1, s2, s3⟩ := pSwap_ok h (show 0 < n + 1 by omega) (show n < n + 1 by omega)
  obtain ⟨W2, g, b, d1, d2, d3, d4, d5, d6⟩ := down_ok o hl s2 (by omega) (show n ≤ n + 1 by omega) (Nat.zero_le n) (heap_dn hh)
  have hg : g n = f 0 := by rw [d6 n (Nat.le_refl n), swp_r]
  obtain ⟨W3, lv', p1, p2, p3, p4⟩ := pPop_ok d2 hn
  rw [hg] at p1
  have main : Ok (containerheap_Pop omS (hpV q) W) fun r => r.1 = .iface 141 (enP (f 0)) ∧ r.2 = W3 := by
    unfold containerheap_Pop
    have e0 : (Value.int .i64 (0 : Int)) = .int .i64 ((0 : Nat) : Int) := rfl
    simp only [SX, iLen, pLen_ok h, sub1 n (by omega), iSwap, e0, s1, d1, iPop, p1, Ok_some]
    exact ⟨trivial, trivial⟩
  obtain ⟨⟨r, W'⟩, h1, h2, h3⟩ := main
  simp only at h2 h3
  subst h2; subst h3
  have hp1 : (all (n + 1) (swp f 0 n)).Perm (all (n + 1) f) := all_swp f (by omega) (by omega)
  refine ⟨_, lv', g, by rw [containerheap_Pop_om h1, gc_not rfl], p2, d4, ?_, by rw [p3, d3.next, s3.next], fun b hb ho => ?_⟩
  · refine .trans ?_ hp1
    rw [all_succ, swp_r]
    exact (List.perm_append_singleton _ _).symm.trans (d5.append (.refl _))
  · rw [p4 b hb fun hx => ho (.inl hx), d3.get b fun ho2 => ho (Own.perm hp1 ho2), s3.get b ho]
end
end Go.Proofs.Ytkpgmabebjmahaa.Na
/- A queue and its methods. -/
namespace Go.Proofs.Ytkpgmabebjmahaa.Na
open Go Go.Eng Go.Hp
set_option linter.unusedVariables false
set_option linter.unusedSimpArgs false
set_option linter.unusedSectionVars false
set_option maxRecDepth 100000
theorem u24 : Try.prog.underlying 67 = some (.pointer 140) := by kernel_rfl
theorem u107 : Try.prog.underlying 138 = some (.map 2 141) := by kernel_rfl
theorem u2 : Try.prog.underlying 2 = some (.int .i64) := by kernel_rfl
theorem pNe (a : Addr) (c d : Bool) (W : AW) : oBin Try.prog .neq 67 c d (.pointer (some a)) (.pointer none) W = some (.bool true, W) := by
  unfold oBin aBin aEql; simp only [u24]; rfl
theorem pEq (a : Addr) (c d : Bool) (W : AW) : oBin Try.prog .eql 67 c d (.pointer (some a)) (.pointer none) W = some (.bool false, W) := by
  unfold oBin aBin aEql; simp only [u24]
theorem mNe (m : Nat) (c d : Bool) (W : AW) : oBin Try.prog .neq 138 c d (.map (some m)) (.map none) W = some (.bool true, W) := by
  unfold oBin aBin aEql; simp only [u107]; rfl
theorem bd189 (h : Int) (v : ByteArray × Int) (W : AW) : oBuild Try.prog 143 [(0, .int .i64 h), (1, hoV v)] W = some (.agg #[.int .i64 h, .string v.1, .int .i64 v.2, .int .i64 0], W) := Eq.trans (by kernel_rfl) rfl
theorem al43 (W : AW) : oAlloc Try.prog 70 W = some (.pointer (some ⟨W.next, 0, none⟩), W.add (.cells [.string .empty, .int .i64 0])) := Eq.trans (by kernel_rfl) rfl
theorem oL43 (x : Value) (W : AW) : oLoad Try.prog 70 x W = ldA 2 x W := by kernel_rfl
theorem oRes_NL {P : Program} {W : AW} {t : TypeId} {x y u : Value} : oRes P [(x, none), (y, some t), (u, none)] W = (oLoad P t y W).bind fun r => some (.tuple #[x, r.1, u], W) := by
  unfold oRes oLoad; simp only [oResL]; cases aLoad P W t y <;> rfl
theorem st43 {W : AW} {b : Nat} {x y : Value} (v : ByteArray × Int) (h : W.get b = some (.cells [x, y])) : stV 2 (.pointer (some ⟨b, 0, none⟩)) (hoV v) W = some (undef, W.put b (.cells [.string v.1, .int .i64 v.2])) := by
  rw [stV_agg, rwOf h, Option.bind_some, if_pos ⟨rfl, by simp, rfl⟩]
  rfl
theorem ld43 {W : AW} {b : Nat} {v : ByteArray × Int} (h : W.get b = some (.cells [.string v.1, .int .i64 v.2])) : ldA 2 (.pointer (some ⟨b, 0, none⟩)) W = some (hoV v, W) := ldA_all (cellsAt_of h) rfl
theorem vs_ho (v : ByteArray × Int) : vsame (hoV v) (hoV v) = true := vsame_agg (by simp [vsL, vs1_int, vs1_string])
theorem SlAt.ne_succ {W W' : AW} {n : Nat} {f g : Nat → En} {lv lv' : Value} {bl bl' : Option Nat} (h : SlAt W (n + 1) f lv bl) (h' : SlAt W' n g lv' bl') : lv' ≠ lv := by
  cases h with
  | nil h0 => omega
  | row b junk h1 h2 h3 =>
    cases h' with
    | nil h0 => simp
    | row b' junk' h1' h2' h3' =>
      intro e
      injection e with _ e
      omega
section
variable {W : AW} {q : Nat} {lv less c2 c3 : Value} {n : Nat} {f : Nat → En} {bl : Option Nat} {ls : ByteArray × Int → ByteArray × Int → Bool}
theorem QP.keep {W W' : AW} (h : QP W q lv less c2 c3 n f bl) (hn : W.next ≤ W'.next) (hg : ∀ b, b < W.next → b = q ∨ Own n f bl b → W'.get b = W.get b) : QP W' q lv less c2 c3 n f bl := by
  obtain ⟨hqc, hql, ⟨hsl, hen, hinj⟩, hbq, heq⟩ := h
  refine ⟨by rw [hg q hql (.inl rfl)]; exact hqc, by omega, ⟨hsl.keep hn fun b hb => hg b (hsl.lt hb) (.inr (.inl hb)), fun i hi => ?_, hinj⟩, hbq, heq⟩
  have := (hen i hi).2
  exact ⟨by rw [hg _ this (.inr (.inr ⟨i, hi, rfl⟩))]; exact (hen i hi).1, by omega⟩
theorem QP.turn {c3' : Value} (h : QP W q lv less c2 c3 n f bl) : QP (W.put q (.cells [lv, less, c2, c3'])) q lv less c2 c3' n f bl := by
  obtain ⟨hqc, hql, ⟨hsl, hen, hinj⟩, hbq, heq⟩ := h
  refine ⟨AW.get_put _ _ _, by rw [AW.put_next]; exact hql, ⟨hsl.keep (by rw [AW.put_next]; omega) fun b hb => AW.get_put_ne _ _ (fun e => hbq (by rw [hb, e])), fun i hi => ?_, hinj⟩, hbq, heq⟩
  rw [AW.get_put_ne _ _ (Ne.symm (heq i hi)), AW.put_next]
  exact hen i hi
end
/-- a queue of n entries -/
structure QS (W : AW) (In : Nat → Prop) (q mh : Nat) (less : Value) (ls : ByteArray × Int → ByteArray × Int → Bool) (nx : Int) (n : Nat) (f : Nat → En) : Prop where
  ex : ∃ lv bl, QP W q lv less (.map (some mh)) (.int .i64 nx) n f bl ∧ bl ≠ some mh ∧ ∀ b, Own n f bl b → In b
  ml : mh < W.next
  mq : mh ≠ q
  me : ∀ i, i < n → (f i).b ≠ mh
  iq : In q
  im : In mh
  hp : Heap (bef ls) n f
  mp : ∃ m, MapV W mh m n ∧ (∀ i, i < n → m (f i).h = some (enP (f i))) ∧ ∀ k v, m k = some v → ∃ i, i < n ∧ (f i).h = k ∧ v = enP (f i)
  hd : ∀ i, i < n → 1 ≤ (f i).h ∧ (f i).h < nx
  nx1 : 1 ≤ nx
/-- what changes lies in In -/
structure Gr (W W' : AW) (In : Nat → Prop) : Prop where
  next : W.next ≤ W'.next
  get : ∀ b, b < W.next → ¬ In b → W'.get b = W.get b
theorem Gr.refl (W : AW) (In : Nat → Prop) : Gr W W In := ⟨Nat.le_refl _, fun _ _ _ => rfl⟩
theorem Gr.trans {A B C : AW} {In : Nat → Prop} (h : Gr A B In) (k : Gr B C In) : Gr A C In := ⟨Nat.le_trans h.next k.next, fun b hb hi => (k.get b (Nat.lt_of_lt_of_le hb h.next) hi).trans (h.get b hb hi)⟩
section
variable {W : AW} {In : Nat → Prop} {q mh : Nat} {less : Value} {ls : ByteArray × Int → ByteArray × Int → Bool} {nx : Int} {n : Nat} {f : Nat → En}
theorem QS.keep {W W' : AW} {In' : Nat → Prop} (h : QS W In q mh less ls nx n f) (hn : W.next ≤ W'.next) (hg : ∀ b, b < W.next → In b → W'.get b = W.get b) (hi : ∀ b, b < W.next → In b → In' b) : QS W' In' q mh less ls nx n f := by
  obtain ⟨⟨lv, bl, h1, h2, h3⟩, ml, mq, me, iq, im, hp, ⟨m, m1, m2⟩, hd, nx1⟩ := h
  refine ⟨⟨lv, bl, h1.keep hn fun b hb ho => hg b hb ?_, h2, fun b hb => hi b ?_ (h3 b hb)⟩, by omega, mq, me, hi q h1.lt iq, hi mh ml im, hp, ⟨m, m1.keep (hg mh ml im), m2⟩, hd, nx1⟩
  · rcases ho with rfl | ho
    · exact iq
    · exact h3 b ho
  · rcases hb with hb | ⟨i, hi', rfl⟩
    · exact h1.pile.sl.lt hb
    · exact (h1.pile.en i hi').2
theorem QS.back {W W' : AW} (h : QS W' In q mh less ls nx n f) (hn : W'.next = W.next) (hle : Le W W') : QS W In q mh less ls nx n f :=
  h.keep (by omega) (fun b hb _ => (hle.get b (by omega)).symm) fun _ _ hb => hb
abbrev qV (q : Nat) : Value := .pointer (some ⟨q, 0, none⟩)
theorem made_ok (h : QS W In q mh less ls nx n f) : omS (.func (.func 72) #[] #[]) [qV q] W = some (.bool true, W) := by
  obtain ⟨⟨lv, bl, h1, h2, h3⟩, -⟩ := h
  refine om_drop rfl ?_ heaps_Queuelaw06_Name_made_om
  unfold heaps_Queuelaw06_Name_made
  simp only [SX, pNe, oNilCheck_ptr, Nat.zero_add, h1.l2, mNe, Ok_some]
  exact ⟨trivial, .refl _⟩
theorem qLen_ok (h : QS W In q mh less ls nx n f) : omS (.func (.func 37) #[] #[]) [qV q] W = some (.int .i64 (n : Int), W) := by
  have hm := made_ok h
  obtain ⟨⟨lv, bl, h1, h2, h3⟩, -⟩ := h
  refine om_drop rfl ?_ heaps_Queuelaw06_Name_Len_om
  unfold heaps_Queuelaw06_Name_Len
  simp only [SX, hm, oNilCheck_ptr, Nat.zero_add, h1.l0, h1.pile.len, Ok_some]
  exact ⟨trivial, .refl _⟩
theorem peek_ok (h : QS W In q mh less ls nx n f) (hn : 0 < n) : omS (.func (.func 74) #[] #[]) [qV q] W = some (.tuple #[.int .i64 (f 0).h, hoV (f 0).v, .int .i64 0], W) := by
  refine om_drop rfl ?_ heaps_Queuelaw06_Name_Peek_om
  unfold heaps_Queuelaw06_Name_Peek
  generalize hW1 : W.add (.cells [.string .empty, .int .i64 0]) = W1
  have n1 : W1.next = W.next + 1 := by rw [← hW1, AW.add_next]
  have l1 : Le W W1 := by rw [← hW1]; exact (Le.refl _).add _
  have x1 : W1.get W.next = some (.cells [.string .empty, .int .i64 0]) := by rw [← hW1]; exact AW.get_add _ _
  have h1 : QS W1 In q mh less ls nx n f := h.keep l1.next (fun b hb _ => l1.get b hb) (fun b _ hi => hi)
  have hm := made_ok h1
  obtain ⟨⟨lv, bl, k1, k2, k3⟩, -⟩ := h1
  have e0 : ¬ ((n : Int) = 0) := by omega
  obtain ⟨b, -, g1, g2⟩ := k1.pile.get hn
  have g1' : ∀ W' k, ixS 1 lv (.int k 0) W' = some (.pointer (some ⟨b, 0, none⟩), W') := g1
  obtain ⟨c1, c2⟩ := k1.pile.cell hn
  have x2 : (W1.put W.next (.cells [.string (f 0).v.1, .int .i64 (f 0).v.2])).get W.next = some (.cells [.string (f 0).v.1, .int .i64 (f 0).v.2]) := AW.get_put _ _ _
  simp only [SX, al43, hW1, hm, oNilCheck_ptr, Nat.zero_add, k1.l0, k1.pile.len, e0, g1', g2, c1, c2, st43 _ x1, oRes_NL, oL43, ld43 x2, Option.bind_some, Ok_some]
  exact ⟨trivial, l1.put (Nat.le_refl _) _⟩
theorem qPop_ok (o : Ord (bef ls)) (hl : IsLess less ls) (h : QS W In q mh less ls nx (n + 1) f) (hn : n ≤ 10000) :
    ∃ W' g, omS (.func (.func 36) #[] #[]) [qV q] W = some (.tuple #[.int .i64 (f 0).h, hoV (f 0).v, .int .i64 0], W') ∧ QS W' In q mh less ls nx n g ∧ (f 0 :: all n g).Perm (all (n + 1) f) ∧ Gr W W' In := by
  generalize hV : (W.add (.cells [.string .empty, .int .i64 0])).put W.next (.cells [.string (f 0).v.1, .int .i64 (f 0).v.2]) = V
  generalize hV0 : W.add (.cells [.string .empty, .int .i64 0]) = V0 at hV
  have l0 : Le W V0 := by rw [← hV0]; exact (Le.refl _).add _
  have lV : Le W V := by rw [← hV]; exact l0.put (Nat.le_refl _) _
  have nV : V.next = W.next + 1 := by rw [← hV, AW.put_next, ← hV0, AW.add_next]
  have x0 : V0.get W.next = some (.cells [.string .empty, .int .i64 0]) := by rw [← hV0]; exact AW.get_add _ _
  have xV : V.get W.next = some (.cells [.string (f 0).v.1, .int .i64 (f 0).v.2]) := by rw [← hV]; exact AW.get_put _ _ _
  have h0 : QS V0 In q mh less ls nx (n + 1) f := h.keep l0.next (fun b hb _ => l0.get b hb) (fun b _ hi => hi)
  have hs := h
  have hW := h
  have hpk := peek_ok h0 (by omega)
  have h : QS V In q mh less ls nx (n + 1) f := h.keep lV.next (fun b hb _ => lV.get b hb) (fun b _ hi => hi)
  have main : Ok (heaps_Queuelaw06_Name_Pop omS (qV q) W) fun r => r.1 = .tuple #[.int .i64 (f 0).h, hoV (f 0).v, .int .i64 0] ∧ (∃ g, QS r.2 In q mh less ls nx n g ∧ (f 0 :: all n g).Perm (all (n + 1) f) ∧ Gr W r.2 In) ∧ r.2.get q ≠ W.get q ∧ q < W.next := by
    obtain ⟨⟨lw, bw, w1, w2, w3⟩, wm, -⟩ := hW
    obtain ⟨⟨lv, bl, h1, h2, h3⟩, ml, mq, me, iq, im, hp, ⟨m, m1, m2, m3⟩, hd, nx1⟩ := h
    obtain ⟨W1, lv', g, p1, p2, p3, p4, p5, p6⟩ := hPop_ok o hl h1 hp hn
    have hmem : ∀ i, i < n → ∃ k, k < n + 1 ∧ f k = g i := fun i hi => all_mem.1 (p4.mem_iff.1 (List.mem_cons_of_mem _ (all_mem.2 ⟨i, hi, rfl⟩)))
    have hown : ∀ b, Own n g bl b → Own (n + 1) f bl b := fun b hb => by
      rcases hb with hb | ⟨i, hi, rfl⟩
      · exact .inl hb
      · obtain ⟨k, hk, e⟩ := hmem i hi
        exact .inr ⟨k, hk, by rw [e]⟩
    have hmo : ¬ Own (n + 1) f bl mh := fun ho => by
      rcases ho with ho | ⟨i, hi, ho⟩
      · exact h2 ho
      · exact me i hi ho
    have m1' := m1.keep (p6 mh mq hmo)
    obtain ⟨es, c, d1, d2⟩ := mapV_del m1' u107 u2 [2] (f 0).h
    rw [m2 0 (by omega)] at d2
    simp only [Option.isSome_some, if_true, Nat.add_sub_cancel] at d2
    have dd : oBuiltin Try.prog .delete #[138, 2] 0 #[false, false] [.map (some mh), .int .i64 (f 0).h] W1 = some (.tuple #[], W1.put mh (.map es c)) := by
      show (aDelete Try.prog W1 #[138, 2] (.map (some mh)) (.int .i64 (f 0).h)).map _ = _
      have : (#[138, 2] : Array TypeId) = (138 :: [2]).toArray := rfl
      rw [this, d1]; rfl
    have hqn : W.next ≠ q := by have := w1.lt; omega
    have hmn : W.next ≠ mh := by omega
    have hwo : ¬ Own (n + 1) f bl W.next := fun ho => by
      rcases ho with ho | ⟨i, hi, ho⟩
      · have x := h1.qc
        rw [lV.get q w1.lt, w1.qc] at x
        injection x with x; injection x with x
        injection x with x _
        have y := w1.pile.sl
        rw [x] at y
        have z := h1.pile.sl
        rw [ho] at z
        cases z with
        | row b junk z1 z2 z3 =>
          cases y with
          | row b' junk' y1 y2 y3 => omega
      · have x := (w1.pile.en i hi).2
        omega
    have xW1 : W1.get W.next = some (.cells [.string (f 0).v.1, .int .i64 (f 0).v.2]) := (p6 _ hqn hwo).trans xV
    have xW2 : (W1.put mh (.map es c)).get W.next = some (.cells [.string (f 0).v.1, .int .i64 (f 0).v.2]) := by rw [AW.get_put_ne _ _ (Ne.symm hmn)]; exact xW1
    generalize hW2 : W1.put mh (.map es c) = W2 at d2 dd xW2
    have g2 : ∀ b, b ≠ mh → W2.get b = W1.get b := fun b hb => by rw [← hW2]; exact AW.get_put_ne _ _ (Ne.symm hb)
    have n2 : W2.next = W.next + 1 := by rw [← hW2, AW.put_next, p5, nV]
    have st := st43 (f 0).v xW2
    have xW3 : (W2.put W.next (.cells [.string (f 0).v.1, .int .i64 (f 0).v.2])).get W.next = some (.cells [.string (f 0).v.1, .int .i64 (f 0).v.2]) := AW.get_put _ _ _
    generalize hW3 : W2.put W.next (.cells [.string (f 0).v.1, .int .i64 (f 0).v.2]) = W3 at st xW3
    have g3 : ∀ b, b ≠ W.next → W3.get b = W2.get b := fun b hb => by rw [← hW3]; exact AW.get_put_ne _ _ (Ne.symm hb)
    have n3 : W3.next = W.next + 1 := by rw [← hW3, AW.put_next, n2]
    have st0 : stV 2 (.pointer (some ⟨W.next, 0, none⟩)) (hoV (f 0).v) V0 = some (undef, V) := by rw [st43 _ x0, hV]
    have hbw : ∀ b, Own n g bl b → b ≠ W.next := fun b hb e => hwo (by rw [← e]; exact hown b hb)
    unfold heaps_Queuelaw06_Name_Pop
    simp only [SX, al43, hV0, hpk, st0, oNilCheck_ptr, Nat.zero_add, ki103, p1, p2.l2, dd, ld43 xW2, agV_some, vs_ho, Bool.and_self, st, oRes_NL, oL43, ld43 xW3, Option.bind_some, Ok_some]
    have q3 : QP W3 q lv' less (.map (some mh)) (.int .i64 nx) n g bl := p2.keep (by omega) fun b hb ho => by
      have e1 : b ≠ W.next := by
        rcases ho with rfl | ho
        · exact Ne.symm hqn
        · exact hbw b ho
      rw [g3 b e1, g2 b]
      intro e
      subst e
      rcases ho with ho | ho
      · exact mq ho
      · exact hmo (hown _ ho)
    refine ⟨trivial, ⟨g, ⟨⟨lv', bl, q3, h2, fun b hb => h3 b (hown b hb)⟩, by omega, mq, fun i hi => ?_, iq, im, p3, ⟨_, d2.keep (g3 mh (Ne.symm hmn)), fun i hi => ?_, fun k v hk => ?_⟩, fun i hi => ?_, nx1⟩, p4, by omega, fun b hb hi => ?_⟩, ?_, w1.lt⟩
    · obtain ⟨k, hk, e⟩ := hmem i hi
      rw [← e]; exact me k hk
    · have hne : ¬ (g i).h = (f 0).h := fun e => by
        obtain ⟨k, hk, ek⟩ := hmem i hi
        have a1 := m2 k hk
        rw [ek, e, m2 0 (by omega)] at a1
        injection a1 with a1
        have a2 : (f 0).b = (g i).b := by injection a1 with a1; injection a1 with a1; injection a1
        have hnd : ((f 0).b :: (all n g).map (·.b)).Nodup := by
          have := (p4.map (·.b)).nodup_iff.2 ?_
          · exact this
          · unfold all
            rw [List.map_map, List.nodup_iff_pairwise_ne, List.pairwise_map]
            refine List.nodup_range.imp_of_mem fun {a b} ha hb hab e => hab (h1.pile.inj a b (List.mem_range.1 ha) (List.mem_range.1 hb) e)
        exact (List.nodup_cons.1 hnd).1 (List.mem_map.2 ⟨g i, all_mem.2 ⟨i, hi, rfl⟩, a2.symm⟩)
      obtain ⟨k, hk, ek⟩ := hmem i hi
      rw [if_neg hne, ← ek]
      exact m2 k hk
    · by_cases hk0 : k = (f 0).h
      · rw [if_pos hk0] at hk; cases hk
      · rw [if_neg hk0] at hk
        obtain ⟨i, hi, e1, e2⟩ := m3 k v hk
        have := p4.mem_iff.2 (all_mem.2 ⟨i, hi, rfl⟩)
        rcases List.mem_cons.1 this with e | hm
        · rw [e] at e1; exact absurd e1.symm hk0
        · obtain ⟨j, hj, e⟩ := all_mem.1 hm
          exact ⟨j, hj, by rw [e]; exact e1, by rw [e]; exact e2⟩
    · obtain ⟨k, hk, e⟩ := hmem i hi
      rw [← e]; exact hd k hk
    · rw [g3 b (by omega), g2 b (fun e => hi (by rw [e]; exact im)), p6 b (fun e => hi (by rw [e]; exact iq)) fun ho => hi (h3 b ho)]
      exact lV.get b hb
    · rw [q3.qc, w1.qc]
      intro e
      injection e with e; injection e with e; injection e with e _
      exact SlAt.ne_succ w1.pile.sl p2.pile.sl e
  obtain ⟨⟨r, W'⟩, h1, h2, ⟨g, h3⟩, h4, h5⟩ := main
  simp only at h2 h3 h4 h5
  subst h2
  rcases gc_two (W := W) (W' := W') (.tuple #[.int .i64 (f 0).h, hoV (f 0).v, .int .i64 0]) with hg | ⟨hg, hle⟩
  · exact ⟨W', g, by rw [heaps_Queuelaw06_Name_Pop_om h1, hg], h3⟩
  · exact absurd (hle.get q h5) h4
end
end Go.Proofs.Ytkpgmabebjmahaa.Na
/- A queue: New and Push. -/
namespace Go.Proofs.Ytkpgmabebjmahaa.Na
open Go Go.Eng Go.Hp
set_option linter.unusedVariables false
set_option linter.unusedSimpArgs false
set_option linter.unusedSectionVars false
set_option maxRecDepth 100000
theorem u26b : (match Try.prog.underlying 71 with | some (.func _ _ _) => true | _ => false) = true := by kernel_rfl
theorem u26 : ∃ a b c, Try.prog.underlying 71 = some (.func a b c) := by
  have h := u26b
  split at h
  · rename_i a b c e; exact ⟨a, b, c, e⟩
  · cases h
theorem fNil (k : Nat) (W : AW) : oBin Try.prog .eql 71 false true (.func (.func k) #[] #[]) .nilFunc W = some (.bool false, W) := by
  obtain ⟨a, b, c, h⟩ := u26
  unfold oBin aBin aEql; simp only [h]
theorem bd106 (k : Nat) (W : AW) : oBuild Try.prog 137 [(1, .func (.func k) #[] #[])] W = some (.agg #[.slice none 0 0, .func (.func k) #[] #[]], W) := Eq.trans (by kernel_rfl) rfl
theorem bd109 (k m : Nat) (W : AW) : oBuild Try.prog 140 [(0, .agg #[.slice none 0 0, .func (.func k) #[] #[]]), (1, .map (some m)), (2, .int .i64 1)] W = some (.agg #[.slice none 0 0, .func (.func k) #[] #[], .map (some m), .int .i64 1], W) := Eq.trans (by kernel_rfl) rfl
theorem oBox4 (a b c d : Value) (W : AW) : oBox (.agg #[a, b, c, d]) W = some (.pointer (some ⟨W.next, 0, none⟩), W.add (.cells [a, b, c, d])) := oBox_agg _
theorem mkM (W : AW) : oMkMap Try.prog 138 none W = some (.map (some W.next), W.add (.map [] 0)) := rfl
theorem new_ok {In : Nat → Prop} {W : AW} (hi : ∀ b, W.next ≤ b → In b) (k : Nat) (ls : ByteArray × Int → ByteArray × Int → Bool) (f : Nat → En) : ∃ W' q mh, omS (.func (.func 31) #[] #[]) [.func (.func k) #[] #[]] W = some (qV q, W') ∧ QS W' In q mh (.func (.func k) #[] #[]) ls 1 0 f ∧ Gr W W' In := by
  have main : heaps_Newlaw06_Name omS (.func (.func k) #[] #[]) W = some (qV (W.next + 1), (W.add (.map [] 0)).add (.cells [.slice none 0 0, .func (.func k) #[] #[], .map (some W.next), .int .i64 1])) := by
    unfold heaps_Newlaw06_Name
    simp only [SX, fNil, bd106, mkM, bd109, oBox4]
    rfl
  have e := heaps_Newlaw06_Name_om main
  rw [gc_not rfl] at e
  refine ⟨_, W.next + 1, W.next, e, ⟨⟨.slice none 0 0, none, ⟨by rw [← AW.add_next W (.map [] 0)]; exact AW.get_add _ _, by simp only [AW.add_next]; omega, ⟨.nil rfl, fun i hi => by omega, fun i j hi => by omega⟩, by simp, fun i hi => by omega⟩, by simp, fun b hb => ?_⟩, by simp only [AW.add_next]; omega, by omega, fun i hi => by omega, hi _ (by omega), hi _ (by omega), fun k _ hk => by omega, ⟨_, mapV_new.keep (AW.get_add_ne _ _ (by rw [AW.add_next]; omega)), fun i hi => by omega, fun k v hk => by cases hk⟩, fun i hi => by omega, by omega⟩, by simp only [AW.add_next]; omega, fun b hb _ => ?_⟩
  · rcases hb with hb | ⟨i, hi, -⟩
    · cases hb
    · omega
  · rw [AW.get_add_ne _ _ (by rw [AW.add_next]; omega), AW.get_add_ne _ _ (by omega)]
section
variable {W : AW} {In : Nat → Prop} {q mh : Nat} {less : Value} {ls : ByteArray × Int → ByteArray × Int → Bool} {nx : Int} {n : Nat} {f : Nat → En}
theorem qPush_ok (o : Ord (bef ls)) (hl : IsLess less ls) (h : QS W In q mh less ls nx n f) (hn : n < 5000) (hnx : nx < 1000000000000000) (hi : ∀ b, W.next ≤ b → In b) (v : ByteArray × Int) :
    ∃ W' g, omS (.func (.func 33) #[] #[]) [qV q, hoV v] W = some (.tuple #[.int .i64 nx, .int .i64 0], W') ∧ QS W' In q mh less ls (nx + 1) (n + 1) g ∧ (all (n + 1) g).Perm (⟨W.next + 1, nx, v⟩ :: all n f) ∧ Gr W W' In := by
  generalize hV : W.add (.cells [.string v.1, .int .i64 v.2]) = V
  have lV : Le W V := by rw [← hV]; exact (Le.refl _).add _
  have nV : V.next = W.next + 1 := by rw [← hV, AW.add_next]
  have xV : V.get W.next = some (.cells [.string v.1, .int .i64 v.2]) := by rw [← hV]; exact AW.get_add _ _
  have oBh : oBox (hoV v) W = some (.pointer (some ⟨W.next, 0, none⟩), V) := by rw [← hV]; exact oBox_agg _
  have hW := h
  replace h : QS V In q mh less ls nx n f := h.keep lV.next (fun b hb _ => lV.get b hb) (fun b _ hi => hi)
  replace hi : ∀ b, V.next ≤ b → In b := fun b hb => hi b (by omega)
  rw [← nV]
  have hm := made_ok h
  have main : Ok (heaps_Queuelaw06_Name_Push omS (qV q) (hoV v) W) fun r => r.1 = .tuple #[.int .i64 nx, .int .i64 0] ∧ (∃ g, QS r.2 In q mh less ls (nx + 1) (n + 1) g ∧ (all (n + 1) g).Perm (⟨V.next, nx, v⟩ :: all n f) ∧ Gr V r.2 In) ∧ r.2.get q ≠ V.get q ∧ q < V.next := by
    obtain ⟨⟨lv, bl, h1, h2, h3⟩, ml, mq, me, iq, im, hp, ⟨m, m1, m2, m3⟩, hd, nx1⟩ := h
    have e1 : ¬ (5000 ≤ (n : Int)) := by omega
    have e2 : ¬ (1000000000000000 ≤ nx) := by omega
    have e3 := fun W' => oBin_add (P := Try.prog) (W := W') (t := 2) (c := false) (d := true) (a := nx) (b := 1) (by omega) (by omega)
    unfold heaps_Queuelaw06_Name_Push
    generalize hW1 : V.add (.cells [.int .i64 nx, .string v.1, .int .i64 v.2, .int .i64 0]) = W1
    have g1 : ∀ b, b < V.next → W1.get b = V.get b := fun b hb => by rw [← hW1]; exact AW.get_add_ne _ _ (by omega)
    have n1 : W1.next = V.next + 1 := by rw [← hW1, AW.add_next]
    have ge1 : W1.get V.next = some (.cells [.int .i64 nx, .string v.1, .int .i64 v.2, .int .i64 0]) := by rw [← hW1]; exact AW.get_add _ _
    have q1 : QP W1 q lv less (.map (some mh)) (.int .i64 nx) n f bl := h1.keep (by omega) fun b hb _ => g1 b hb
    have s1 := stA (v := .int .i64 (nx + 1)) (o := 3) q1.qc (by simp) rfl rfl
    rw [show ([lv, less, .map (some mh), .int .i64 nx] : List Value).set 3 (.int .i64 (nx + 1)) = [lv, less, .map (some mh), .int .i64 (nx + 1)] from rfl] at s1
    have q2 := q1.turn (c3' := .int .i64 (nx + 1))
    generalize hW2 : W1.put q (.cells [lv, less, .map (some mh), .int .i64 (nx + 1)]) = W2 at s1 q2
    have g2 : ∀ b, b ≠ q → W2.get b = W1.get b := fun b hb => by rw [← hW2]; exact AW.get_put_ne _ _ (Ne.symm hb)
    have n2 : W2.next = V.next + 1 := by rw [← hW2, AW.put_next, n1]
    have hqn : V.next ≠ q := by have := h1.lt; omega
    have ge2 : W2.get V.next = some (.cells [.int .i64 nx, .string v.1, .int .i64 v.2, .int .i64 0]) := (g2 _ hqn).trans ge1
    have m1' : MapV W2 mh m n := m1.keep (by rw [g2 _ mq, g1 _ ml])
    obtain ⟨es, c, d1, d2⟩ := mapV_set m1' u107 u2 nx (.pointer (some ⟨V.next, 0, none⟩))
    have hmn : m nx = none := by
      cases hx : m nx with
      | none => rfl
      | some v =>
        obtain ⟨i, hi, e, -⟩ := m3 nx v hx
        have := (hd i hi).2
        omega
    rw [hmn] at d2
    simp only [Option.isSome_none, Bool.false_eq_true, if_false] at d2
    generalize hW3 : W2.put mh (.map es c) = W3 at d1 d2
    have g3 : ∀ b, b ≠ mh → W3.get b = W2.get b := fun b hb => by rw [← hW3]; exact AW.get_put_ne _ _ (Ne.symm hb)
    have n3 : W3.next = V.next + 1 := by rw [← hW3, AW.put_next, n2]
    have hown : ∀ b, Own n f bl b → b < V.next := fun b hb => by
      rcases hb with hb | ⟨i, hi, rfl⟩
      · exact h1.pile.sl.lt hb
      · exact (h1.pile.en i hi).2
    have q3 : QP W3 q lv less (.map (some mh)) (.int .i64 (nx + 1)) n f bl := q2.keep (by omega) fun b hb ho => g3 b fun e => by
      subst e
      rcases ho with ho | ho | ⟨i, hi, ho⟩
      · exact mq ho
      · exact h2 ho
      · exact me i hi ho
    have ge3 : W3.get V.next = some (.cells [.int .i64 nx, .string v.1, .int .i64 v.2, .int .i64 0]) := (g3 _ (by omega)).trans ge2
    obtain ⟨W4, lv', b', g, p1, p2, p3, p4, p5, p6, p7⟩ := hPush_ok (e := ⟨V.next, nx, v⟩) o hl q3 hp (by omega) ge3 (by rw [n3]; exact Nat.lt_succ_self _) hqn (fun e => by have := hown _ (.inl e); simp at this) (fun i hi e => by have := (h1.pile.en i hi).2; simp only at e; omega)
    obtain ⟨j, hj, ej⟩ := all_mem.1 (p4.mem_iff.2 (List.mem_cons_self ..))
    have l4 : ldC (.pointer (some ⟨V.next, 0, none⟩)) W4 = some (.int .i64 nx, W4) := by
      have := (p2.pile.cell hj).1
      rw [ej] at this; exact this
    simp only [SX, hm, oNilCheck_ptr, Nat.zero_add, h1.l0, h1.l3, h1.pile.len, e1, e2, oBh, ld43 xV, bd189, oBox4, hW1, q1.l3, e3, s1, q2.l2, ldR (o := 0) (rwOf ge2) rfl, d1, ki103, ki127, p1, l4, Ok_some]
    have hmem : ∀ i, i < n + 1 → g i = ⟨V.next, nx, v⟩ ∨ ∃ k, k < n ∧ f k = g i := fun i hi => by
      rcases List.mem_cons.1 (p4.mem_iff.1 (all_mem.2 ⟨i, hi, rfl⟩)) with e | e
      · exact .inl e
      · exact .inr (all_mem.1 e)
    have q4 : W4.get q = some (.cells [lv', less, .map (some mh), .int .i64 (nx + 1)]) := p2.qc
    refine ⟨trivial, ⟨g, ⟨⟨lv', some b', p2, fun e => by injection e with e; omega, fun b hb => ?_⟩, by omega, mq, fun i hi' => ?_, iq, im, p3, ⟨_, d2.keep (p7 mh (by omega) mq (by simp only; omega) fun ho => ?_), fun i hi' => ?_, fun k v' hk => ?_⟩, fun i hi' => ?_, by omega⟩, p4, by omega, fun b hb hni => ?_⟩, ?_, h1.lt⟩
    · rcases hb with hb | ⟨i, hi', rfl⟩
      · injection hb with hb
        exact hi b (by omega)
      · rcases hmem i hi' with e | ⟨k, hk, e⟩
        · rw [e]; exact hi _ (Nat.le_refl _)
        · rw [← e]; exact h3 _ (.inr ⟨k, hk, rfl⟩)
    · rcases hmem i hi' with e | ⟨k, hk, e⟩
      · rw [e]; simp only; omega
      · rw [← e]; exact me k hk
    · rcases ho with ho | ⟨i, hi', ho⟩
      · exact h2 ho
      · exact me i hi' ho
    · rcases hmem i hi' with e | ⟨k, hk, e⟩
      · rw [e, if_pos rfl]
      · have := (hd k hk).2
        rw [← e, if_neg (by omega)]
        exact m2 k hk
    · by_cases hk0 : k = nx
      · rw [if_pos hk0] at hk
        injection hk with hk
        exact ⟨j, hj, by rw [ej, hk0], by rw [ej, ← hk]⟩
      · rw [if_neg hk0] at hk
        obtain ⟨i, hi', x1, x2⟩ := m3 k v' hk
        obtain ⟨i2, hi2, x3⟩ := all_mem.1 (p4.mem_iff.2 (List.mem_cons_of_mem _ (all_mem.2 ⟨i, hi', rfl⟩)))
        exact ⟨i2, hi2, by rw [x3]; exact x1, by rw [x3]; exact x2⟩
    · rcases hmem i hi' with e | ⟨k, hk, e⟩
      · rw [e]; simp only; omega
      · have := hd k hk
        rw [← e]; omega
    · rw [p7 b (by omega) (fun e => hni (by rw [e]; exact iq)) (by simp only; omega) (fun ho => hni (h3 b ho)), g3 b (fun e => hni (by rw [e]; exact im)), g2 b (fun e => hni (by rw [e]; exact iq)), g1 b hb]
    · rw [q4, h1.qc]
      intro e
      injection e with e; injection e with e
      injection e with _ e; injection e with _ e; injection e with _ e; injection e with e _; injection e with _ e
      omega
  obtain ⟨⟨r, W'⟩, h1, h2, ⟨g, h3, h3', h3''⟩, h4, h5⟩ := main
  simp only at h2 h3 h3' h3'' h4 h5
  subst h2
  have hql : q < W.next := by obtain ⟨⟨lv, bl, k1, -⟩, -⟩ := hW; exact k1.lt
  have hG : Gr W W' In := ⟨Nat.le_trans lV.next h3''.next, fun b hb hn => (h3''.get b (by omega) hn).trans (lV.get b hb)⟩
  rcases gc_two (W := W) (W' := W') (.tuple #[.int .i64 nx, .int .i64 0]) with hg | ⟨hg, hle⟩
  · exact ⟨W', g, by rw [heaps_Queuelaw06_Name_Push_om h1, hg], h3, h3', hG⟩
  · exact absurd ((hle.get q hql).trans (lV.get q hql).symm) h4
end
end Go.Proofs.Ytkpgmabebjmahaa.Na
/- HeapsOrders: the different values; rows that are cut in place. -/
namespace Go.Proofs.Ytkpgmabebjmahaa
open Go Go.Eng Go.Hp
set_option linter.unusedVariables false
set_option linter.unusedSimpArgs false
set_option linter.unusedSectionVars false
set_option maxRecDepth 100000
theorem ap22 : appOk Try.prog #[22, 22] 1 8 = true := by kernel_rfl
theorem sz22 : sliceZ Try.prog 22 = some 1 := by kernel_rfl
theorem bs22_1 (a : Int) (W : AW) : oBuildSlice Try.prog 22 1 [(0, .int .i64 a)] W = some (.slice (some ⟨W.next, 0, none⟩) 1 1, W.add (.cells [.int .i64 a])) := Eq.trans (by kernel_rfl) rfl
theorem bs22_0 (W : AW) : oBuildSlice Try.prog 22 0 [] W = some (.slice (some ⟨W.next, 0, none⟩) 0 0, W.add (.cells [])) := Eq.trans (by kernel_rfl) rfl
/-- each value once, in the order in which it came -/
def dst : List Int → List Int
  | [] => []
  | l => l.foldl (fun d x => if x ∈ d then d else d ++ [x]) []
def dsf (d l : List Int) : List Int := l.foldl (fun d x => if x ∈ d then d else d ++ [x]) d
theorem dsf_nodup : ∀ (l d : List Int), d.Nodup → (dsf d l).Nodup
  | [], d, h => h
  | x :: l, d, h => by
    show (dsf (if x ∈ d then d else d ++ [x]) l).Nodup
    refine dsf_nodup l _ ?_
    split
    · exact h
    · rename_i hx
      exact List.nodup_append.2 ⟨h, by simp, fun a ha b hb e => by
        obtain rfl := List.mem_singleton.1 hb
        exact hx (e ▸ ha)⟩
theorem dsf_len : ∀ (l d : List Int), (dsf d l).length ≤ d.length + l.length
  | [], d => by simp [dsf]
  | x :: l, d => by
    have := dsf_len l (if x ∈ d then d else d ++ [x])
    show (dsf (if x ∈ d then d else d ++ [x]) l).length ≤ _
    refine Nat.le_trans this ?_
    split <;> simp <;> omega
theorem dsf_step {l : List Int} {k : Nat} (hk : k < l.length) : dsf [] (l.take (k + 1)) = if l[k] ∈ dsf [] (l.take k) then dsf [] (l.take k) else dsf [] (l.take k) ++ [l[k]] := by
  unfold dsf
  rw [List.take_succ_eq_append_getElem hk, List.foldl_append]
  rfl
theorem orders_L1 {W : AW} {lv : Value} {l : List Int} {R : PlanTab.Fr} (h : Ints W lv l) (hl : l.length ≤ 100) (r0 : R 0 = lv) (r5 : R 5 = .slice none 0 0) (r6 : R 6 = .int .i64 0) {ρ : Type} {K : LT → Option ρ} {G : ρ → Prop}
    (after : ∀ (R' : PlanTab.Fr) (V : AW) (dv : Value), R' 1 = R 1 → R' 4 = R 4 → R' 5 = dv → Lst W.next V 1 intC dv (dsf [] l) → Le W V → Ok (K (.exit 0, R', V)) G) : Ok (bnd (loopO (law06_HeapsOrders_L1 omS) R W) K) G := by
  refine Ok_loop l.length (by omega) (fun k R' V => ∃ dv, R' 0 = lv ∧ R' 1 = R 1 ∧ R' 4 = R 4 ∧ R' 5 = dv ∧ R' 6 = .int .i64 (k : Int) ∧ Lst W.next V 1 intC dv (dsf [] (l.take k)) ∧ Le W V)
    (fun r => r.1 = .exit 0 ∧ ∃ dv, r.2.1 1 = R 1 ∧ r.2.1 4 = R 4 ∧ r.2.1 5 = dv ∧ Lst W.next r.2.2 1 intC dv (dsf [] l) ∧ Le W r.2.2) ⟨_, r0, rfl, rfl, r5, r6, .inl ⟨rfl, rfl⟩, .refl _⟩ ?_ ?_ ?_
  · rintro k R' V hk ⟨dv, q0, q1, q4, q5, q6, D, lV⟩
    unfold law06_HeapsOrders_L1
    have hV := h.mono lV
    obtain ⟨p, i1, i2⟩ := Ints.get h hk
    have t1 : ((k : Int) < (l.length : Int)) := by omega
    have t2 := fun W' => oBin_add (P := Try.prog) (W := W') (t := 3) (c := false) (d := true) (a := (k : Int)) (b := 1) (by omega) (by omega)
    have e3 : ((k + 1 : Nat) : Int) = (k : Int) + 1 := by omega
    have hD := D.ints
    have hDl : (dsf [] (l.take k)).length ≤ 100 := by
      have := dsf_len (l.take k) []
      rw [List.length_take] at this
      simp at this; omega
    have hst := dsf_step hk
    generalize hd : dsf [] (l.take k) = d at D hD hDl hst
    simp only [SX, q0, q6, hV.len lenI, t1, decide_true]
    refine Ok_loop d.length (by omega) (fun j R2 V2 => V2 = V ∧ R2 0 = lv ∧ R2 1 = R 1 ∧ R2 4 = R 4 ∧ R2 5 = dv ∧ R2 6 = .int .i64 (k : Int) ∧ R2 7 = .bool (decide (l[k] ∈ d.take j)) ∧ R2 8 = .int .i64 (j : Int))
      (fun r => r.1 = .exit 2 ∧ r.2.2 = V ∧ r.2.1 0 = lv ∧ r.2.1 1 = R 1 ∧ r.2.1 4 = R 4 ∧ r.2.1 5 = dv ∧ r.2.1 6 = .int .i64 (k : Int) ∧ r.2.1 7 = .bool (decide (l[k] ∈ d))) ⟨rfl, q0, q1, q4, q5, q6, by simp; rfl, rfl⟩ ?_ ?_ ?_
    · rintro j R2 V2 hj ⟨rfl, p0, p1, p4, p5, p6, p7, p8⟩
      unfold law06_HeapsOrders_L1_L2
      obtain ⟨pd, j1, j2⟩ := Ints.get hD hj
      have s1 : ((j : Int) < (d.length : Int)) := by omega
      have s2 := fun W' => oBin_add (P := Try.prog) (W := W') (t := 3) (c := false) (d := true) (a := (j : Int)) (b := 1) (by omega) (by omega)
      have e4 : ((j + 1 : Nat) : Int) = (j : Int) + 1 := by omega
      have hm : l[k] ∈ d.take (j + 1) ↔ l[k] ∈ d.take j ∨ d[j] = l[k] := by
        rw [List.take_succ_eq_append_getElem hj, List.mem_append, List.mem_singleton]
        exact or_congr_right eq_comm
      by_cases a : l[k] ∈ d.take j
      · have a' : decide (l[k] ∈ d.take j) = true := decide_eq_true a
        rw [a'] at p7
        simp only [SX, p0, p5, p6, p7, p8, hD.len lenI, s1, decide_true, s2, Ok_some]
        exact .inl ⟨trivial, trivial, p0, p1, p4, p5, p6, by rw [decide_eq_true (hm.2 (.inl a))]; rfl, by rw [e4]; rfl⟩
      · have a' : decide (l[k] ∈ d.take j) = false := decide_eq_false a
        rw [a'] at p7
        by_cases b : d[j] = l[k]
        · have b' : decide (d[j] = l[k]) = true := decide_eq_true b
          simp only [SX, p0, p5, p6, p7, p8, hD.len lenI, s1, decide_true, j1, j2 _ (.refl _), i1, i2 _ lV, b', s2, Ok_some]
          exact .inl ⟨trivial, trivial, p0, p1, p4, p5, p6, by rw [decide_eq_true (hm.2 (.inr b))]; rfl, by rw [e4]; rfl⟩
        · have b' : decide (d[j] = l[k]) = false := decide_eq_false b
          simp only [SX, p0, p5, p6, p7, p8, hD.len lenI, s1, decide_true, j1, j2 _ (.refl _), i1, i2 _ lV, b', s2, Ok_some]
          exact .inl ⟨trivial, trivial, p0, p1, p4, p5, p6, by rw [decide_eq_false (fun x => (hm.1 x).elim a b)]; rfl, by rw [e4]; rfl⟩
    · rintro R2 V2 ⟨rfl, p0, p1, p4, p5, p6, p7, p8⟩
      unfold law06_HeapsOrders_L1_L2
      have s1 : ¬ ((d.length : Int) < (d.length : Int)) := by omega
      simp only [SX, p5, p8, hD.len lenI, s1, decide_false, Ok_some]
      exact ⟨by simp, trivial, trivial, p0, p1, p4, p5, p6, by rw [List.take_length] at p7; exact p7⟩
    · rintro ⟨x, R2, V2⟩ ⟨hx, rfl, p0, p1, p4, p5, p6, p7⟩
      simp only at hx p0 p1 p4 p5 p6 p7
      subst hx
      by_cases a : l[k] ∈ d
      · have a' : decide (l[k] ∈ d) = true := decide_eq_true a
        rw [a'] at p7
        rw [if_pos a] at hst
        simp only [SX, p6, p7, t2, Ok_some]
        exact .inl ⟨trivial, dv, p0, p1, p4, p5, by rw [e3]; rfl, by rw [hst]; exact D, lV⟩
      · have a' : decide (l[k] ∈ d) = false := decide_eq_false a
        rw [a'] at p7
        rw [if_neg a] at hst
        have o4 := D.mono ((Le.refl V2).add (.cells (intC l[k])))
        obtain ⟨v', W4, a1, a2, a3, a4⟩ := o4.push (a := l[k]) (b := V2.next) (c := 1) ap22 intC_len intC_one cellsAt_new (by omega) (by omega) (by rw [AW.add_next]; have := lV.next; simp only at this; omega)
        have a1' : aAppend Try.prog (V2.add (.cells [.int .i64 l[k]])) #[22, 22] dv (.slice (some ⟨V2.next, 0, none⟩) 1 1) = some (v', W4) := a1
        simp only [SX, p0, p5, p6, p7, i1, i2 _ lV, bs22_1, a1', t2, Ok_some]
        exact .inl ⟨trivial, v', p0, p1, p4, rfl, by rw [e3]; rfl, by rw [hst]; exact a2, a4 W (lV.add _) (Nat.le_refl _)⟩
  · rintro R' V ⟨dv, q0, q1, q4, q5, q6, D, lV⟩
    unfold law06_HeapsOrders_L1
    have t1 : ¬ ((l.length : Int) < (l.length : Int)) := by omega
    simp only [SX, q0, q6, (h.mono lV).len lenI, t1, decide_false, Ok_some]
    exact ⟨by simp, trivial, dv, q1, q4, q5, by rw [List.take_length] at D; exact D, lV⟩
  · rintro ⟨x, R', V⟩ ⟨hx, dv, q1, q4, q5, D, lV⟩
    simp only at hx q1 q4 q5 D lV
    subst hx
    exact after R' V dv q1 q4 q5 D lV
/-- a row of integers with a block of its own, whatever lies behind it -/
def TRb (W : AW) (v : Value) (l : List Int) (B : Nat) : Prop := ∃ c junk, v = .slice (some ⟨B, 0, none⟩) l.length c ∧ B < W.next ∧ cellsAt W B = some (l.map (Value.int .i64) ++ junk) ∧ (c = BIG + 1 ∨ (l.length ≤ c ∧ c < BIG))
theorem TRb.keep {W W' : AW} {v : Value} {l : List Int} {B : Nat} (h : TRb W v l B) (hn : W.next ≤ W'.next) (hg : W'.get B = W.get B) : TRb W' v l B := by
  obtain ⟨c, junk, h0, h1, h2, h3⟩ := h
  exact ⟨c, junk, h0, by omega, by unfold cellsAt at h2 ⊢; rw [hg]; exact h2, h3⟩
theorem TRb.ints {W : AW} {v : Value} {l : List Int} {B : Nat} (h : TRb W v l B) : Ints W v l := by
  obtain ⟨c, junk, rfl, h1, h2, h3⟩ := h
  refine ⟨_, _, rfl, .inr ⟨B, 0, _, rfl, h1, h2, fun i hi => ?_⟩⟩
  unfold intAt
  rw [Nat.zero_add, Nat.mul_one, List.getElem?_append_left (by rw [List.length_map]; exact hi), List.getElem?_map, List.getElem?_eq_getElem hi]
  rfl
theorem EL.tr {lo : Nat} {W : AW} {v : Value} {l : List Int} (h : EL lo W 1 intC v l) (hl : l.length < 1000) (h0 : l = [] → ∃ B, v = .slice (some ⟨B, 0, none⟩) 0 0 ∧ B < W.next ∧ cellsAt W B = some [] ∧ lo ≤ B) : ∃ B, TRb W v l B ∧ lo ≤ B := by
  by_cases e : l = []
  · subst e
    obtain ⟨B, rfl, h1, h2, h3⟩ := h0 rfl
    exact ⟨B, ⟨0, [], rfl, h1, h2, .inr ⟨Nat.le_refl _, by unfold BIG; omega⟩⟩, h3⟩
  · rcases h with ⟨h, -⟩ | ⟨-, B, c, h1, h2, rfl, hc, h4⟩
    · exact absurd h e
    · refine ⟨B, ⟨c, [], rfl, h2, by rw [cellsAt_of h4, intC_map, List.append_nil], ?_⟩, h1⟩
      rcases hc with rfl | rfl
      · exact .inl rfl
      · exact .inr ⟨Nat.le_refl _, by unfold BIG; omega⟩
/-- append onto a full cut: a new block -/
theorem app_cut {P : Program} {W : AW} {ts : Array TypeId} {z bytes : Nat} (hk : appOk P ts z bytes = true) {b o n c : Nat} {cs new : List Value} (hc : cellsAt W b = some cs) (hn : new = (cs.drop o).take (n * z)) (hl : new.length = n * z) (h0 : 0 < n) (h1 : new.all Eng.one = true)
    {B m : Nat} {old : List Value} (ho : cellsAt W B = some old) (hol : m * z ≤ old.length) (hb : m + n < 1099511627776) (hb2 : (2 * (m + n) + 192) * bytes ≤ 281474976710656) :
    aAppend P W ts (.slice (some ⟨B, 0, none⟩) m m) (.slice (some ⟨b, o, none⟩) n c) = some (.slice (some ⟨W.next, 0, none⟩) (m + n) (BIG + z), W.add (.cells (old.take (m * z) ++ new))) := by
  obtain ⟨t, e, zv, k1, k2, k3, k4, k5, k6⟩ := appOk_inv hk
  have hr : readN W b o (n * z) = some new := by rw [readN_def, hc]; simp only; rw [if_pos (by rw [← hn]; exact hl), hn]
  have hr1 : readSlice W (.slice (some ⟨b, o, none⟩) n c) (n * z) = some new := by
    unfold readSlice
    simp only
    rw [if_neg (by have := Nat.mul_pos h0 k5; omega), if_neg (by omega)]
    exact hr
  have hr2 : readSlice W (.slice (some ⟨B, 0, none⟩) m m) (m * z) = some (old.take (m * z)) := by
    unfold readSlice
    simp only
    rcases Nat.eq_zero_or_pos m with rfl | hm
    · simp
    · rw [if_neg (by have := Nat.mul_pos hm k5; omega), if_neg (by omega), readN_def, ho]
      simp only [List.drop_zero]
      rw [if_pos (by rw [List.length_take]; omega)]
  have hB : m < BIG := by unfold BIG; omega
  have hB2 : ¬ m = BIG + z := by unfold BIG; omega
  unfold aAppend
  simp only [k1, k2, k3, k4, if_true, if_pos (And.intro k5 (And.intro k6 (And.intro hb hb2))), if_neg (show ¬ n = 0 by omega), hr1, hr2, h1, if_neg hB2, if_pos hB, if_neg (show ¬ m + n ≤ m by omega), AW.new_eq]
/-- rest[:k:k], rest[k+1:], append -/
theorem TRb.cut {W : AW} {v : Value} {l : List Int} {B : Nat} (h : TRb W v l B) (hl : l.length ≤ 100) {k : Nat} (hk : k < l.length) : ∃ v1 v2 : Value, (∀ W' : AW, oSlice Try.prog 22 v none (some (.int .i64 (k : Int))) (some (.int .i64 (k : Int))) W' = some (v1, W')) ∧ (∀ W' : AW, oSlice Try.prog 22 v (some (.int .i64 ((k + 1 : Nat) : Int))) none none W' = some (v2, W')) ∧
    ∀ V : AW, W.next ≤ V.next → V.get B = W.get B → ∃ v3 V' B', aAppend Try.prog V #[22, 22] v1 v2 = some (v3, V') ∧ Le V V' ∧ TRb V' v3 (l.take k ++ l.drop (k + 1)) B' ∧ (B' = B ∨ (V.next ≤ B' ∧ B' < V'.next)) := by
  obtain ⟨c, junk, rfl, h1, h2, h3⟩ := h
  obtain ⟨e, he, hz⟩ := sliceZ_inv sz22
  have hc1 : c = BIG + 1 ∨ c < BIG := h3.imp id And.right
  have hkB : k < BIG := by unfold BIG; omega
  have hs1 : ∀ W' : AW, oSlice Try.prog 22 (.slice (some ⟨B, 0, none⟩) l.length c) none (some (.int .i64 (k : Int))) (some (.int .i64 (k : Int))) W' = some (.slice (some ⟨B, 0, none⟩) k k, W') := fun W' => by
    have ha : ((⟨B, 0, none⟩ : Addr).add (0 * 1)) = ⟨B, 0, none⟩ := by rw [addr_add]
    have hcond : (some (Value.int .i64 (k : Int))).isSome = true ∧ k ≤ k ∧ k < BIG ∧ ((c = BIG + 1 ∧ 0 < 1 ∧ k ≤ l.length) ∨ (c < BIG ∧ k ≤ c)) := ⟨rfl, Nat.le_refl _, hkB, by
      rcases h3 with h3 | h3
      · exact .inl ⟨h3, by omega, by omega⟩
      · exact .inr ⟨h3.2, by omega⟩⟩
    unfold oSlice aSlice
    simp only [he, hz, boundOf, natOf, Nat.zero_le, if_true, if_pos hcond, Nat.sub_zero, ha, ite_self]
  obtain ⟨a, c2, hs2, ha2⟩ : ∃ a c', (∀ W' : AW, oSlice Try.prog 22 (.slice (some ⟨B, 0, none⟩) l.length c) (some (.int .i64 ((k + 1 : Nat) : Int))) none none W' = some (.slice a (l.length - (k + 1)) c', W')) ∧ (k + 1 < l.length → a = some ⟨B, k + 1, none⟩) := by
    have h2' : ((⟨B, 0, none⟩ : Addr).add ((k + 1) * 1)) = ⟨B, k + 1, none⟩ := by rw [addr_add]; simp
    rcases h3 with rfl | ⟨h3, h4⟩
    · refine ⟨some ⟨B, k + 1, none⟩, BIG + 1, fun W' => ?_, fun _ => rfl⟩
      unfold oSlice aSlice
      simp only [he, hz, boundOf, natOf, if_pos (show k + 1 ≤ l.length by omega), true_and, if_pos (show 0 < 1 by omega), Nat.le_refl, if_true, h2']
    · have hb : ¬ (c = BIG + 1 ∧ 0 < 1) := fun x => by omega
      refine ⟨some (if c = k + 1 then ⟨B, 0, none⟩ else ⟨B, k + 1, none⟩), c - (k + 1), fun W' => ?_, fun h => by rw [if_neg (by omega)]⟩
      unfold oSlice aSlice
      simp only [he, hz, boundOf, natOf, if_pos (show k + 1 ≤ l.length by omega), if_neg hb, if_pos (And.intro h4 h3), h2']
  refine ⟨_, _, hs1, hs2, fun V hV hgB => ?_⟩
  have hB : cellsAt V B = cellsAt W B := by unfold cellsAt; rw [hgB]
  have ho : cellsAt V B = some (l.map (Value.int .i64) ++ junk) := hB.trans h2
  by_cases hlast : k + 1 < l.length
  · have hn : (l.drop (k + 1)).map (Value.int .i64) = ((l.map (Value.int .i64) ++ junk).drop (k + 1)).take ((l.length - (k + 1)) * 1) := by
      rw [List.drop_append_of_le_length (by rw [List.length_map]; omega), ← List.map_drop, Nat.mul_one, List.take_append_of_le_length (by simp), List.take_of_length_le (by simp)]
    rw [ha2 hlast]
    refine ⟨_, _, V.next, app_cut ap22 ho hn (by simp) (by omega) (by rw [List.all_map, List.all_eq_true]; intro x _; rfl) ho (by simp; omega) (by omega) (by omega), (Le.refl _).add _, ?_, .inr ⟨Nat.le_refl _, by rw [AW.add_next]; omega⟩⟩
    refine ⟨_, [], ?_, by rw [AW.add_next]; omega, ?_, .inl rfl⟩
    · have : (l.take k ++ l.drop (k + 1)).length = k + (l.length - (k + 1)) := by simp; omega
      rw [this]
    · rw [cellsAt_new, List.append_nil, Nat.mul_one, List.take_append_of_le_length (by rw [List.length_map]; omega), ← List.map_take, List.map_append]
  · have e0 : l.length - (k + 1) = 0 := by omega
    rw [e0]
    refine ⟨_, _, B, app_none' ap22 (Nat.le_refl _) (by omega) (by omega), .refl _, ?_, .inl rfl⟩
    have ed : l.drop (k + 1) = [] := List.drop_of_length_le (by omega)
    refine ⟨k, (l.drop k).map (Value.int .i64) ++ junk, ?_, by omega, ?_, .inr ⟨?_, hkB⟩⟩
    · rw [ed, List.append_nil, List.length_take, Nat.min_eq_left (by omega)]
    · rw [ho, ed, List.append_nil, ← List.append_assoc, ← List.map_append, List.take_append_drop]
    · rw [ed, List.append_nil, List.length_take]; omega
end Go.Proofs.Ytkpgmabebjmahaa
/- HeapsOrders: the values are put into the other queue, in the order that is picked. -/
namespace Go.Proofs.Ytkpgmabebjmahaa
open Go Go.Eng Go.Hp
set_option linter.unusedVariables false
set_option linter.unusedSimpArgs false
set_option linter.unusedSectionVars false
set_option maxRecDepth 100000
def xB : ByteArray := bytesL [120]
theorem bd70 (x : Int) (W : AW) : oBuild Try.prog 70 [(0, strV [120]), (1, .int .i64 x)] W = some (Na.hoV (xB, x), W) := Eq.trans (by kernel_rfl) rfl
def byN (a b : ByteArray × Int) : Bool := decide (a.2 < b.2)
theorem byN_ord : Ord (Na.bef byN) := by
  refine ⟨fun a b h => ?_, fun a b c h1 h2 => ?_⟩
  · simp only [Na.bef, byN, Bool.or_eq_true, Bool.and_eq_true, Bool.not_eq_true', decide_eq_true_eq, decide_eq_false_iff_not, Bool.or_eq_false_iff, Bool.and_eq_false_imp] at *
    omega
  · simp only [Na.bef, byN, Bool.or_eq_true, Bool.and_eq_true, Bool.not_eq_true', decide_eq_true_eq, decide_eq_false_iff_not, Bool.or_eq_false_iff, Bool.and_eq_false_imp] at *
    omega
theorem lessN_ok : Na.IsLess (.func (.func 32) #[] #[]) byN := fun a b W => by
  refine om_drop rfl ?_ law06_HeapsOrders_1_om
  unfold law06_HeapsOrders_1
  have oB : ∀ (v : ByteArray × Int) W, oBox (Na.hoV v) W = some (.pointer (some ⟨W.next, 0, none⟩), W.add (.cells [.string v.1, .int .i64 v.2])) := fun v W => oBox_agg _
  generalize hW2 : (W.add (.cells [.string a.1, .int .i64 a.2])).add (.cells [.string b.1, .int .i64 b.2]) = W2
  have n1 : (W.add (.cells [.string a.1, .int .i64 a.2])).next = W.next + 1 := AW.add_next _ _
  have xa : W2.get W.next = some (.cells [.string a.1, .int .i64 a.2]) := by rw [← hW2, AW.get_add_ne _ _ (by rw [n1]; omega)]; exact AW.get_add _ _
  have xb : W2.get (W.next + 1) = some (.cells [.string b.1, .int .i64 b.2]) := by
    rw [← hW2]
    have := (W.add (.cells [.string a.1, .int .i64 a.2])).get_add (.cells [.string b.1, .int .i64 b.2])
    rwa [n1] at this
  have l2 : Le W W2 := by rw [← hW2]; exact ((Le.refl _).add _).add _
  simp only [SX, oB, n1, hW2, Nat.zero_add, ldR (o := 1) (rwOf xa) rfl, ldR (o := 1) (rwOf xb) rfl, Ok_some]
  exact ⟨rfl, l2⟩
theorem conv53 {n : Nat} (h1 : n ≤ 255) (W : AW) : oConv Try.prog 5 3 (.int .u8 (n : Int)) W = some (.int .i64 (n : Int), W) := by
  have : oConv Try.prog 5 3 (.int .u8 (n : Int)) W = some (.int .i64 (IntKind.i64.wrap (n : Int)), W) := Eq.trans (by kernel_rfl) rfl
  rw [this, wrap_i64 (by omega) (by omega)]
def pkAt (cs : List Value) (p : Nat) (x : Nat) : Prop := cs[p]? = some (.int .u8 (x : Int)) ∧ x ≤ 255
abbrev Pks (W : AW) (v : Value) (l : List Nat) : Prop := Row W 1 pkAt v l
theorem Pks.get {W : AW} {v : Value} {l : List Nat} (h : Pks W v l) {i : Nat} (hi : i < l.length) : ∃ p, (∀ W' k, ixS 1 v (.int k (i : Int)) W' = some (p, W')) ∧ (∀ W', Le W W' → ldC p W' = some (.int .u8 (l[i] : Int), W')) ∧ l[i] ≤ 255 := by
  obtain ⟨b, o, cs, h1, h2, h3, h4, h5⟩ := h.elem hi
  exact ⟨_, h1, fun W' hle => ldC_ok (by rw [hle.cellsAt h2]; exact h3) h4, h5⟩
/-- what the loop keeps -/
def L3I (W2 : AW) (D : List Int) (qb mhb : Nat) (V : AW) (rv : Value) (k : Nat) : Prop :=
  ∃ (In : Nat → Prop) (f : Nat → Na.En) (lr : List Int) (B : Nat), TRb V rv lr B ∧ Na.QS V In qb mhb (.func (.func 32) #[] #[]) byN (1 + (k : Int)) k f ∧ (∀ b, V.next ≤ b → In b) ∧ ¬ In B ∧ (∀ b, In b → W2.next ≤ b) ∧ ((all k f).map (fun e => e.v.2) ++ lr).Perm D ∧ (∀ i, i < k → (f i).v.1 = xB) ∧ Le W2 V
theorem L3I.len {W2 V : AW} {D : List Int} {qb mhb k : Nat} {rv : Value} (h : L3I W2 D qb mhb V rv k) : ∃ lr : List Int, lr.length + k = D.length ∧ ∀ W', oBuiltin Try.prog .len #[22] 3 #[false] [rv] W' = some (.int .i64 (lr.length : Int), W') := by
  obtain ⟨In, f, lr, B, T, Q, up, nB, low, P, X, L⟩ := h
  refine ⟨lr, ?_, fun W' => T.ints.len lenI _ _ _⟩
  have := P.length_eq
  rw [List.length_append, List.length_map, all_len] at this
  omega
/-- one value goes over -/
theorem L3I.step {W2 V : AW} {D : List Int} {qb mhb k : Nat} {rv : Value} (h : L3I W2 D qb mhb V rv k) (hD : D.length ≤ 100) {n : Nat} (hn : ∀ W' ty cf, oBuiltin Try.prog .len #[22] ty cf [rv] W' = some (.int .i64 (n : Int), W')) {m : Nat} (hm : m < n) :
    ∃ p x V1 v1 v2 v3 V2, (∀ W' kk, ixS 1 rv (.int kk (m : Int)) W' = some (p, W')) ∧ ldC p V = some (.int .i64 x, V) ∧ omS (.func (.func 33) #[] #[]) [Na.qV qb, Na.hoV (xB, x)] V = some (.tuple #[.int .i64 (1 + (k : Int)), .int .i64 0], V1) ∧
      (∀ W' : AW, oSlice Try.prog 22 rv none (some (.int .i64 (m : Int))) (some (.int .i64 (m : Int))) W' = some (v1, W')) ∧ (∀ W' : AW, oSlice Try.prog 22 rv (some (.int .i64 ((m + 1 : Nat) : Int))) none none W' = some (v2, W')) ∧
      aAppend Try.prog V1 #[22, 22] v1 v2 = some (v3, V2) ∧ L3I W2 D qb mhb V2 v3 (k + 1) := by
  obtain ⟨In, f, lr, B, T, Q, up, nB, low, P, X, L⟩ := h
  have hlen : lr.length + k = D.length := by
    have := P.length_eq
    rw [List.length_append, List.length_map, all_len] at this
    omega
  have hnl : n = lr.length := by
    have := hn V 3 #[false]
    rw [T.ints.len lenI V 3 #[false]] at this
    injection this with this; injection this with this; injection this with _ this
    omega
  have hm' : m < lr.length := by omega
  obtain ⟨p, i1, i2⟩ := Ints.get T.ints hm'
  obtain ⟨V1, g, p1, p2, p3, p4⟩ := Na.qPush_ok byN_ord lessN_ok Q (by omega) (by omega) up (xB, lr[m])
  obtain ⟨v1, v2, c1, c2, c3⟩ := T.cut (by omega) hm'
  have hB : B < V.next := by obtain ⟨c, j, _, h, _⟩ := T; exact h
  obtain ⟨v3, V2, B', a1, a2, a3, a4⟩ := c3 V1 p4.next (p4.get B hB nB)
  have n4 := p4.next
  have n2 := a2.next
  refine ⟨p, lr[m], V1, v1, v2, v3, V2, i1, i2 V (.refl _), p1, c1, c2, a1, fun b => (In b ∧ b < V1.next) ∨ V2.next ≤ b, g, lr.take m ++ lr.drop (m + 1), B', a3, ?_, fun b hb => .inr hb, ?_, ?_, ?_, ?_, ?_⟩
  · have := p2.keep a2.next (fun b hb _ => a2.get b hb) (In' := fun b => (In b ∧ b < V1.next) ∨ V2.next ≤ b) fun b hb hi => .inl ⟨hi, hb⟩
    rw [show (1 : Int) + ((k + 1 : Nat) : Int) = 1 + (k : Int) + 1 by omega]
    exact this
  · rcases a4 with rfl | ⟨h1, h2⟩
    · rintro (h | h)
      · exact nB h.1
      · omega
    · rintro (h | h)
      · omega
      · omega
  · rintro b (h | h)
    · exact low b h.1
    · have := L.next; omega
  · have e1 : ((all (k + 1) g).map fun e => e.v.2).Perm (lr[m] :: (all k f).map fun e => e.v.2) := p3.map fun e => e.v.2
    have e2 : lr.Perm (lr[m] :: (lr.take m ++ lr.drop (m + 1))) := by
      have : lr = lr.take m ++ (lr[m] :: lr.drop (m + 1)) := by rw [← List.drop_eq_getElem_cons hm', List.take_append_drop]
      conv => lhs; rw [this]
      exact List.perm_middle
    refine (e1.append_right _).trans ?_
    rw [List.cons_append]
    exact (List.perm_middle.symm.trans (List.Perm.append_left _ e2.symm)).trans P
  · intro i hi
    rcases List.mem_cons.1 (p3.mem_iff.1 (all_mem.2 ⟨i, hi, rfl⟩)) with e | e
    · rw [e]
    · obtain ⟨j, hj, ej⟩ := all_mem.1 e
      rw [← ej]; exact X j hj
  · refine ⟨by have := L.next; omega, fun b hb => ?_⟩
    have := L.next
    rw [a2.get b (by omega), p4.get b (by omega) fun h => ?_, L.get b hb]
    have := low b h
    omega
theorem orders_L3 {W2 V0 : AW} {D : List Int} {qb mhb : Nat} {pv rv0 dv av : Value} {ps : List Nat} {R0 : PlanTab.Fr} (hp : Pks W2 pv ps) (hD : D.length ≤ 100) (h0 : L3I W2 D qb mhb V0 rv0 0) (r1 : R0 1 = pv) (r5 : R0 5 = dv) (r9 : R0 9 = av) (r10 : R0 10 = Na.qV qb) (r11 : R0 11 = rv0) (r12 : R0 12 = .int .i64 0)
    {ρ : Type} {K : LT → Option ρ} {G : ρ → Prop} (after : ∀ (R : PlanTab.Fr) (V : AW) (rv : Value), R 5 = dv → R 9 = av → R 10 = Na.qV qb → L3I W2 D qb mhb V rv D.length → Ok (K (.exit 4, R, V)) G) : Ok (bnd (loopO (law06_HeapsOrders_L3 omS) R0 V0) K) G := by
  refine Ok_loop D.length (by omega) (fun k R V => ∃ rv, R 1 = pv ∧ R 5 = dv ∧ R 9 = av ∧ R 10 = Na.qV qb ∧ R 11 = rv ∧ R 12 = .int .i64 (k : Int) ∧ L3I W2 D qb mhb V rv k)
    (fun r => r.1 = .exit 4 ∧ ∃ rv, r.2.1 5 = dv ∧ r.2.1 9 = av ∧ r.2.1 10 = Na.qV qb ∧ L3I W2 D qb mhb r.2.2 rv D.length) ⟨rv0, r1, r5, r9, r10, r11, r12, h0⟩ ?_ ?_ ?_
  · rintro k R V hk ⟨rv, r1, r5, r9, r10, r11, r12, I⟩
    unfold law06_HeapsOrders_L3
    obtain ⟨In, f, lr, B, T, Q, up, nB, low, P, X, L⟩ := id I
    have hlen : lr.length + k = D.length := by
      have := P.length_eq
      rw [List.length_append, List.length_map, all_len] at this
      omega
    have hln : ∀ W' ty cf, oBuiltin Try.prog .len #[22] ty cf [rv] W' = some (.int .i64 (lr.length : Int), W') := fun W' ty cf => T.ints.len lenI W' ty cf
    have t1 : (0 : Int) < (lr.length : Int) := by omega
    have t2 := fun W' => oBin_add (P := Try.prog) (W := W') (t := 3) (c := false) (d := true) (a := (k : Int)) (b := 1) (by omega) (by omega)
    have e3 : ((k + 1 : Nat) : Int) = (k : Int) + 1 := by omega
    have e0 : decide ((0 : Int) = 0) = true := rfl
    by_cases hps : ps.length = 0
    · have u1 : ¬ (0 : Int) < (ps.length : Int) := by omega
      obtain ⟨p, x, V1, v1, v2, v3, V2, i1, i2, p1, c1, c2, a1, I'⟩ := I.step hD hln (m := 0) (by omega)
      have i1' : ∀ W' kk, ixS 1 rv (.int kk 0) W' = some (p, W') := i1
      have c1' : ∀ W' : AW, oSlice Try.prog 22 rv none (some (.int .i64 0)) (some (.int .i64 0)) W' = some (v1, W') := c1
      have c2' : ∀ W' : AW, oSlice Try.prog 22 rv (some (.int .i64 1)) none none W' = some (v2, W') := c2
      have t3 : ∀ W', oBin Try.prog .add 3 false true (.int .i64 0) (.int .i64 1) W' = some (.int .i64 1, W') := fun W' => oBin_add (by omega) (by omega)
      simp only [SX, r1, r10, r11, r12, hln, t1, decide_true, hp.len len47, u1, decide_false, i1', i2, bd70, p1, e0, c1', t3, c2', a1, t2, Ok_some]
      exact .inl ⟨trivial, v3, r1, r5, r9, r10, rfl, by rw [e3]; rfl, I'⟩
    · have u1 : (0 : Int) < (ps.length : Int) := by omega
      have hk2 : k % ps.length < ps.length := Nat.mod_lt _ (by omega)
      obtain ⟨pp, j1, j2, j3⟩ := Pks.get hp hk2
      have m1 : ∀ W', oBin Try.prog .rem 3 false false (.int .i64 (k : Int)) (.int .i64 (ps.length : Int)) W' = some (.int .i64 ((k % ps.length : Nat) : Int), W') := fun W' => oBin_rem (by omega)
      generalize ps[k % ps.length] = y at j2 j3
      have m2 : ∀ W', oBin Try.prog .rem 3 false false (.int .i64 (y : Int)) (.int .i64 (lr.length : Int)) W' = some (.int .i64 ((y % lr.length : Nat) : Int), W') := fun W' => oBin_rem (by omega)
      have hy : y % lr.length < lr.length := Nat.mod_lt _ (by omega)
      generalize y % lr.length = m at m2 hy
      obtain ⟨p, x, V1, v1, v2, v3, V2, i1, i2, p1, c1, c2, a1, I'⟩ := I.step hD hln hy
      have t3 : ∀ W', oBin Try.prog .add 3 false true (.int .i64 (m : Int)) (.int .i64 1) W' = some (.int .i64 ((m + 1 : Nat) : Int), W') := fun W' => by
        rw [oBin_add (by omega) (by omega)]; congr 3
      simp only [SX, r1, r10, r11, r12, hln, t1, decide_true, hp.len len47, u1, m1, j1, j2 V L, conv53 j3, m2, i1, i2, bd70, p1, e0, c1, t3, c2, a1, t2, Ok_some]
      exact .inl ⟨trivial, v3, r1, r5, r9, r10, rfl, by rw [e3]; rfl, I'⟩
  · rintro R V ⟨rv, r1, r5, r9, r10, r11, r12, I⟩
    unfold law06_HeapsOrders_L3
    obtain ⟨lr, h1, h2⟩ := I.len
    have e0 : lr.length = 0 := by omega
    have t1 : ¬ (0 : Int) < (lr.length : Int) := by omega
    simp only [SX, r11, h2, t1, decide_false, Ok_some]
    exact ⟨by simp, trivial, rv, r5, r9, r10, I⟩
  · rintro ⟨x, R, V⟩ ⟨hx, rv, r5, r9, r10, I⟩
    simp only at hx r5 r9 r10 I
    subst hx
    exact after R V rv r5 r9 r10 I
end Go.Proofs.Ytkpgmabebjmahaa
