/- Contracts of functions, and their laws. -/
import Derived.Test.YtkpgmabebjmahaaSDec
import Derived.Test.YtkpgmabebjmahaaOpnA
import Derived.Test.YtkpgmabebjmahaaHpA
import Derived.Test.YtkpgmabebjmahaaHpB
import Derived.Test.YtkpgmabebjmahaaOpzA
import Derived.KernelRfl
/- The pile of a queue: its blocks, and what its methods do to them. -/
namespace Go.Proofs.Ytkpgmabebjmahaa
open Go Go.Eng Go.Hp
set_option linter.unusedVariables false
set_option linter.unusedSimpArgs false
set_option linter.unusedSectionVars false
set_option maxRecDepth 100000
theorem ldR {b o : Nat} {cs : List Value} {x : Value} {W : AW} (h : rwCells W b = some cs) (hv : cs[o]? = some x) : ldC (.pointer (some ⟨b, o, none⟩)) W = some (x, W) := ldC_ok (rwCells_cellsAt h) hv
theorem rwOf {W : AW} {b : Nat} {cs : List Value} (h : W.get b = some (.cells cs)) : rwCells W b = some cs := by unfold rwCells; rw [h]
/-- one cell is stored -/
theorem stA {W : AW} {b o : Nat} {cs : List Value} {v : Value} (h : W.get b = some (.cells cs)) (ho : o < cs.length) (hv : v.cells = #[v]) (h1 : Eng.one v = true) : stV 1 (.pointer (some ⟨b, o, none⟩)) v W = some (undef, W.put b (.cells (cs.set o v))) := by
  rw [stV_one hv h1, rwOf h, Option.bind_some, if_pos ho]
theorem lenE : ((#[104] : Array TypeId)[0]?).bind Try.prog.underlying = some (.slice 127) := by kernel_rfl
structure En where
  b : Nat
  h : Int
  v : Int
abbrev enP (e : En) : Value := .pointer (some ⟨e.b, 0, none⟩)
abbrev enC (e : En) (i : Nat) : List Value := [.int .i64 e.h, .int .i64 e.v, .int .i64 (i : Int)]
def rowE (n : Nat) (f : Nat → En) : List Value := (List.range n).map fun i => enP (f i)
theorem rowE_len (n : Nat) (f : Nat → En) : (rowE n f).length = n := by simp [rowE]
theorem rowE_get {n : Nat} (f : Nat → En) {i : Nat} (h : i < n) : (rowE n f)[i]? = some (enP (f i)) := by
  unfold rowE
  rw [List.getElem?_map, List.getElem?_range h]; rfl
theorem rowE_succ (n : Nat) (f : Nat → En) : rowE (n + 1) f = rowE n f ++ [enP (f n)] := by
  unfold rowE
  rw [List.range_succ, List.map_append]; rfl
theorem rowE_congr {n : Nat} {f g : Nat → En} (h : ∀ i, i < n → f i = g i) : rowE n f = rowE n g := by
  unfold rowE
  exact List.map_congr_left fun i hi => by rw [h i (List.mem_range.1 hi)]
theorem rowE_set {n : Nat} (f : Nat → En) {i k : Nat} (hi : i < n) (hk : k < n) (j : List Value) : ((rowE n f ++ j).set i (enP (f k))).set k (enP (f i)) = rowE n (swp f i k) ++ j := by
  rw [List.set_append_left _ _ (by rw [rowE_len]; exact hi), List.set_append_left _ _ (by rw [List.length_set, rowE_len]; exact hk)]
  congr 1
  apply List.ext_getElem?
  intro m
  by_cases hm : m < n
  · rw [rowE_get _ hm, List.getElem?_set, List.getElem?_set]
    simp only [List.length_set, rowE_len]
    by_cases h1 : k = m
    · subst h1
      rw [if_pos rfl, if_pos hk, swp_r]
    · rw [if_neg h1]
      by_cases h2 : i = m
      · subst h2
        rw [if_pos rfl, if_pos hi, swp_l]
      · rw [if_neg h2, rowE_get _ hm, swp_ne _ (fun e => h2 e.symm) (fun e => h1 e.symm)]
  · rw [List.getElem?_eq_none (by simp [rowE_len]; omega), List.getElem?_eq_none (by simp [rowE_len]; omega)]
/-- the slice of a pile: nothing yet, or a block that is its own -/
inductive SlAt (W : AW) (n : Nat) (f : Nat → En) : Value → Option Nat → Prop
  | nil : n = 0 → SlAt W n f (.slice none 0 0) none
  | row (bl : Nat) (junk : List Value) : W.get bl = some (.cells (rowE n f ++ junk)) → bl < W.next → (∀ i, i < n → (f i).b ≠ bl) → SlAt W n f (.slice (some ⟨bl, 0, none⟩) n (BIG + 1)) (some bl)
structure Pile (W : AW) (n : Nat) (f : Nat → En) (lv : Value) (bl : Option Nat) : Prop where
  sl : SlAt W n f lv bl
  en : ∀ i, i < n → W.get (f i).b = some (.cells (enC (f i) i)) ∧ (f i).b < W.next
  inj : ∀ i j, i < n → j < n → (f i).b = (f j).b → i = j
theorem Pile.len {W : AW} {n : Nat} {f : Nat → En} {lv : Value} {bl : Option Nat} (h : Pile W n f lv bl) (W' : AW) : oBuiltin Try.prog .len #[104] 3 #[false] [lv] W' = some (.int .i64 (n : Int), W') := by
  cases h.sl with
  | nil h0 => subst h0; exact len_slice lenE _ _ _
  | row bl junk => exact len_slice lenE _ _ _
theorem Pile.get {W : AW} {n : Nat} {f : Nat → En} {lv : Value} {bl : Option Nat} (h : Pile W n f lv bl) {i : Nat} (hi : i < n) : ∃ b, bl = some b ∧ (∀ W' k, ixS 1 lv (.int k (i : Int)) W' = some (.pointer (some ⟨b, i, none⟩), W')) ∧ ldC (.pointer (some ⟨b, i, none⟩)) W = some (enP (f i), W) := by
  cases h.sl with
  | nil h0 => omega
  | row b junk h1 h2 h3 =>
    refine ⟨b, rfl, fun W' k => by rw [ixS_ok hi, Nat.zero_add, Nat.mul_one], ldR (rwOf h1) ?_⟩
    rw [List.getElem?_append_left (by rw [rowE_len]; exact hi), rowE_get f hi]
theorem Pile.cell {W : AW} {n : Nat} {f : Nat → En} {lv : Value} {bl : Option Nat} (h : Pile W n f lv bl) {i : Nat} (hi : i < n) : ldC (.pointer (some ⟨(f i).b, 0, none⟩)) W = some (.int .i64 (f i).h, W) ∧ ldC (.pointer (some ⟨(f i).b, 1, none⟩)) W = some (.int .i64 (f i).v, W) :=
  ⟨ldR (rwOf (h.en i hi).1) rfl, ldR (rwOf (h.en i hi).1) rfl⟩
/-- what a pile's methods may turn -/
def Own (n : Nat) (f : Nat → En) (bl : Option Nat) (b : Nat) : Prop := bl = some b ∨ ∃ i, i < n ∧ (f i).b = b
structure Fr (W W' : AW) (S : Nat → Prop) : Prop where
  next : W'.next = W.next
  get : ∀ b, ¬ S b → W'.get b = W.get b
theorem Fr.refl (W : AW) (S : Nat → Prop) : Fr W W S := ⟨rfl, fun _ _ => rfl⟩
theorem Fr.trans {A B C : AW} {S : Nat → Prop} (h : Fr A B S) (k : Fr B C S) : Fr A C S := ⟨k.next.trans h.next, fun b hb => (k.get b hb).trans (h.get b hb)⟩
theorem Fr.mono {A B : AW} {S T : Nat → Prop} (h : Fr A B S) (hst : ∀ b, S b → T b) : Fr A B T := ⟨h.next, fun b hb => h.get b (fun hs => hb (hst b hs))⟩
/-- the queue's block, with its pile -/
structure QP (W : AW) (q : Nat) (lv less c2 c3 : Value) (n : Nat) (f : Nat → En) (bl : Option Nat) : Prop where
  qc : W.get q = some (.cells [lv, less, c2, c3])
  lt : q < W.next
  pile : Pile W n f lv bl
  bq : bl ≠ some q
  eq : ∀ i, i < n → (f i).b ≠ q
section
variable {W : AW} {q : Nat} {lv less c2 c3 : Value} {n : Nat} {f : Nat → En} {bl : Option Nat}
theorem QP.l0 (h : QP W q lv less c2 c3 n f bl) : ldC (.pointer (some ⟨q, 0, none⟩)) W = some (lv, W) := ldR (rwOf h.qc) rfl
theorem QP.l1 (h : QP W q lv less c2 c3 n f bl) : ldC (.pointer (some ⟨q, 1, none⟩)) W = some (less, W) := ldR (rwOf h.qc) rfl
theorem QP.l2 (h : QP W q lv less c2 c3 n f bl) : ldC (.pointer (some ⟨q, 2, none⟩)) W = some (c2, W) := ldR (rwOf h.qc) rfl
theorem QP.l3 (h : QP W q lv less c2 c3 n f bl) : ldC (.pointer (some ⟨q, 3, none⟩)) W = some (c3, W) := ldR (rwOf h.qc) rfl
theorem pLen_ok (h : QP W q lv less c2 c3 n f bl) : omS (.func (.func 190) #[] #[]) [.pointer (some ⟨q, 0, none⟩)] W = some (.int .i64 (n : Int), W) := by
  refine om_drop rfl ?_ heaps_pileint_Len_om
  unfold heaps_pileint_Len
  simp only [SX, oNilCheck_ptr, Nat.zero_add, h.l0, h.pile.len, Ok_some]
  exact ⟨trivial, .refl _⟩
/-- the order of the entries -/
def bef (ls : Int → Int → Bool) (a b : En) : Bool := ls a.v b.v || (!ls b.v a.v && decide (a.h < b.h))
/-- a function's value that is an order -/
def IsLess (less : Value) (ls : Int → Int → Bool) : Prop := ∀ a b W, omS less [.int .i64 a, .int .i64 b] W = some (.bool (ls a b), W)
theorem pBefore_ok {ls : Int → Int → Bool} (hl : IsLess less ls) (h : QP W q lv less c2 c3 n f bl) {i k : Nat} (hi : i < n) (hk : k < n) : omS (.func (.func 103) #[] #[]) [.pointer (some ⟨q, 0, none⟩), enP (f i), enP (f k)] W = some (.bool (bef ls (f i) (f k)), W) := by
  refine om_drop rfl ?_ heaps_pileint_before_om
  unfold heaps_pileint_before bef
  obtain ⟨a1, a2⟩ := h.pile.cell hi
  obtain ⟨b1, b2⟩ := h.pile.cell hk
  simp only [SX, oNilCheck_ptr, Nat.zero_add, h.l1, a2, b2, hl (f i).v (f k).v]
  cases ls (f i).v (f k).v
  case true =>
    simp only [SX, Ok_some]
    exact ⟨by simp, .refl _⟩
  simp only [SX, oNilCheck_ptr, Nat.zero_add, h.l1, a2, b2, hl (f k).v (f i).v]
  cases ls (f k).v (f i).v
  case true =>
    simp only [SX, Ok_some]
    exact ⟨by simp, .refl _⟩
  simp only [SX, oNilCheck_ptr, Nat.zero_add, a1, b1, Ok_some]
  exact ⟨by simp, .refl _⟩
theorem pLess_ok {ls : Int → Int → Bool} (hl : IsLess less ls) (h : QP W q lv less c2 c3 n f bl) {i k : Nat} (hi : i < n) (hk : k < n) : omS (.func (.func 73) #[] #[]) [.pointer (some ⟨q, 0, none⟩), .int .i64 (i : Int), .int .i64 (k : Int)] W = some (.bool (bef ls (f i) (f k)), W) := by
  refine om_drop rfl ?_ heaps_pileint_Less_om
  unfold heaps_pileint_Less
  obtain ⟨b, -, a1, a2⟩ := h.pile.get hi
  obtain ⟨b', -, b1, b2⟩ := h.pile.get hk
  simp only [SX, oNilCheck_ptr, Nat.zero_add, h.l0, a1, a2, b1, b2, pBefore_ok hl h hi hk, Ok_some]
  exact ⟨trivial, .refl _⟩
theorem pSwap_ok (h : QP W q lv less c2 c3 n f bl) {i k : Nat} (hi : i < n) (hk : k < n) : ∃ W', omS (.func (.func 193) #[] #[]) [.pointer (some ⟨q, 0, none⟩), .int .i64 (i : Int), .int .i64 (k : Int)] W = some (.tuple #[], W') ∧ QP W' q lv less c2 c3 n (swp f i k) bl ∧ Fr W W' (Own n f bl) := by
  have main : Ok (heaps_pileint_Swap omS (.pointer (some ⟨q, 0, none⟩)) (.int .i64 (i : Int)) (.int .i64 (k : Int)) W) fun r => r.1 = .tuple #[] ∧ QP r.2 q lv less c2 c3 n (swp f i k) bl ∧ Fr W r.2 (Own n f bl) := by
    unfold heaps_pileint_Swap
    obtain ⟨hq, hlt, ⟨hsl, hen, hinj⟩, hbq, heq⟩ := h
    cases hsl with
    | nil h0 => omega
    | row b junk h1 h2 h3 =>
      have ix : ∀ {j : Nat} (hj : j < n) (W' : AW) (kk : IntKind), ixS 1 (.slice (some ⟨b, 0, none⟩) n (BIG + 1)) (.int kk (j : Int)) W' = some (.pointer (some ⟨b, j, none⟩), W') := fun hj W' kk => by rw [ixS_ok hj, Nat.zero_add, Nat.mul_one]
      have hbq' : b ≠ q := fun e => hbq (by rw [e])
      have hl0 : ∀ {W' : AW}, W'.get q = W.get q → ldC (.pointer (some ⟨q, 0, none⟩)) W' = some (.slice (some ⟨b, 0, none⟩) n (BIG + 1), W') := fun e => ldR (rwOf (e.trans hq)) rfl
      have g1 : ∀ {j : Nat}, j < n → (rowE n f ++ junk)[j]? = some (enP (f j)) := fun hj => by rw [List.getElem?_append_left (by rw [rowE_len]; exact hj), rowE_get f hj]
      have hlen : ∀ {j : Nat}, j < n → j < (rowE n f ++ junk).length := fun hj => by rw [List.length_append, rowE_len]; omega
      have s1 := stA (W := W) (v := enP (f k)) h1 (hlen hi) rfl rfl
      have hA : (W.put b (.cells ((rowE n f ++ junk).set i (enP (f k))))).get b = some (.cells ((rowE n f ++ junk).set i (enP (f k)))) := AW.get_put _ _ _
      have s2 := stA (v := enP (f i)) hA (by rw [List.length_set]; exact hlen hk) rfl rfl
      rw [rowE_set f hi hk] at s2
      have hB : ∀ X : AW, (X.put b (.cells (rowE n (swp f i k) ++ junk))).get b = some (.cells (rowE n (swp f i k) ++ junk)) := fun X => AW.get_put _ _ _
      simp only [SX, oNilCheck_ptr, Nat.zero_add, hl0 rfl, ix hi, ix hk, ldR (rwOf h1) (g1 hi), ldR (rwOf h1) (g1 hk), s1, s2]
      generalize hW2 : (W.put b (.cells ((rowE n f ++ junk).set i (enP (f k))))).put b (.cells (rowE n (swp f i k) ++ junk)) = W2 at *
      have e2 : ∀ c, c ≠ b → W2.get c = W.get c := fun c hc => by rw [← hW2, AW.get_put_ne _ _ (Ne.symm hc), AW.get_put_ne _ _ (Ne.symm hc)]
      have n2 : W2.next = W.next := by rw [← hW2, AW.put_next, AW.put_next]
      have b2 : W2.get b = some (.cells (rowE n (swp f i k) ++ junk)) := by rw [← hW2]; exact AW.get_put _ _ _
      have g2 : ∀ {j : Nat}, j < n → (rowE n (swp f i k) ++ junk)[j]? = some (enP (swp f i k j)) := fun hj => by rw [List.getElem?_append_left (by rw [rowE_len]; exact hj), rowE_get _ hj]
      have ei := hen i hi
      have ek := hen k hk
      have c1 : W2.get (f k).b = some (.cells (enC (f k) k)) := (e2 _ (h3 k hk)).trans ek.1
      have s3 := stA (v := .int .i64 (i : Int)) (o := 2) c1 (by simp) rfl rfl
      have s3' : ((enC (f k) k).set 2 (.int .i64 (i : Int))) = enC (f k) i := rfl
      rw [s3'] at s3
      simp only [SX, oNilCheck_ptr, Nat.zero_add, hl0 (e2 _ (Ne.symm hbq')), ix hi, ix hk, ldR (rwOf b2) (g2 hi), ldR (rwOf b2) (g2 hk), swp_l, swp_r, s3]
      generalize hW3 : W2.put (f k).b (.cells (enC (f k) i)) = W3 at *
      have c2' : ∃ p, W3.get (f i).b = some (.cells (enC (f i) p)) ∧ (i = k → p = i) := by
        by_cases hik : i = k
        · subst hik
          exact ⟨i, by rw [← hW3]; exact AW.get_put _ _ _, fun _ => rfl⟩
        · refine ⟨i, ?_, fun e => absurd e hik⟩
          rw [← hW3, AW.get_put_ne _ _ (fun e => hik (hinj k i hk hi e).symm), e2 _ (h3 i hi)]
          exact ei.1
      obtain ⟨p, c2', -⟩ := c2'
      have s4 := stA (v := .int .i64 (k : Int)) (o := 2) c2' (by simp) rfl rfl
      have s4' : ((enC (f i) p).set 2 (.int .i64 (k : Int))) = enC (f i) k := rfl
      rw [s4'] at s4
      simp only [SX, oNilCheck_ptr, Nat.zero_add, s4, Ok_some]
      have e4 : ∀ c, c ≠ b → c ≠ (f k).b → c ≠ (f i).b → (W3.put (f i).b (.cells (enC (f i) k))).get c = W.get c := fun c x1 x2 x3 => by rw [AW.get_put_ne _ _ (Ne.symm x3), ← hW3, AW.get_put_ne _ _ (Ne.symm x2), e2 _ x1]
      have n4 : (W3.put (f i).b (.cells (enC (f i) k))).next = W.next := by rw [AW.put_next, ← hW3, AW.put_next, n2]
      have b4 : (W3.put (f i).b (.cells (enC (f i) k))).get b = some (.cells (rowE n (swp f i k) ++ junk)) := by rw [AW.get_put_ne _ _ (h3 i hi), ← hW3, AW.get_put_ne _ _ (h3 k hk)]; exact b2
      have hb : ∀ j, (swp f i k j).b = (f j).b ∨ (j = i ∧ (swp f i k j).b = (f k).b) ∨ (j = k ∧ (swp f i k j).b = (f i).b) := fun j => by
        by_cases x1 : j = i
        · subst x1; rw [swp_l]; exact .inr (.inl ⟨rfl, rfl⟩)
        · by_cases x2 : j = k
          · subst x2; rw [swp_r]; exact .inr (.inr ⟨rfl, rfl⟩)
          · rw [swp_ne _ x1 x2]; exact .inl rfl
      have hcomp : ∀ j, swp f i k j = f (swN i k j) := fun j => by rw [swp_comp]
      refine ⟨trivial, ⟨?_, by rw [n4]; exact hlt, ⟨.row b junk b4 (by rw [n4]; exact h2) (fun j hj => by rw [hcomp]; exact h3 _ (swN_lt hi hk hj)), fun j hj => ?_, fun j m hj hm e => ?_⟩, hbq, fun j hj => by rw [hcomp]; exact heq _ (swN_lt hi hk hj)⟩, n4, fun c hc => ?_⟩
      · rw [e4 q (Ne.symm hbq') (Ne.symm (heq k hk)) (Ne.symm (heq i hi))]; exact hq
      · rw [n4, hcomp]
        refine ⟨?_, (hen _ (swN_lt hi hk hj)).2⟩
        by_cases x1 : j = i
        · subst x1
          have : swN j k j = k := swp_l id j k
          rw [this]
          by_cases x2 : j = k
          · subst x2; exact AW.get_put _ _ _
          · rw [AW.get_put_ne _ _ (fun e => x2 (hinj j k hi hk e)), ← hW3]; exact AW.get_put _ _ _
        · by_cases x2 : j = k
          · subst x2
            have : swN i j j = i := swp_r id i j
            rw [this]
            exact AW.get_put _ _ _
          · have : swN i k j = j := swp_ne id x1 x2
            rw [this, e4 _ (h3 j hj) (fun e => x2 (hinj j k hj hk e)) (fun e => x1 (hinj j i hj hi e))]
            exact (hen j hj).1
      · rw [hcomp, hcomp] at e
        have := hinj _ _ (swN_lt hi hk hj) (swN_lt hi hk hm) e
        have := congrArg (swN i k) this
        rwa [swN_swN, swN_swN] at this
      · exact e4 c (fun e => hc (.inl (by rw [e]))) (fun e => hc (.inr ⟨k, hk, e.symm⟩)) (fun e => hc (.inr ⟨i, hi, e.symm⟩))
  obtain ⟨⟨r, W'⟩, h1, h2, h3⟩ := main
  simp only at h2 h3
  subst h2
  exact ⟨W', by rw [heaps_pileint_Swap_om h1, gc_not rfl], h3⟩
end
end Go.Proofs.Ytkpgmabebjmahaa
/- The pile of a queue: push and pop. -/
namespace Go.Proofs.Ytkpgmabebjmahaa
open Go Go.Eng Go.Hp
set_option linter.unusedVariables false
set_option linter.unusedSimpArgs false
set_option linter.unusedSectionVars false
set_option maxRecDepth 100000
theorem ap104 : appOk Try.prog #[104, 104] 1 8 = true := by kernel_rfl
theorem bs104 (v : Option Addr) (W : AW) : oBuildSlice Try.prog 104 1 [(0, .pointer v)] W = some (.slice (some ⟨W.next, 0, none⟩) 1 1, W.add (.cells [.pointer v])) := Eq.trans (by kernel_rfl) rfl
theorem as127 (v : Value) (W : AW) : oAssert Try.prog (.iface 127 v) 127 false W = some (v, W) := Eq.trans (by kernel_rfl) rfl
theorem ki127 (v : Value) (W : AW) : oMkIface Try.prog 127 v W = some (.iface 127 v, W) := Eq.trans (by kernel_rfl) rfl
theorem ki103 (v : Value) (W : AW) : oMkIface Try.prog 103 v W = some (.iface 103 v, W) := Eq.trans (by kernel_rfl) rfl
/-- one more at the end -/
def snoc (n : Nat) (f : Nat → En) (e : En) : Nat → En := fun i => if i = n then e else f i
theorem snoc_lt {n i : Nat} {f : Nat → En} {e : En} (h : i < n) : snoc n f e i = f i := if_neg (by omega)
theorem snoc_n (n : Nat) (f : Nat → En) (e : En) : snoc n f e n = e := if_pos rfl
theorem all_snoc (n : Nat) (f : Nat → En) (e : En) : all (n + 1) (snoc n f e) = all n f ++ [e] := by
  rw [all_succ, snoc_n]
  congr 1
  unfold all
  exact List.map_congr_left fun i hi => snoc_lt (List.mem_range.1 hi)
theorem rowE_snoc (n : Nat) (f : Nat → En) (e : En) : rowE (n + 1) (snoc n f e) = rowE n f ++ [enP e] := by
  rw [rowE_succ, snoc_n, rowE_congr (g := f) fun i hi => snoc_lt hi]
section
variable {W : AW} {q : Nat} {lv less c2 c3 : Value} {n : Nat} {f : Nat → En} {bl : Option Nat}
theorem pApp {W : AW} {lv : Value} {bl : Option Nat} (h : SlAt W n f lv bl) (hn : n ≤ 10000) {b c : Nat} {x : Value} (hc : cellsAt W b = some [x]) (hx : Eng.one x = true) : ∃ W3, aAppend Try.prog W #[104, 104] lv (.slice (some ⟨b, 0, none⟩) 1 c) = some (.slice (some ⟨W.next, 0, none⟩) (n + 1) (BIG + 1), W3) ∧ W3.next = W.next + 1 ∧ W3.get W.next = some (.cells (rowE n f ++ [x])) ∧ ∀ b, b < W.next → bl ≠ some b → W3.get b = W.get b := by
  cases h with
  | nil h0 =>
    subst h0
    exact ⟨_, app_nil (new := [x]) ap104 hc rfl rfl (by omega) (by simp [hx]) (by omega) (by omega), rfl, AW.get_add _ _, fun d hd _ => AW.get_add_ne _ _ (by omega)⟩
  | row B junk h1 h2 h3 =>
    refine ⟨_, app_on2 (new := [x]) (n := 1) (m := n) ap104 hc rfl rfl (by omega) (by simp [hx]) h1 (by rw [List.length_append, rowE_len]; omega) (by omega) (by omega), rfl, ?_, fun d hd hne => ?_⟩
    · have := AW.get_add (W.kill B) (.cells ((rowE n f ++ junk).take (n * 1) ++ [x]))
      rw [AW.kill_next] at this
      rw [this, Nat.mul_one, List.take_append_of_le_length (by rw [rowE_len]; omega), List.take_of_length_le (by rw [rowE_len]; omega)]
    · rw [AW.get_add_ne _ _ (by rw [AW.kill_next]; omega), AW.get_kill_ne _ (fun e => hne (by rw [e]))]
theorem SlAt.keep {W W' : AW} {lv : Value} {bl : Option Nat} (h : SlAt W n f lv bl) (hn : W.next ≤ W'.next) (hg : ∀ b, bl = some b → W'.get b = W.get b) : SlAt W' n f lv bl := by
  cases h with
  | nil h0 => exact .nil h0
  | row b junk h1 h2 h3 => exact .row b junk ((hg b rfl).trans h1) (by omega) h3
theorem SlAt.lt {W : AW} {lv : Value} {bl : Option Nat} (h : SlAt W n f lv bl) {b : Nat} (hb : bl = some b) : b < W.next := by
  cases h with
  | nil h0 => cases hb
  | row b junk h1 h2 h3 => cases hb; exact h2
theorem SlAt.ne {W : AW} {lv : Value} {bl : Option Nat} (h : SlAt W n f lv bl) {i : Nat} (hi : i < n) : bl ≠ some (f i).b := by
  cases h with
  | nil h0 => omega
  | row b junk h1 h2 h3 => exact fun e => h3 i hi (by injection e with e; exact e.symm)
theorem pPush_ok (h : QP W q lv less c2 c3 n f bl) (hn : n ≤ 10000) {e : En} {p : Value} (he : W.get e.b = some (.cells [.int .i64 e.h, .int .i64 e.v, p])) (hlt : e.b < W.next) (hq : e.b ≠ q) (hbl : bl ≠ some e.b) (hne : ∀ i, i < n → (f i).b ≠ e.b) :
    ∃ W' lv' b', omS (.func (.func 192) #[] #[]) [.pointer (some ⟨q, 0, none⟩), .iface 127 (enP e)] W = some (.tuple #[], W') ∧ QP W' q lv' less c2 c3 (n + 1) (snoc n f e) (some b') ∧ W.next ≤ b' ∧ W.next ≤ W'.next ∧ ∀ b, b < W.next → b ≠ q → b ≠ e.b → bl ≠ some b → W'.get b = W.get b := by
  have main : Ok (heaps_pileint_Push omS (.pointer (some ⟨q, 0, none⟩)) (.iface 127 (enP e)) W) fun r => r.1 = .tuple #[] ∧ ∃ lv' b', QP r.2 q lv' less c2 c3 (n + 1) (snoc n f e) (some b') ∧ W.next ≤ b' ∧ W.next ≤ r.2.next ∧ ∀ b, b < W.next → b ≠ q → b ≠ e.b → bl ≠ some b → r.2.get b = W.get b := by
    unfold heaps_pileint_Push
    have s1 := stA (v := .int .i64 (n : Int)) (o := 2) he (by simp) rfl rfl
    have s1' : ([.int .i64 e.h, .int .i64 e.v, p] : List Value).set 2 (.int .i64 (n : Int)) = enC e n := rfl
    rw [s1'] at s1
    simp only [SX, as127, oNilCheck_ptr, Nat.zero_add, h.l0, h.pile.len, s1]
    obtain ⟨hqc, hql, ⟨hsl, hen, hinj⟩, hbq, heq⟩ := h
    generalize hW1 : W.put e.b (.cells (enC e n)) = W1 at *
    have g1 : ∀ b, b ≠ e.b → W1.get b = W.get b := fun b hb => by rw [← hW1]; exact AW.get_put_ne _ _ (Ne.symm hb)
    have n1 : W1.next = W.next := by rw [← hW1, AW.put_next]
    have ge1 : W1.get e.b = some (.cells (enC e n)) := by rw [← hW1]; exact AW.get_put _ _ _
    have q1 : W1.get q = some (.cells [lv, less, c2, c3]) := (g1 q (Ne.symm hq)).trans hqc
    have g2 : ∀ b, b < W.next → (W1.add (.cells [enP e])).get b = W1.get b := fun b hb => AW.get_add_ne _ _ (by omega)
    have hs2 : SlAt (W1.add (.cells [enP e])) n f lv bl := hsl.keep (by rw [AW.add_next, n1]; omega) fun b hb => by
      rw [g2 b (hsl.lt hb), g1 b (fun x => hbl (by rw [hb, x]))]
    obtain ⟨W3, a1, a2, a3, a4⟩ := pApp (b := W1.next) (c := 1) hs2 hn cellsAt_new (x := enP e) rfl
    rw [AW.add_next, n1] at a2 a3 a4
    simp only [SX, oNilCheck_ptr, Nat.zero_add, ldR (o := 0) (rwOf q1) rfl, bs104, a1]
    rw [AW.add_next, n1]
    have g3 : ∀ b, b < W.next → bl ≠ some b → W3.get b = W1.get b := fun b hb hne => by rw [a4 b (by omega) hne, g2 b hb]
    have q3 := (g3 q hql hbq).trans q1
    have s3 := stA (v := .slice (some ⟨W.next + 1, 0, none⟩) (n + 1) (BIG + 1)) (o := 0) q3 (by simp) rfl rfl
    simp only [SX, oNilCheck_ptr, Nat.zero_add, s3, Ok_some]
    rw [show ([lv, less, c2, c3] : List Value).set 0 (.slice (some ⟨W.next + 1, 0, none⟩) (n + 1) (BIG + 1)) = [.slice (some ⟨W.next + 1, 0, none⟩) (n + 1) (BIG + 1), less, c2, c3] from rfl] at *
    generalize hW4 : W3.put q (.cells [.slice (some ⟨W.next + 1, 0, none⟩) (n + 1) (BIG + 1), less, c2, c3]) = W4 at *
    have g4 : ∀ b, b ≠ q → W4.get b = W3.get b := fun b hb => by rw [← hW4]; exact AW.get_put_ne _ _ (Ne.symm hb)
    have n4 : W4.next = W.next + 1 + 1 := by rw [← hW4, AW.put_next, a2]
    have hall : ∀ i, i < n + 1 → W4.get (snoc n f e i).b = some (.cells (enC (snoc n f e i) i)) ∧ (snoc n f e i).b < W.next ∧ (snoc n f e i).b ≠ q := fun i hi => by
      by_cases hin : i < n
      · rw [snoc_lt hin]
        refine ⟨?_, (hen i hin).2, heq i hin⟩
        rw [g4 _ (heq i hin), g3 _ (hen i hin).2 (hsl.ne hin), g1 _ (hne i hin)]
        exact (hen i hin).1
      · have : i = n := by omega
        subst this
        rw [snoc_n]
        exact ⟨by rw [g4 _ hq, g3 _ hlt hbl]; exact ge1, hlt, hq⟩
    refine ⟨trivial, _, W.next + 1, ⟨by rw [← hW4]; exact AW.get_put _ _ _, by omega, ⟨.row (W.next + 1) [] ?_ (by omega) (fun i hi => by have := (hall i hi).2.1; omega), fun i hi => ⟨(hall i hi).1, by have := (hall i hi).2.1; omega⟩, fun i j hi hj hij => ?_⟩, fun x => by injection x with x; omega, fun i hi => (hall i hi).2.2⟩, by omega, by omega, fun b hb hbq' hbe hbb => by rw [g4 _ hbq', g3 _ hb hbb, g1 _ hbe]⟩
    · rw [g4 _ (by omega), a3, rowE_snoc, List.append_nil]
    · by_cases hin : i < n
      · by_cases hjn : j < n
        · rw [snoc_lt hin, snoc_lt hjn] at hij
          exact hinj i j hin hjn hij
        · have : j = n := by omega
          subst this
          rw [snoc_lt hin, snoc_n] at hij
          exact absurd hij (hne i hin)
      · have : i = n := by omega
        subst this
        by_cases hjn : j < i
        · rw [snoc_lt hjn, snoc_n] at hij
          exact absurd hij.symm (hne j hjn)
        · omega
  obtain ⟨⟨r, W'⟩, h1, h2, lv', b', h3⟩ := main
  simp only at h2 h3
  subst h2
  exact ⟨W', lv', b', by rw [heaps_pileint_Push_om h1, gc_not rfl], h3⟩
theorem sz104 : sliceZ Try.prog 104 = some 1 := by kernel_rfl
theorem sub1 (n : Nat) (hn : n < 4611686018427387904) (W : AW) : oBin Try.prog .sub 3 false true (.int .i64 ((n + 1 : Nat) : Int)) (.int .i64 1) W = some (.int .i64 (n : Int), W) := by
  rw [oBin_sub (by omega) (by omega)]
  congr 3
  omega
theorem pPop_ok (h : QP W q lv less c2 c3 (n + 1) f bl) (hn : n ≤ 10000) :
    ∃ W' lv', omS (.func (.func 191) #[] #[]) [.pointer (some ⟨q, 0, none⟩)] W = some (.iface 127 (enP (f n)), W') ∧ QP W' q lv' less c2 c3 n f bl ∧ W'.next = W.next ∧ (∀ b, b ≠ q → bl ≠ some b → W'.get b = W.get b) := by
  have main : Ok (heaps_pileint_Pop omS (.pointer (some ⟨q, 0, none⟩)) W) fun r => r.1 = .iface 127 (enP (f n)) ∧ ∃ lv', QP r.2 q lv' less c2 c3 n f bl ∧ r.2.next = W.next ∧ (∀ b, b ≠ q → bl ≠ some b → r.2.get b = W.get b) := by
    unfold heaps_pileint_Pop
    simp only [SX, oNilCheck_ptr, Nat.zero_add, h.l0, h.pile.len, sub1 n (by omega)]
    obtain ⟨hqc, hql, ⟨hsl, hen, hinj⟩, hbq, heq⟩ := h
    cases hsl with
    | nil h0 => omega
    | row b junk h1 h2 h3 =>
      have ix : ∀ {j : Nat} (hj : j < n + 1) (W' : AW) (kk : IntKind), ixS 1 (.slice (some ⟨b, 0, none⟩) (n + 1) (BIG + 1)) (.int kk (j : Int)) W' = some (.pointer (some ⟨b, j, none⟩), W') := fun hj W' kk => by rw [ixS_ok hj, Nat.zero_add, Nat.mul_one]
      have hbq' : b ≠ q := fun e => hbq (by rw [e])
      have g0 : (rowE (n + 1) f ++ junk)[n]? = some (enP (f n)) := by rw [List.getElem?_append_left (by rw [rowE_len]; omega), rowE_get f (by omega)]
      have s1 := stA (W := W) (v := .pointer none) h1 (o := n) (by rw [List.length_append, rowE_len]; omega) rfl rfl
      have hrow : (rowE (n + 1) f ++ junk).set n (.pointer none) = rowE n f ++ (.pointer none :: junk) := by
        rw [rowE_succ, List.append_assoc, List.set_append_right _ _ (by rw [rowE_len]; omega), rowE_len, Nat.sub_self]
        rfl
      rw [hrow] at s1
      simp only [SX, oNilCheck_ptr, Nat.zero_add, ldR (o := 0) (rwOf hqc) rfl, ix (Nat.lt_succ_self n), ldR (rwOf h1) g0, s1]
      generalize hW2 : W.put b (.cells (rowE n f ++ (.pointer none :: junk))) = W2 at *
      have e2 : ∀ c, c ≠ b → W2.get c = W.get c := fun c hc => by rw [← hW2, AW.get_put_ne _ _ (Ne.symm hc)]
      have n2 : W2.next = W.next := by rw [← hW2, AW.put_next]
      have b2 : W2.get b = some (.cells (rowE n f ++ (.pointer none :: junk))) := by rw [← hW2]; exact AW.get_put _ _ _
      have q2 := (e2 q (Ne.symm hbq')).trans hqc
      have s3 := stA (v := .slice (some ⟨b, 0, none⟩) n (BIG + 1)) (o := 0) q2 (by simp) rfl rfl
      rw [show ([.slice (some ⟨b, 0, none⟩) (n + 1) (BIG + 1), less, c2, c3] : List Value).set 0 (.slice (some ⟨b, 0, none⟩) n (BIG + 1)) = [.slice (some ⟨b, 0, none⟩) n (BIG + 1), less, c2, c3] from rfl] at s3
      simp only [SX, oNilCheck_ptr, Nat.zero_add, ldR (o := 0) (rwOf q2) rfl, slice_open sz104 (by omega) (show n ≤ n + 1 by omega), s3, ki127, Ok_some]
      generalize hW4 : W2.put q (.cells [.slice (some ⟨b, 0, none⟩) n (BIG + 1), less, c2, c3]) = W4 at *
      have g4 : ∀ c, c ≠ q → W4.get c = W2.get c := fun c hc => by rw [← hW4]; exact AW.get_put_ne _ _ (Ne.symm hc)
      have n4 : W4.next = W.next := by rw [← hW4, AW.put_next, n2]
      refine ⟨trivial, _, ⟨by rw [← hW4]; exact AW.get_put _ _ _, by omega, ⟨.row b (.pointer none :: junk) ((g4 b hbq').trans b2) (by omega) (fun i hi => h3 i (by omega)), fun i hi => ⟨?_, by have := (hen i (by omega)).2; omega⟩, fun i j hi hj => hinj i j (by omega) (by omega)⟩, hbq, fun i hi => heq i (by omega)⟩, n4, fun c hc hcb => ?_⟩
      · rw [g4 _ (heq i (by omega)), e2 _ (h3 i (by omega))]
        exact (hen i (by omega)).1
      · rw [g4 c hc, e2 c (fun e => hcb (by rw [e]))]
  obtain ⟨⟨r, W'⟩, h1, h2, lv', h3⟩ := main
  simp only at h2 h3
  subst h2
  exact ⟨W', lv', by rw [heaps_pileint_Pop_om h1, gc_not rfl], h3⟩
end
end Go.Proofs.Ytkpgmabebjmahaa
/- container/heap over a queue's pile. -/
namespace Go.Proofs.Ytkpgmabebjmahaa
open Go Go.Eng Go.Hp
set_option linter.unusedVariables false
set_option linter.unusedSimpArgs false
set_option linter.unusedSectionVars false
set_option maxRecDepth 100000
theorem iLess (v : Value) (xs : List Value) (W : AW) : oInvoke Try.prog omS (.iface 103 v) "Less" xs W = omS (.func (.func 73) #[] #[]) (v :: xs) W := inv_eq (by kernel_rfl) _ _
theorem iSwap (v : Value) (xs : List Value) (W : AW) : oInvoke Try.prog omS (.iface 103 v) "Swap" xs W = omS (.func (.func 193) #[] #[]) (v :: xs) W := inv_eq (by kernel_rfl) _ _
theorem iLen (v : Value) (xs : List Value) (W : AW) : oInvoke Try.prog omS (.iface 103 v) "Len" xs W = omS (.func (.func 190) #[] #[]) (v :: xs) W := inv_eq (by kernel_rfl) _ _
theorem iPush (v : Value) (xs : List Value) (W : AW) : oInvoke Try.prog omS (.iface 103 v) "Push" xs W = omS (.func (.func 192) #[] #[]) (v :: xs) W := inv_eq (by kernel_rfl) _ _
theorem iPop (v : Value) (xs : List Value) (W : AW) : oInvoke Try.prog omS (.iface 103 v) "Pop" xs W = omS (.func (.func 191) #[] #[]) (v :: xs) W := inv_eq (by kernel_rfl) _ _
theorem td2 (i : Nat) : ((i : Int) - 1).tdiv 2 = (par i : Int) := by
  unfold par
  rcases Nat.eq_zero_or_pos i with rfl | h
  · rfl
  · rw [Int.tdiv_eq_ediv_of_nonneg (by omega)]
    omega
theorem par_le (i : Nat) : par i ≤ i := by unfold par; omega
abbrev hpV (q : Nat) : Value := .iface 103 (.pointer (some ⟨q, 0, none⟩))
theorem Own.perm {n : Nat} {f g : Nat → En} {bl : Option Nat} (h : (all n g).Perm (all n f)) {b : Nat} (ho : Own n g bl b) : Own n f bl b := by
  rcases ho with ho | ⟨i, hi, rfl⟩
  · exact .inl ho
  · obtain ⟨k, hk, e⟩ := all_mem.1 (h.mem_iff.1 (all_mem.2 ⟨i, hi, rfl⟩))
    exact .inr ⟨k, hk, by rw [e]⟩
section
variable {W : AW} {q : Nat} {lv less c2 c3 : Value} {n : Nat} {f : Nat → En} {bl : Option Nat} {ls : Int → Int → Bool}
theorem up_ok (o : Ord (bef ls)) (hl : IsLess less ls) (h : QP W q lv less c2 c3 n f bl) (hn : n ≤ 10001) {j : Nat} (hj : j < n) (hup : Up (bef ls) n f j) :
    ∃ W' g, omS (.func (.func 104) #[] #[]) [hpV q, .int .i64 (j : Int)] W = some (.tuple #[], W') ∧ QP W' q lv less c2 c3 n g bl ∧ Fr W W' (Own n f bl) ∧ Heap (bef ls) n g ∧ (all n g).Perm (all n f) := by
  have main : Ok (containerheap_up omS (hpV q) (.int .i64 (j : Int)) W) fun r => r.1 = .tuple #[] ∧ ∃ g, QP r.2 q lv less c2 c3 n g bl ∧ Fr W r.2 (Own n f bl) ∧ Heap (bef ls) n g ∧ (all n g).Perm (all n f) := by
    unfold containerheap_up
    have key : ∀ (i : Nat) (R : PlanTab.Fr) (W' : AW) (g : Nat → En), i < n → R 0 = hpV q → R 1 = .int .i64 (i : Int) → QP W' q lv less c2 c3 n g bl → Fr W W' (Own n f bl) → Up (bef ls) n g i → (all n g).Perm (all n f) →
        Ok (containerheap_up_L1 omS R W') fun r => (r.1 = .exit 0 ∧ ∃ g', QP r.2.2 q lv less c2 c3 n g' bl ∧ Fr W r.2.2 (Own n f bl) ∧ Heap (bef ls) n g' ∧ (all n g').Perm (all n f)) ∨ (r.1 = .normal ∧ 0 < i ∧ ∃ g', r.2.1 0 = hpV q ∧ r.2.1 1 = .int .i64 (par i : Int) ∧ QP r.2.2 q lv less c2 c3 n g' bl ∧ Fr W r.2.2 (Own n f bl) ∧ Up (bef ls) n g' (par i) ∧ (all n g').Perm (all n f)) := by
      intro i R W' g hi h0 h1 hQ hF hU hP
      unfold containerheap_up_L1
      have e1 := oBin_sub (P := Try.prog) (W := W') (t := 3) (c := false) (d := true) (a := (i : Int)) (b := 1) (by omega) (by omega)
      have e2 : oBin Try.prog .quo 3 false true (.int .i64 ((i : Int) - 1)) (.int .i64 2) W' = some (.int .i64 (par i : Int), W') := by
        rw [oBin_quo (by omega), td2, wrap_i64 (by omega) (by have := par_le i; omega)]
      by_cases hi0 : i = 0
      · subst hi0
        have e3 : ((par 0 : Nat) : Int) = ((0 : Nat) : Int) := rfl
        simp only [SX, h0, h1, e1, e2, e3, Ok_some]
        exact .inl ⟨trivial, g, hQ, hF, hU.done (.inl rfl), hP⟩
      · have hpi := par_lt (k := i) (by omega)
        have e3 : ¬ ((par i : Int) = (i : Int)) := by omega
        simp only [SX, h0, h1, e1, e2, e3, iLess, pLess_ok hl hQ hi (show par i < n by omega)]
        cases hb : bef ls (g i) (g (par i))
        · simp only [SX, Ok_some]
          exact .inl ⟨trivial, g, hQ, hF, hU.done (.inr hb), hP⟩
        · obtain ⟨W2, s1, s2, s3⟩ := pSwap_ok hQ (show par i < n by omega) hi
          simp only [SX, h0, h1, iSwap, s1, Ok_some]
          refine .inr ⟨trivial, by omega, _, h0, rfl, s2, hF.trans (s3.mono fun b hb => Own.perm hP hb), hU.step o (by omega) hi hb, (all_swp g (show par i < n by omega) hi).trans hP⟩
    refine Ok_loop j (by omega) (fun k R W' => ∃ i g, i + k ≤ j ∧ i < n ∧ R 0 = hpV q ∧ R 1 = .int .i64 (i : Int) ∧ QP W' q lv less c2 c3 n g bl ∧ Fr W W' (Own n f bl) ∧ Up (bef ls) n g i ∧ (all n g).Perm (all n f))
      (fun r => r.1 = .exit 0 ∧ ∃ g', QP r.2.2 q lv less c2 c3 n g' bl ∧ Fr W r.2.2 (Own n f bl) ∧ Heap (bef ls) n g' ∧ (all n g').Perm (all n f)) ⟨j, f, by omega, hj, rfl, rfl, h, .refl _ _, hup, .refl _⟩ ?_ ?_ ?_
    · rintro k R W' hk ⟨i, g, h1, h2, h3, h4, h5, h6, h7, h8⟩
      refine (key i R W' g h2 h3 h4 h5 h6 h7 h8).mono fun r hr => ?_
      rcases hr with hr | ⟨r1, r2, g', r3, r4, r5, r6, r7, r8⟩
      · exact .inr ⟨by rw [hr.1]; simp, hr⟩
      · have := par_lt r2
        exact .inl ⟨r1, par i, g', by omega, by omega, r3, r4, r5, r6, r7, r8⟩
    · rintro R W' ⟨i, g, h1, h2, h3, h4, h5, h6, h7, h8⟩
      refine (key i R W' g h2 h3 h4 h5 h6 h7 h8).mono fun r hr => ?_
      rcases hr with hr | ⟨r1, r2, -⟩
      · exact ⟨by rw [hr.1]; simp, hr⟩
      · omega
    · rintro ⟨x, R, W'⟩ ⟨hx, hq⟩
      simp only at hx hq
      subst hx
      simp only [SX, Ok_some]
      exact ⟨trivial, hq⟩
  obtain ⟨⟨r, W'⟩, h1, h2, g, h3⟩ := main
  simp only at h2 h3
  subst h2
  exact ⟨W', g, by rw [containerheap_up_om h1, gc_not rfl], h3⟩
end
end Go.Proofs.Ytkpgmabebjmahaa
/- container/heap over a queue's pile: down, push, pop. -/
namespace Go.Proofs.Ytkpgmabebjmahaa
open Go Go.Eng Go.Hp
set_option linter.unusedVariables false
set_option linter.unusedSimpArgs false
set_option linter.unusedSectionVars false
set_option maxRecDepth 100000
theorem gc_two {W W' : AW} (v : Value) : gc W (v, W') = (v, W') ∨ (gc W (v, W') = (v, W) ∧ Le W W') := by
  unfold gc
  split
  · rename_i h; exact .inr ⟨rfl, h.2⟩
  · exact .inl rfl
section
variable {W : AW} {q : Nat} {lv less c2 c3 : Value} {n : Nat} {f : Nat → En} {bl : Option Nat} {ls : Int → Int → Bool}
theorem QP.back {W W' : AW} (h : QP W' q lv less c2 c3 n f bl) (hn : W'.next = W.next) (hle : Le W W') : QP W q lv less c2 c3 n f bl := by
  obtain ⟨hqc, hql, ⟨hsl, hen, hinj⟩, hbq, heq⟩ := h
  rw [hn] at hql
  refine ⟨by rw [← hle.get q hql]; exact hqc, hql, ⟨hsl.keep (by omega) fun b hb => (hle.get b (by have := hsl.lt hb; omega)).symm, fun i hi => ?_, hinj⟩, hbq, heq⟩
  have := (hen i hi).2
  exact ⟨by rw [← hle.get _ (by omega)]; exact (hen i hi).1, by omega⟩
theorem ord_irr {α : Type} {lt : α → α → Bool} (o : Ord lt) (a : α) : lt a a = false := by
  cases h : lt a a with
  | false => rfl
  | true => have := o.asym _ _ h; rw [h] at this; exact this
/-- beyond n nothing is turned -/
def Same (n : Nat) (f g : Nat → En) : Prop := ∀ i, n ≤ i → g i = f i
theorem Own.low {n N : Nat} {f g : Nat → En} {bl : Option Nat} (h : (all n g).Perm (all n f)) (hs : Same n f g) {b : Nat} (ho : Own N g bl b) (hN : n ≤ N) : Own N f bl b := by
  rcases ho with ho | ⟨i, hi, rfl⟩
  · exact .inl ho
  · by_cases hin : i < n
    · obtain ⟨k, hk, e⟩ := all_mem.1 (h.mem_iff.1 (all_mem.2 ⟨i, hin, rfl⟩))
      exact .inr ⟨k, by omega, by rw [e]⟩
    · exact .inr ⟨i, hi, by rw [hs i (by omega)]⟩
theorem down_ok (o : Ord (bef ls)) (hl : IsLess less ls) {N : Nat} (h : QP W q lv less c2 c3 N f bl) (hN : N ≤ 10001) (hn : n ≤ N) {i0 : Nat} (hi0 : i0 ≤ n) (hd : Dn (bef ls) n f i0) :
    ∃ W' g b, omS (.func (.func 94) #[] #[]) [hpV q, .int .i64 (i0 : Int), .int .i64 (n : Int)] W = some (.bool b, W') ∧ QP W' q lv less c2 c3 N g bl ∧ Fr W W' (Own N f bl) ∧ Heap (bef ls) n g ∧ (all n g).Perm (all n f) ∧ Same n f g := by
  have main : Ok (containerheap_down omS (hpV q) (.int .i64 (i0 : Int)) (.int .i64 (n : Int)) W) fun r => (∃ b, r.1 = .bool b) ∧ ∃ g, QP r.2 q lv less c2 c3 N g bl ∧ Fr W r.2 (Own N f bl) ∧ Heap (bef ls) n g ∧ (all n g).Perm (all n f) ∧ Same n f g := by
    unfold containerheap_down
    have key : ∀ (i : Nat) (R : PlanTab.Fr) (W' : AW) (g : Nat → En), i ≤ n → R 0 = hpV q → R 2 = .int .i64 (n : Int) → R 7 = .int .i64 (i : Int) → QP W' q lv less c2 c3 N g bl → Fr W W' (Own N f bl) → Dn (bef ls) n g i → (all n g).Perm (all n f) → Same n f g →
        Ok (containerheap_down_L1 omS R W') fun r => (r.1 = .exit 0 ∧ r.2.1 1 = R 1 ∧ r.2.1 7 = R 7 ∧ ∃ g', QP r.2.2 q lv less c2 c3 N g' bl ∧ Fr W r.2.2 (Own N f bl) ∧ Heap (bef ls) n g' ∧ (all n g').Perm (all n f) ∧ Same n f g') ∨ (r.1 = .normal ∧ i < n ∧ r.2.1 1 = R 1 ∧ ∃ g' j, i < j ∧ j < n ∧ r.2.1 0 = hpV q ∧ r.2.1 2 = .int .i64 (n : Int) ∧ r.2.1 7 = .int .i64 (j : Int) ∧ QP r.2.2 q lv less c2 c3 N g' bl ∧ Fr W r.2.2 (Own N f bl) ∧ Dn (bef ls) n g' j ∧ (all n g').Perm (all n f) ∧ Same n f g') := by
      intro i R W' g hi h0 h2 h7 hQ hF hD hP hS
      unfold containerheap_down_L1
      have e1 : oBin Try.prog .mul 3 true false (.int .i64 2) (.int .i64 (i : Int)) W' = some (.int .i64 (2 * (i : Int)), W') := oBin_mul (by omega) (by omega)
      have e2 := oBin_add (P := Try.prog) (W := W') (t := 3) (c := false) (d := true) (a := 2 * (i : Int)) (b := 1) (by omega) (by omega)
      have e3 := oBin_add (P := Try.prog) (W := W') (t := 3) (c := false) (d := true) (a := 2 * (i : Int) + 1) (b := 1) (by omega) (by omega)
      have e4 : ¬ (2 * (i : Int) + 1 < 0) := by omega
      by_cases hj : n ≤ 2 * i + 1
      · have e5 : (n : Int) ≤ 2 * (i : Int) + 1 := by omega
        simp only [SX, h0, h2, h7, e1, e2, e5, Ok_some]
        exact .inl ⟨trivial, rfl, h7, g, hQ, hF, hD.done o (fun k hk hkn => by omega), hP, hS⟩
      · have e5 : ¬ ((n : Int) ≤ 2 * (i : Int) + 1) := by omega
        have c1 : ((2 * i + 1 : Nat) : Int) = 2 * (i : Int) + 1 := by omega
        have c2' : ((2 * i + 2 : Nat) : Int) = 2 * (i : Int) + 1 + 1 := by omega
        have fin : ∀ j, (j = 2 * i + 1 ∨ j = 2 * i + 2) → j < n → (∀ k, (k = 2 * i + 1 ∨ k = 2 * i + 2) → k < n → bef ls (g k) (g j) = false) →
            (bef ls (g j) (g i) = false → Heap (bef ls) n g) ∧ (bef ls (g j) (g i) = true → ∃ W2, omS (.func (.func 193) #[] #[]) [.pointer (some ⟨q, 0, none⟩), .int .i64 (i : Int), .int .i64 (j : Int)] W' = some (.tuple #[], W2) ∧ QP W2 q lv less c2 c3 N (swp g i j) bl ∧ Fr W W2 (Own N f bl) ∧ Dn (bef ls) n (swp g i j) j ∧ (all n (swp g i j)).Perm (all n f) ∧ Same n f (swp g i j)) := by
          intro j hj1 hj2 hmin
          refine ⟨fun hb => hD.done o fun k hk hkn => o.neg _ _ _ hb (hmin k hk hkn), fun hb => ?_⟩
          obtain ⟨W2, s1, s2, s3⟩ := pSwap_ok hQ (show i < N by omega) (show j < N by omega)
          refine ⟨W2, s1, s2, hF.trans (s3.mono fun b hb => Own.low hP hS hb hn), hD.step o hj1 hj2 hb hmin, (all_swp g (by omega) hj2).trans hP, fun k hk => ?_⟩
          rw [swp_ne _ (by omega) (by omega)]
          exact hS k hk
        by_cases hj2 : 2 * i + 2 < n
        · have e6 : (2 * (i : Int) + 1 + 1 < (n : Int)) := by omega
          have l1 := pLess_ok hl hQ (show 2 * i + 2 < N by omega) (show 2 * i + 1 < N by omega)
          rw [c1, c2'] at l1
          simp only [SX, h0, h2, h7, e1, e2, e3, e4, e5, e6, iLess, l1]
          cases hb : bef ls (g (2 * i + 2)) (g (2 * i + 1))
          · obtain ⟨f1, f2⟩ := fin (2 * i + 1) (.inl rfl) (by omega) fun k hk hkn => by
              rcases hk with rfl | rfl
              · exact ord_irr o _
              · exact hb
            have l2 := pLess_ok hl hQ (show 2 * i + 1 < N by omega) (show i < N by omega)
            rw [c1] at l2 f2
            simp only [SX, h0, h7, iLess, l2]
            cases hb2 : bef ls (g (2 * i + 1)) (g i)
            · simp only [SX, Ok_some]
              exact .inl ⟨trivial, rfl, h7, g, hQ, hF, f1 hb2, hP, hS⟩
            · obtain ⟨W2, s1, s2, s3, s4, s5, s6⟩ := f2 hb2
              simp only [SX, h0, h7, iSwap, s1, Ok_some]
              exact .inr ⟨trivial, by omega, rfl, _, 2 * i + 1, by omega, by omega, h0, h2, by rw [c1]; rfl, s2, s3, s4, s5, s6⟩
          · obtain ⟨f1, f2⟩ := fin (2 * i + 2) (.inr rfl) (by omega) fun k hk hkn => by
              rcases hk with rfl | rfl
              · exact o.asym _ _ hb
              · exact ord_irr o _
            have l2 := pLess_ok hl hQ (show 2 * i + 2 < N by omega) (show i < N by omega)
            rw [c2'] at l2 f2
            simp only [SX, h0, h7, iLess, l2]
            cases hb2 : bef ls (g (2 * i + 2)) (g i)
            · simp only [SX, Ok_some]
              exact .inl ⟨trivial, rfl, h7, g, hQ, hF, f1 hb2, hP, hS⟩
            · obtain ⟨W2, s1, s2, s3, s4, s5, s6⟩ := f2 hb2
              simp only [SX, h0, h7, iSwap, s1, Ok_some]
              exact .inr ⟨trivial, by omega, rfl, _, 2 * i + 2, by omega, by omega, h0, h2, by rw [c2']; rfl, s2, s3, s4, s5, s6⟩
        · have e6 : ¬ (2 * (i : Int) + 1 + 1 < (n : Int)) := by omega
          obtain ⟨f1, f2⟩ := fin (2 * i + 1) (.inl rfl) (by omega) fun k hk hkn => by
            rcases hk with rfl | rfl
            · exact ord_irr o _
            · omega
          have l2 := pLess_ok hl hQ (show 2 * i + 1 < N by omega) (show i < N by omega)
          rw [c1] at l2 f2
          simp only [SX, h0, h2, h7, e1, e2, e3, e4, e5, e6, iLess, l2]
          cases hb2 : bef ls (g (2 * i + 1)) (g i)
          · simp only [SX, Ok_some]
            exact .inl ⟨trivial, rfl, h7, g, hQ, hF, f1 hb2, hP, hS⟩
          · obtain ⟨W2, s1, s2, s3, s4, s5, s6⟩ := f2 hb2
            simp only [SX, h0, h7, iSwap, s1, Ok_some]
            exact .inr ⟨trivial, by omega, rfl, _, 2 * i + 1, by omega, by omega, h0, h2, by rw [c1]; rfl, s2, s3, s4, s5, s6⟩
    simp only [SX]
    refine Ok_loop n (by omega) (fun k R W' => ∃ i g, k ≤ i ∧ i ≤ n ∧ R 0 = hpV q ∧ R 1 = .int .i64 (i0 : Int) ∧ R 2 = .int .i64 (n : Int) ∧ R 7 = .int .i64 (i : Int) ∧ QP W' q lv less c2 c3 N g bl ∧ Fr W W' (Own N f bl) ∧ Dn (bef ls) n g i ∧ (all n g).Perm (all n f) ∧ Same n f g)
      (fun r => r.1 = .exit 0 ∧ (∃ i : Nat, r.2.1 7 = .int .i64 (i : Int)) ∧ r.2.1 1 = .int .i64 (i0 : Int) ∧ ∃ g', QP r.2.2 q lv less c2 c3 N g' bl ∧ Fr W r.2.2 (Own N f bl) ∧ Heap (bef ls) n g' ∧ (all n g').Perm (all n f) ∧ Same n f g') ⟨i0, f, by omega, hi0, rfl, rfl, rfl, rfl, h, .refl _ _, hd, .refl _, fun _ _ => rfl⟩ ?_ ?_ ?_
    · rintro k R W' hk ⟨i, g, h1, h2, h3, h3', h4, h5, h6, h7, h8, h9, h10⟩
      refine (key i R W' g h2 h3 h4 h5 h6 h7 h8 h9 h10).mono fun r hr => ?_
      rcases hr with ⟨r1, r2, r3, r4⟩ | ⟨r1, r2, r3, g', j, j1, j2, r5, r6, r7, r8⟩
      · exact .inr ⟨by rw [r1]; simp, r1, ⟨i, by rw [r3, h5]⟩, by rw [r2, h3'], r4⟩
      · exact .inl ⟨r1, j, g', by omega, by omega, r5, by rw [r3, h3'], r6, r7, r8⟩
    · rintro R W' ⟨i, g, h1, h2, h3, h3', h4, h5, h6, h7, h8, h9, h10⟩
      refine (key i R W' g h2 h3 h4 h5 h6 h7 h8 h9 h10).mono fun r hr => ?_
      rcases hr with ⟨r1, r2, r3, r4⟩ | ⟨r1, r2, -⟩
      · exact ⟨by rw [r1]; simp, r1, ⟨i, by rw [r3, h5]⟩, by rw [r2, h3'], r4⟩
      · omega
    · rintro ⟨x, R, W'⟩ ⟨hx, ⟨i, h7⟩, h1, hq⟩
      simp only at hx h7 h1 hq
      subst hx
      simp only [SX, h7, h1, Ok_some]
      exact ⟨⟨_, rfl⟩, hq⟩
  obtain ⟨⟨r, W'⟩, h1, ⟨b, h2⟩, g, h3⟩ := main
  simp only at h2 h3
  subst h2
  rcases gc_two (W := W) (W' := W') (.bool b) with hg | ⟨hg, hle⟩
  · exact ⟨W', g, b, by rw [containerheap_down_om h1, hg], h3⟩
  · exact ⟨W, g, b, by rw [containerheap_down_om h1, hg], h3.1.back h3.2.1.next hle, .refl _ _, h3.2.2⟩
end
end Go.Proofs.Ytkpgmabebjmahaa
/- container/heap over a queue's pile: push, pop. -/
namespace Go.Proofs.Ytkpgmabebjmahaa
open Go Go.Eng Go.Hp
set_option linter.unusedVariables false
set_option linter.unusedSimpArgs false
set_option linter.unusedSectionVars false
set_option maxRecDepth 100000
section
variable {W : AW} {q : Nat} {lv less c2 c3 : Value} {n : Nat} {f : Nat → En} {bl : Option Nat} {ls : Int → Int → Bool}
theorem heap_up {lt : En → En → Bool} {e : En} (h : Heap lt n f) : Up lt (n + 1) (snoc n f e) n := by
  refine ⟨fun k h0 h1 h2 => ?_, fun k h0 h1 h2 h3 => ?_⟩
  · have := par_lt h0
    rw [snoc_lt (by omega), snoc_lt (by omega)]
    exact h k h0 (by omega)
  · have := par_lt h0
    omega
theorem hPush_ok (o : Ord (bef ls)) (hl : IsLess less ls) (h : QP W q lv less c2 c3 n f bl) (hh : Heap (bef ls) n f) (hn : n ≤ 10000) {e : En} {p : Value} (he : W.get e.b = some (.cells [.int .i64 e.h, .int .i64 e.v, p])) (hlt : e.b < W.next) (hq : e.b ≠ q) (hbl : bl ≠ some e.b) (hne : ∀ i, i < n → (f i).b ≠ e.b) :
    ∃ W' lv' b' g, omS (.func (.func 70) #[] #[]) [hpV q, .iface 127 (enP e)] W = some (.tuple #[], W') ∧ QP W' q lv' less c2 c3 (n + 1) g (some b') ∧ Heap (bef ls) (n + 1) g ∧ (all (n + 1) g).Perm (e :: all n f) ∧ W.next ≤ b' ∧ W.next ≤ W'.next ∧ ∀ b, b < W.next → b ≠ q → b ≠ e.b → ¬ Own n f bl b → W'.get b = W.get b := by
  obtain ⟨W1, lv', b', p1, p2, p3, p4, p5⟩ := pPush_ok h hn he hlt hq hbl hne
  obtain ⟨W2, g, u1, u2, u3, u4, u5⟩ := up_ok o hl p2 (by omega) (Nat.lt_succ_self n) (heap_up hh)
  have main : Ok (containerheap_Push omS (hpV q) (.iface 127 (enP e)) W) fun r => r.1 = .tuple #[] ∧ r.2 = W2 := by
    unfold containerheap_Push
    simp only [SX, iPush, p1, iLen, pLen_ok p2, sub1 n (by omega), u1, Ok_some]
    exact ⟨trivial, trivial⟩
  obtain ⟨⟨r, W'⟩, h1, h2, h3⟩ := main
  simp only at h2 h3
  subst h2; subst h3
  refine ⟨_, lv', b', g, by rw [containerheap_Push_om h1, gc_not rfl], u2, u4, u5.trans (by rw [all_snoc]; exact List.perm_append_singleton _ _), p3, by rw [u3.next]; exact p4, fun b hb hbq hbe ho => ?_⟩
  rw [u3.get b fun ho2 => ?_, p5 b hb hbq hbe fun hx => ho (.inl hx)]
  rcases ho2 with ho2 | ⟨i, hi, ho2⟩
  · injection ho2 with ho2; omega
  · by_cases hin : i < n
    · rw [snoc_lt hin] at ho2
      exact ho (.inr ⟨i, hin, ho2⟩)
    · have : i = n := by omega
      subst this
      rw [snoc_n] at ho2
      exact hbe ho2.symm
theorem heap_dn {lt : En → En → Bool} (h : Heap lt (n + 1) f) : Dn lt n (swp f 0 n) 0 := by
  refine ⟨fun k h0 h1 h2 => ?_, fun k h0 h1 h2 h3 => by omega⟩
  have := par_lt h0
  rw [swp_ne _ (by omega) (by omega), swp_ne _ h2 (by omega)]
  exact h k h0 (by omega)
theorem hPop_ok (o : Ord (bef ls)) (hl : IsLess less ls) (h : QP W q lv less c2 c3 (n + 1) f bl) (hh : Heap (bef ls) (n + 1) f) (hn : n ≤ 10000) :
    ∃ W' lv' g, omS (.func (.func 53) #[] #[]) [hpV q] W = some (.iface 127 (enP (f 0)), W') ∧ QP W' q lv' less c2 c3 n g bl ∧ Heap (bef ls) n g ∧ (f 0 :: all n g).Perm (all (n + 1) f) ∧ W'.next = W.next ∧ ∀ b, b ≠ q → ¬ Own (n + 1) f bl b → W'.get b = W.get b := by
  obtain ⟨W1, s1, s2, s3⟩ := pSwap_ok h (show 0 < n + 1 by omega) (show n < n + 1 by omega)
  obtain ⟨W2, g, b, d1, d2, d3, d4, d5, d6⟩ := down_ok o hl s2 (by omega) (show n ≤ n + 1 by omega) (Nat.zero_le n) (heap_dn hh)
  have hg : g n = f 0 := by rw [d6 n (Nat.le_refl n), swp_r]
  obtain ⟨W3, lv', p1, p2, p3, p4⟩ := pPop_ok d2 hn
  rw [hg] at p1
  have main : Ok (containerheap_Pop omS (hpV q) W) fun r => r.1 = .iface 127 (enP (f 0)) ∧ r.2 = W3 := by
    unfold containerheap_Pop
    have e0 : (Value.int .i64 (0 : Int)) = .int .i64 ((0 : Nat) : Int) := rfl
    simp only [SX, iLen, pLen_ok h, sub1 n (by omega), iSwap, e0, s1, d1, iPop, p1, Ok_some]
    exact ⟨trivial, trivial⟩
  obtain ⟨⟨r, W'⟩, h1, h2, h3⟩ := main
  simp only at h2 h3
  subst h2; subst h3
  have hp1 : (all (n + 1) (swp f 0 n)).Perm (all (n + 1) f) := all_swp f (by omega) (by omega)
  refine ⟨_, lv', g, by rw [containerheap_Pop_om h1, gc_not rfl], p2, d4, ?_, by rw [p3, d3.next, s3.next], fun b hb ho => ?_⟩
  · refine .trans ?_ hp1
    rw [all_succ, swp_r]
    exact (List.perm_append_singleton _ _).symm.trans (d5.append (.refl _))
  · rw [p4 b hb fun hx => ho (.inl hx), d3.get b fun ho2 => ho (Own.perm hp1 ho2), s3.get b ho]
end
end Go.Proofs.Ytkpgmabebjmahaa
/- container/heap over a queue's pile: up and down of one that may go either way. -/
namespace Go.Proofs.Ytkpgmabebjmahaa
open Go Go.Eng Go.Hp
set_option linter.unusedVariables false
set_option linter.unusedSimpArgs false
set_option linter.unusedSectionVars false
set_option maxRecDepth 100000
section
variable {W : AW} {q : Nat} {lv less c2 c3 : Value} {n : Nat} {f : Nat → En} {bl : Option Nat} {ls : Int → Int → Bool}
theorem down2_ok (o : Ord (bef ls)) (hl : IsLess less ls) {N : Nat} (h : QP W q lv less c2 c3 N f bl) (hN : N ≤ 10001) (hn : n ≤ N) {i0 : Nat} (hi0 : i0 ≤ n) (hd : Odd (bef ls) n f i0) :
    ∃ W' g b, omS (.func (.func 94) #[] #[]) [hpV q, .int .i64 (i0 : Int), .int .i64 (n : Int)] W = some (.bool b, W') ∧ QP W' q lv less c2 c3 N g bl ∧ Fr W W' (Own N f bl) ∧ ((b = true ∧ Heap (bef ls) n g) ∨ (b = false ∧ g = f ∧ Up (bef ls) n f i0)) ∧ (all n g).Perm (all n f) ∧ Same n f g := by
  have main : Ok (containerheap_down omS (hpV q) (.int .i64 (i0 : Int)) (.int .i64 (n : Int)) W) fun r => ∃ b, r.1 = .bool b ∧ ∃ g, QP r.2 q lv less c2 c3 N g bl ∧ Fr W r.2 (Own N f bl) ∧ ((b = true ∧ Heap (bef ls) n g) ∨ (b = false ∧ g = f ∧ Up (bef ls) n f i0)) ∧ (all n g).Perm (all n f) ∧ Same n f g := by
    unfold containerheap_down
    have key : ∀ (i : Nat) (R : PlanTab.Fr) (W' : AW) (g : Nat → En), i ≤ n → R 0 = hpV q → R 2 = .int .i64 (n : Int) → R 7 = .int .i64 (i : Int) → QP W' q lv less c2 c3 N g bl → Fr W W' (Own N f bl) → St (bef ls) i0 n f g i → (all n g).Perm (all n f) → Same n f g →
        Ok (containerheap_down_L1 omS R W') fun r => (r.1 = .exit 0 ∧ r.2.1 1 = R 1 ∧ r.2.1 7 = R 7 ∧ ∃ g', QP r.2.2 q lv less c2 c3 N g' bl ∧ Fr W r.2.2 (Own N f bl) ∧ Fin (bef ls) i0 n f g' i ∧ (all n g').Perm (all n f) ∧ Same n f g') ∨ (r.1 = .normal ∧ i < n ∧ r.2.1 1 = R 1 ∧ ∃ g' j, i < j ∧ j < n ∧ r.2.1 0 = hpV q ∧ r.2.1 2 = .int .i64 (n : Int) ∧ r.2.1 7 = .int .i64 (j : Int) ∧ QP r.2.2 q lv less c2 c3 N g' bl ∧ Fr W r.2.2 (Own N f bl) ∧ St (bef ls) i0 n f g' j ∧ (all n g').Perm (all n f) ∧ Same n f g') := by
      intro i R W' g hi h0 h2 h7 hQ hF hD hP hS
      unfold containerheap_down_L1
      have e1 : oBin Try.prog .mul 3 true false (.int .i64 2) (.int .i64 (i : Int)) W' = some (.int .i64 (2 * (i : Int)), W') := oBin_mul (by omega) (by omega)
      have e2 := oBin_add (P := Try.prog) (W := W') (t := 3) (c := false) (d := true) (a := 2 * (i : Int)) (b := 1) (by omega) (by omega)
      have e3 := oBin_add (P := Try.prog) (W := W') (t := 3) (c := false) (d := true) (a := 2 * (i : Int) + 1) (b := 1) (by omega) (by omega)
      have e4 : ¬ (2 * (i : Int) + 1 < 0) := by omega
      by_cases hj : n ≤ 2 * i + 1
      · have e5 : (n : Int) ≤ 2 * (i : Int) + 1 := by omega
        simp only [SX, h0, h2, h7, e1, e2, e5, Ok_some]
        exact .inl ⟨trivial, rfl, h7, g, hQ, hF, hD.done o (fun k hk hkn => by omega), hP, hS⟩
      · have e5 : ¬ ((n : Int) ≤ 2 * (i : Int) + 1) := by omega
        have c1 : ((2 * i + 1 : Nat) : Int) = 2 * (i : Int) + 1 := by omega
        have c2' : ((2 * i + 2 : Nat) : Int) = 2 * (i : Int) + 1 + 1 := by omega
        have fin : ∀ j, (j = 2 * i + 1 ∨ j = 2 * i + 2) → j < n → (∀ k, (k = 2 * i + 1 ∨ k = 2 * i + 2) → k < n → bef ls (g k) (g j) = false) →
            (bef ls (g j) (g i) = false → Fin (bef ls) i0 n f g i) ∧ (bef ls (g j) (g i) = true → ∃ W2, omS (.func (.func 193) #[] #[]) [.pointer (some ⟨q, 0, none⟩), .int .i64 (i : Int), .int .i64 (j : Int)] W' = some (.tuple #[], W2) ∧ QP W2 q lv less c2 c3 N (swp g i j) bl ∧ Fr W W2 (Own N f bl) ∧ St (bef ls) i0 n f (swp g i j) j ∧ (all n (swp g i j)).Perm (all n f) ∧ Same n f (swp g i j)) := by
          intro j hj1 hj2 hmin
          refine ⟨fun hb => hD.done o fun k hk hkn => o.neg _ _ _ hb (hmin k hk hkn), fun hb => ?_⟩
          obtain ⟨W2, s1, s2, s3⟩ := pSwap_ok hQ (show i < N by omega) (show j < N by omega)
          refine ⟨W2, s1, s2, hF.trans (s3.mono fun b hb => Own.low hP hS hb hn), hD.step o hj1 hj2 hb hmin, (all_swp g (by omega) hj2).trans hP, fun k hk => ?_⟩
          rw [swp_ne _ (by omega) (by omega)]
          exact hS k hk
        by_cases hj2 : 2 * i + 2 < n
        · have e6 : (2 * (i : Int) + 1 + 1 < (n : Int)) := by omega
          have l1 := pLess_ok hl hQ (show 2 * i + 2 < N by omega) (show 2 * i + 1 < N by omega)
          rw [c1, c2'] at l1
          simp only [SX, h0, h2, h7, e1, e2, e3, e4, e5, e6, iLess, l1]
          cases hb : bef ls (g (2 * i + 2)) (g (2 * i + 1))
          · obtain ⟨f1, f2⟩ := fin (2 * i + 1) (.inl rfl) (by omega) fun k hk hkn => by
              rcases hk with rfl | rfl
              · exact ord_irr o _
              · exact hb
            have l2 := pLess_ok hl hQ (show 2 * i + 1 < N by omega) (show i < N by omega)
            rw [c1] at l2 f2
            simp only [SX, h0, h7, iLess, l2]
            cases hb2 : bef ls (g (2 * i + 1)) (g i)
            · simp only [SX, Ok_some]
              exact .inl ⟨trivial, rfl, h7, g, hQ, hF, f1 hb2, hP, hS⟩
            · obtain ⟨W2, s1, s2, s3, s4, s5, s6⟩ := f2 hb2
              simp only [SX, h0, h7, iSwap, s1, Ok_some]
              exact .inr ⟨trivial, by omega, rfl, _, 2 * i + 1, by omega, by omega, h0, h2, by rw [c1]; rfl, s2, s3, s4, s5, s6⟩
          · obtain ⟨f1, f2⟩ := fin (2 * i + 2) (.inr rfl) (by omega) fun k hk hkn => by
              rcases hk with rfl | rfl
              · exact o.asym _ _ hb
              · exact ord_irr o _
            have l2 := pLess_ok hl hQ (show 2 * i + 2 < N by omega) (show i < N by omega)
            rw [c2'] at l2 f2
            simp only [SX, h0, h7, iLess, l2]
            cases hb2 : bef ls (g (2 * i + 2)) (g i)
            · simp only [SX, Ok_some]
              exact .inl ⟨trivial, rfl, h7, g, hQ, hF, f1 hb2, hP, hS⟩
            · obtain ⟨W2, s1, s2, s3, s4, s5, s6⟩ := f2 hb2
              simp only [SX, h0, h7, iSwap, s1, Ok_some]
              exact .inr ⟨trivial, by omega, rfl, _, 2 * i + 2, by omega, by omega, h0, h2, by rw [c2']; rfl, s2, s3, s4, s5, s6⟩
        · have e6 : ¬ (2 * (i : Int) + 1 + 1 < (n : Int)) := by omega
          obtain ⟨f1, f2⟩ := fin (2 * i + 1) (.inl rfl) (by omega) fun k hk hkn => by
            rcases hk with rfl | rfl
            · exact ord_irr o _
            · omega
          have l2 := pLess_ok hl hQ (show 2 * i + 1 < N by omega) (show i < N by omega)
          rw [c1] at l2 f2
          simp only [SX, h0, h2, h7, e1, e2, e3, e4, e5, e6, iLess, l2]
          cases hb2 : bef ls (g (2 * i + 1)) (g i)
          · simp only [SX, Ok_some]
            exact .inl ⟨trivial, rfl, h7, g, hQ, hF, f1 hb2, hP, hS⟩
          · obtain ⟨W2, s1, s2, s3, s4, s5, s6⟩ := f2 hb2
            simp only [SX, h0, h7, iSwap, s1, Ok_some]
            exact .inr ⟨trivial, by omega, rfl, _, 2 * i + 1, by omega, by omega, h0, h2, by rw [c1]; rfl, s2, s3, s4, s5, s6⟩
    simp only [SX]
    refine Ok_loop n (by omega) (fun k R W' => ∃ i g, k ≤ i ∧ i ≤ n ∧ R 0 = hpV q ∧ R 1 = .int .i64 (i0 : Int) ∧ R 2 = .int .i64 (n : Int) ∧ R 7 = .int .i64 (i : Int) ∧ QP W' q lv less c2 c3 N g bl ∧ Fr W W' (Own N f bl) ∧ St (bef ls) i0 n f g i ∧ (all n g).Perm (all n f) ∧ Same n f g)
      (fun r => r.1 = .exit 0 ∧ ∃ i : Nat, r.2.1 7 = .int .i64 (i : Int) ∧ r.2.1 1 = .int .i64 (i0 : Int) ∧ ∃ g', QP r.2.2 q lv less c2 c3 N g' bl ∧ Fr W r.2.2 (Own N f bl) ∧ Fin (bef ls) i0 n f g' i ∧ (all n g').Perm (all n f) ∧ Same n f g') ⟨i0, f, by omega, hi0, rfl, rfl, rfl, rfl, h, .refl _ _, .inl ⟨rfl, rfl, hd⟩, .refl _, fun _ _ => rfl⟩ ?_ ?_ ?_
    · rintro k R W' hk ⟨i, g, h1, h2, h3, h3', h4, h5, h6, h7, h8, h9, h10⟩
      refine (key i R W' g h2 h3 h4 h5 h6 h7 h8 h9 h10).mono fun r hr => ?_
      rcases hr with ⟨r1, r2, r3, r4⟩ | ⟨r1, r2, r3, g', j, j1, j2, r5, r6, r7, r8⟩
      · exact .inr ⟨by rw [r1]; simp, r1, i, by rw [r3, h5], by rw [r2, h3'], r4⟩
      · exact .inl ⟨r1, j, g', by omega, by omega, r5, by rw [r3, h3'], r6, r7, r8⟩
    · rintro R W' ⟨i, g, h1, h2, h3, h3', h4, h5, h6, h7, h8, h9, h10⟩
      refine (key i R W' g h2 h3 h4 h5 h6 h7 h8 h9 h10).mono fun r hr => ?_
      rcases hr with ⟨r1, r2, r3, r4⟩ | ⟨r1, r2, -⟩
      · exact ⟨by rw [r1]; simp, r1, i, by rw [r3, h5], by rw [r2, h3'], r4⟩
      · omega
    · rintro ⟨x, R, W'⟩ ⟨hx, i, h7, h1, g', q1, q2, q3, q4⟩
      simp only at hx h7 h1 q1 q2 q3 q4
      subst hx
      simp only [SX, h7, h1, Ok_some]
      refine ⟨_, rfl, g', q1, q2, ?_, q4⟩
      rcases q3 with ⟨rfl, rfl, q3⟩ | ⟨q3, q5⟩
      · exact .inr ⟨by simp, rfl, q3⟩
      · exact .inl ⟨by simp; omega, q5⟩
  obtain ⟨⟨r, W'⟩, h1, b, h2, g, h3⟩ := main
  simp only at h2 h3
  subst h2
  rcases gc_two (W := W) (W' := W') (.bool b) with hg | ⟨hg, hle⟩
  · exact ⟨W', g, b, by rw [containerheap_down_om h1, hg], h3⟩
  · exact ⟨W, g, b, by rw [containerheap_down_om h1, hg], h3.1.back h3.2.1.next hle, .refl _ _, h3.2.2⟩
theorem up2_ok (o : Ord (bef ls)) (hl : IsLess less ls) {N : Nat} (h : QP W q lv less c2 c3 N f bl) (hN : N ≤ 10001) (hn : n ≤ N) {j : Nat} (hj : j < n) (hup : Up (bef ls) n f j) :
    ∃ W' g, omS (.func (.func 104) #[] #[]) [hpV q, .int .i64 (j : Int)] W = some (.tuple #[], W') ∧ QP W' q lv less c2 c3 N g bl ∧ Fr W W' (Own N f bl) ∧ Heap (bef ls) n g ∧ (all n g).Perm (all n f) ∧ Same n f g := by
  have main : Ok (containerheap_up omS (hpV q) (.int .i64 (j : Int)) W) fun r => r.1 = .tuple #[] ∧ ∃ g, QP r.2 q lv less c2 c3 N g bl ∧ Fr W r.2 (Own N f bl) ∧ Heap (bef ls) n g ∧ (all n g).Perm (all n f) ∧ Same n f g := by
    unfold containerheap_up
    have key : ∀ (i : Nat) (R : PlanTab.Fr) (W' : AW) (g : Nat → En), i < n → R 0 = hpV q → R 1 = .int .i64 (i : Int) → QP W' q lv less c2 c3 N g bl → Fr W W' (Own N f bl) → Up (bef ls) n g i → (all n g).Perm (all n f) → Same n f g →
        Ok (containerheap_up_L1 omS R W') fun r => (r.1 = .exit 0 ∧ ∃ g', QP r.2.2 q lv less c2 c3 N g' bl ∧ Fr W r.2.2 (Own N f bl) ∧ Heap (bef ls) n g' ∧ (all n g').Perm (all n f) ∧ Same n f g') ∨ (r.1 = .normal ∧ 0 < i ∧ ∃ g', r.2.1 0 = hpV q ∧ r.2.1 1 = .int .i64 (par i : Int) ∧ QP r.2.2 q lv less c2 c3 N g' bl ∧ Fr W r.2.2 (Own N f bl) ∧ Up (bef ls) n g' (par i) ∧ (all n g').Perm (all n f) ∧ Same n f g') := by
      intro i R W' g hi h0 h1 hQ hF hU hP hS
      unfold containerheap_up_L1
      have e1 := oBin_sub (P := Try.prog) (W := W') (t := 3) (c := false) (d := true) (a := (i : Int)) (b := 1) (by omega) (by omega)
      have e2 : oBin Try.prog .quo 3 false true (.int .i64 ((i : Int) - 1)) (.int .i64 2) W' = some (.int .i64 (par i : Int), W') := by
        rw [oBin_quo (by omega), td2, wrap_i64 (by omega) (by have := par_le i; omega)]
      by_cases hi0 : i = 0
      · subst hi0
        have e3 : ((par 0 : Nat) : Int) = ((0 : Nat) : Int) := rfl
        simp only [SX, h0, h1, e1, e2, e3, Ok_some]
        exact .inl ⟨trivial, g, hQ, hF, hU.done (.inl rfl), hP, hS⟩
      · have hpi := par_lt (k := i) (by omega)
        have e3 : ¬ ((par i : Int) = (i : Int)) := by omega
        simp only [SX, h0, h1, e1, e2, e3, iLess, pLess_ok hl hQ (Nat.lt_of_lt_of_le hi hn) (show par i < N by omega)]
        cases hb : bef ls (g i) (g (par i))
        · simp only [SX, Ok_some]
          exact .inl ⟨trivial, g, hQ, hF, hU.done (.inr hb), hP, hS⟩
        · obtain ⟨W2, s1, s2, s3⟩ := pSwap_ok hQ (show par i < N by omega) (Nat.lt_of_lt_of_le hi hn)
          simp only [SX, h0, h1, iSwap, s1, Ok_some]
          refine .inr ⟨trivial, by omega, _, h0, rfl, s2, hF.trans (s3.mono fun b hb => Own.low hP hS hb hn), hU.step o (by omega) hi hb, (all_swp g (show par i < n by omega) hi).trans hP, fun k hk => by rw [swp_ne _ (by omega) (by omega)]; exact hS k hk⟩
    refine Ok_loop j (by omega) (fun k R W' => ∃ i g, i + k ≤ j ∧ i < n ∧ R 0 = hpV q ∧ R 1 = .int .i64 (i : Int) ∧ QP W' q lv less c2 c3 N g bl ∧ Fr W W' (Own N f bl) ∧ Up (bef ls) n g i ∧ (all n g).Perm (all n f) ∧ Same n f g)
      (fun r => r.1 = .exit 0 ∧ ∃ g', QP r.2.2 q lv less c2 c3 N g' bl ∧ Fr W r.2.2 (Own N f bl) ∧ Heap (bef ls) n g' ∧ (all n g').Perm (all n f) ∧ Same n f g') ⟨j, f, by omega, hj, rfl, rfl, h, .refl _ _, hup, .refl _, fun _ _ => rfl⟩ ?_ ?_ ?_
    · rintro k R W' hk ⟨i, g, h1, h2, h3, h4, h5, h6, h7, h8, h9⟩
      refine (key i R W' g h2 h3 h4 h5 h6 h7 h8 h9).mono fun r hr => ?_
      rcases hr with hr | ⟨r1, r2, g', r3, r4, r5, r6, r7, r8⟩
      · exact .inr ⟨by rw [hr.1]; simp, hr⟩
      · have := par_lt r2
        exact .inl ⟨r1, par i, g', by omega, by omega, r3, r4, r5, r6, r7, r8⟩
    · rintro R W' ⟨i, g, h1, h2, h3, h4, h5, h6, h7, h8, h9⟩
      refine (key i R W' g h2 h3 h4 h5 h6 h7 h8 h9).mono fun r hr => ?_
      rcases hr with hr | ⟨r1, r2, -⟩
      · exact ⟨by rw [hr.1]; simp, hr⟩
      · omega
    · rintro ⟨x, R, W'⟩ ⟨hx, hq⟩
      simp only at hx hq
      subst hx
      simp only [SX, Ok_some]
      exact ⟨trivial, hq⟩
  obtain ⟨⟨r, W'⟩, h1, h2, g, h3⟩ := main
  simp only at h2 h3
  subst h2
  exact ⟨W', g, by rw [containerheap_up_om h1, gc_not rfl], h3⟩
end
end Go.Proofs.Ytkpgmabebjmahaa
/- container/heap over a queue's pile: Fix and Remove. -/
namespace Go.Proofs.Ytkpgmabebjmahaa
open Go Go.Eng Go.Hp
set_option linter.unusedVariables false
set_option linter.unusedSimpArgs false
set_option linter.unusedSectionVars false
set_option maxRecDepth 100000
section
variable {W : AW} {q : Nat} {lv less c2 c3 : Value} {n : Nat} {f : Nat → En} {bl : Option Nat} {ls : Int → Int → Bool}
theorem hFix_ok (o : Ord (bef ls)) (hl : IsLess less ls) (h : QP W q lv less c2 c3 n f bl) (hn : n ≤ 10001) {i : Nat} (hi : i < n) (ho : Odd (bef ls) n f i) :
    ∃ W' g, omS (.func (.func 71) #[] #[]) [hpV q, .int .i64 (i : Int)] W = some (.tuple #[], W') ∧ QP W' q lv less c2 c3 n g bl ∧ Fr W W' (Own n f bl) ∧ Heap (bef ls) n g ∧ (all n g).Perm (all n f) := by
  obtain ⟨W1, g, b, d1, d2, d3, d4, d5, d6⟩ := down2_ok o hl h hn (Nat.le_refl n) (Nat.le_of_lt hi) ho
  have main : Ok (containerheap_Fix omS (hpV q) (.int .i64 (i : Int)) W) fun r => r.1 = .tuple #[] ∧ ∃ g, QP r.2 q lv less c2 c3 n g bl ∧ Fr W r.2 (Own n f bl) ∧ Heap (bef ls) n g ∧ (all n g).Perm (all n f) := by
    unfold containerheap_Fix
    rcases d4 with ⟨rfl, d4⟩ | ⟨rfl, rfl, d4⟩
    · simp only [SX, iLen, pLen_ok h, d1, Ok_some]
      exact ⟨trivial, g, d2, d3, d4, d5⟩
    · obtain ⟨W2, g2, u1, u2, u3, u4, u5, -⟩ := up2_ok o hl d2 hn (Nat.le_refl n) hi d4
      simp only [SX, iLen, pLen_ok h, d1, u1, Ok_some]
      exact ⟨trivial, g2, u2, d3.trans u3, u4, u5⟩
  obtain ⟨⟨r, W'⟩, h1, h2, g, h3⟩ := main
  simp only at h2 h3
  subst h2
  exact ⟨W', g, by rw [containerheap_Fix_om h1, gc_not rfl], h3⟩
theorem hRemove_ok (o : Ord (bef ls)) (hl : IsLess less ls) (h : QP W q lv less c2 c3 (n + 1) f bl) (hh : Heap (bef ls) (n + 1) f) (hn : n ≤ 10000) {i : Nat} (hi : i < n + 1) :
    ∃ W' lv' g, omS (.func (.func 69) #[] #[]) [hpV q, .int .i64 (i : Int)] W = some (.iface 127 (enP (f i)), W') ∧ QP W' q lv' less c2 c3 n g bl ∧ Heap (bef ls) n g ∧ (f i :: all n g).Perm (all (n + 1) f) ∧ (∃ p, W'.get (f i).b = some (.cells [.int .i64 (f i).h, .int .i64 (f i).v, p])) ∧ W'.next = W.next ∧ ∀ b, b ≠ q → ¬ Own (n + 1) f bl b → W'.get b = W.get b := by
  have main : Ok (containerheap_Remove omS (hpV q) (.int .i64 (i : Int)) W) fun r => r.1 = .iface 127 (enP (f i)) ∧ ∃ lv' g, QP r.2 q lv' less c2 c3 n g bl ∧ Heap (bef ls) n g ∧ (f i :: all n g).Perm (all (n + 1) f) ∧ (∃ p, r.2.get (f i).b = some (.cells [.int .i64 (f i).h, .int .i64 (f i).v, p])) ∧ r.2.next = W.next ∧ ∀ b, b ≠ q → ¬ Own (n + 1) f bl b → r.2.get b = W.get b := by
    unfold containerheap_Remove
    by_cases hin : i = n
    · subst hin
      obtain ⟨W3, lv', p1, p2, p3, p4⟩ := pPop_ok h hn
      simp only [SX, iLen, pLen_ok h, sub1 i (by omega), iPop, p1, Ok_some]
      refine ⟨trivial, lv', f, p2, hh.less (by omega), ?_, ⟨_, by rw [p4 _ (h.eq i hi) (h.pile.sl.ne hi)]; exact (h.pile.en i hi).1⟩, p3, fun b hb ho => p4 b hb fun e => ho (.inl e)⟩
      rw [all_succ]
      exact (List.perm_append_singleton _ _).symm
    · have e1 : ¬ ((n : Int) = (i : Int)) := by omega
      obtain ⟨W1, s1, s2, s3⟩ := pSwap_ok h hi (show n < n + 1 by omega)
      have hodd : Odd (bef ls) n (swp f i n) i := (hh.less (Nat.le_succ n)).change o fun j hj hji => swp_ne _ hji (by omega)
      obtain ⟨W2, g, b, d1, d2, d3, d4, d5, d6⟩ := down2_ok o hl s2 (by omega) (Nat.le_succ n) (show i ≤ n by omega) hodd
      have hp1 : (all (n + 1) (swp f i n)).Perm (all (n + 1) f) := all_swp f hi (by omega)
      have fin : ∀ W3 g3, QP W3 q lv less c2 c3 (n + 1) g3 bl → Fr W2 W3 (Own (n + 1) (swp f i n) bl) → Heap (bef ls) n g3 → (all n g3).Perm (all n (swp f i n)) → Same n (swp f i n) g3 →
          ∃ W4 lv', omS (.func (.func 191) #[] #[]) [.pointer (some ⟨q, 0, none⟩)] W3 = some (.iface 127 (enP (f i)), W4) ∧ QP W4 q lv' less c2 c3 n g3 bl ∧ (f i :: all n g3).Perm (all (n + 1) f) ∧ (∃ p, W4.get (f i).b = some (.cells [.int .i64 (f i).h, .int .i64 (f i).v, p])) ∧ W4.next = W.next ∧ ∀ b, b ≠ q → ¬ Own (n + 1) f bl b → W4.get b = W.get b := by
        intro W3 g3 a1 a2 a3 a4 a5
        have hg : g3 n = f i := by rw [a5 n (Nat.le_refl n), swp_r]
        obtain ⟨W4, lv', p1, p2, p3, p4⟩ := pPop_ok a1 hn
        rw [hg] at p1
        refine ⟨W4, lv', p1, p2, ?_, ⟨_, by have x := (a1.pile.en n (Nat.lt_succ_self n)).1; have y := a1.pile.sl.ne (Nat.lt_succ_self n); have z := a1.eq n (Nat.lt_succ_self n); rw [hg] at x y z; rw [p4 _ z y]; exact x⟩, by rw [p3, a2.next, d3.next, s3.next], fun b hb ho => ?_⟩
        · refine .trans ?_ hp1
          rw [all_succ, swp_r]
          exact (List.perm_append_singleton _ _).symm.trans (a4.append (.refl _))
        · have ho2 : ¬ Own (n + 1) (swp f i n) bl b := fun x => ho (Own.perm hp1 x)
          rw [p4 b hb fun hx => ho (.inl hx), a2.get b ho2, d3.get b ho2, s3.get b ho]
      rcases d4 with ⟨rfl, d4⟩ | ⟨rfl, rfl, d4⟩
      · obtain ⟨W4, lv', p1, p2, p3, p4, p5⟩ := fin W2 g d2 (.refl _ _) d4 d5 d6
        simp only [SX, iLen, pLen_ok h, sub1 n (by omega), e1, iSwap, s1, d1, iPop, p1, Ok_some]
        exact ⟨trivial, lv', g, p2, d4, p3, p4, p5⟩
      · obtain ⟨W3, g3, u1, u2, u3, u4, u5, u6⟩ := up2_ok o hl d2 (by omega) (Nat.le_succ n) (show i < n by omega) d4
        obtain ⟨W4, lv', p1, p2, p3, p4, p5⟩ := fin W3 g3 u2 u3 u4 u5 u6
        simp only [SX, iLen, pLen_ok h, sub1 n (by omega), e1, iSwap, s1, d1, u1, iPop, p1, Ok_some]
        exact ⟨trivial, lv', g3, p2, u4, p3, p4, p5⟩
  obtain ⟨⟨r, W'⟩, h1, h2, lv', g, h3⟩ := main
  simp only at h2 h3
  subst h2
  exact ⟨W', lv', g, by rw [containerheap_Remove_om h1, gc_not rfl], h3⟩
end
end Go.Proofs.Ytkpgmabebjmahaa
/- A queue and its methods. -/
namespace Go.Proofs.Ytkpgmabebjmahaa
open Go Go.Eng Go.Hp
set_option linter.unusedVariables false
set_option linter.unusedSimpArgs false
set_option linter.unusedSectionVars false
set_option maxRecDepth 100000
theorem u24 : Try.prog.underlying 24 = some (.pointer 109) := by kernel_rfl
theorem u107 : Try.prog.underlying 107 = some (.map 2 127) := by kernel_rfl
theorem u2 : Try.prog.underlying 2 = some (.int .i64) := by kernel_rfl
theorem pNe (a : Addr) (c d : Bool) (W : AW) : oBin Try.prog .neq 24 c d (.pointer (some a)) (.pointer none) W = some (.bool true, W) := by
  unfold oBin aBin aEql; simp only [u24]; rfl
theorem pEq (a : Addr) (c d : Bool) (W : AW) : oBin Try.prog .eql 24 c d (.pointer (some a)) (.pointer none) W = some (.bool false, W) := by
  unfold oBin aBin aEql; simp only [u24]
theorem mNe (m : Nat) (c d : Bool) (W : AW) : oBin Try.prog .neq 107 c d (.map (some m)) (.map none) W = some (.bool true, W) := by
  unfold oBin aBin aEql; simp only [u107]; rfl
theorem bd132 (h v : Int) (W : AW) : oBuild Try.prog 132 [(0, .int .i64 h), (1, .int .i64 v)] W = some (.agg #[.int .i64 h, .int .i64 v, .int .i64 0], W) := Eq.trans (by kernel_rfl) rfl
section
variable {W : AW} {q : Nat} {lv less c2 c3 : Value} {n : Nat} {f : Nat → En} {bl : Option Nat} {ls : Int → Int → Bool}
theorem QP.keep {W W' : AW} (h : QP W q lv less c2 c3 n f bl) (hn : W.next ≤ W'.next) (hg : ∀ b, b < W.next → b = q ∨ Own n f bl b → W'.get b = W.get b) : QP W' q lv less c2 c3 n f bl := by
  obtain ⟨hqc, hql, ⟨hsl, hen, hinj⟩, hbq, heq⟩ := h
  refine ⟨by rw [hg q hql (.inl rfl)]; exact hqc, by omega, ⟨hsl.keep hn fun b hb => hg b (hsl.lt hb) (.inr (.inl hb)), fun i hi => ?_, hinj⟩, hbq, heq⟩
  have := (hen i hi).2
  exact ⟨by rw [hg _ this (.inr (.inr ⟨i, hi, rfl⟩))]; exact (hen i hi).1, by omega⟩
theorem QP.turn {c3' : Value} (h : QP W q lv less c2 c3 n f bl) : QP (W.put q (.cells [lv, less, c2, c3'])) q lv less c2 c3' n f bl := by
  obtain ⟨hqc, hql, ⟨hsl, hen, hinj⟩, hbq, heq⟩ := h
  refine ⟨AW.get_put _ _ _, by rw [AW.put_next]; exact hql, ⟨hsl.keep (by rw [AW.put_next]; omega) fun b hb => AW.get_put_ne _ _ (fun e => hbq (by rw [hb, e])), fun i hi => ?_, hinj⟩, hbq, heq⟩
  rw [AW.get_put_ne _ _ (Ne.symm (heq i hi)), AW.put_next]
  exact hen i hi
end
/-- a queue of n entries -/
structure QS (W : AW) (In : Nat → Prop) (q mh : Nat) (less : Value) (ls : Int → Int → Bool) (nx : Int) (n : Nat) (f : Nat → En) : Prop where
  ex : ∃ lv bl, QP W q lv less (.map (some mh)) (.int .i64 nx) n f bl ∧ bl ≠ some mh ∧ ∀ b, Own n f bl b → In b
  ml : mh < W.next
  mq : mh ≠ q
  me : ∀ i, i < n → (f i).b ≠ mh
  iq : In q
  im : In mh
  hp : Heap (bef ls) n f
  mp : ∃ m, MapV W mh m n ∧ (∀ i, i < n → m (f i).h = some (enP (f i))) ∧ ∀ k v, m k = some v → ∃ i, i < n ∧ (f i).h = k ∧ v = enP (f i)
  hd : ∀ i, i < n → 1 ≤ (f i).h ∧ (f i).h < nx
  nx1 : 1 ≤ nx
/-- what changes lies in In -/
structure Gr (W W' : AW) (In : Nat → Prop) : Prop where
  next : W.next ≤ W'.next
  get : ∀ b, b < W.next → ¬ In b → W'.get b = W.get b
theorem Gr.refl (W : AW) (In : Nat → Prop) : Gr W W In := ⟨Nat.le_refl _, fun _ _ _ => rfl⟩
theorem Gr.trans {A B C : AW} {In : Nat → Prop} (h : Gr A B In) (k : Gr B C In) : Gr A C In := ⟨Nat.le_trans h.next k.next, fun b hb hi => (k.get b (Nat.lt_of_lt_of_le hb h.next) hi).trans (h.get b hb hi)⟩
section
variable {W : AW} {In : Nat → Prop} {q mh : Nat} {less : Value} {ls : Int → Int → Bool} {nx : Int} {n : Nat} {f : Nat → En}
theorem QS.keep {W W' : AW} {In' : Nat → Prop} (h : QS W In q mh less ls nx n f) (hn : W.next ≤ W'.next) (hg : ∀ b, b < W.next → In b → W'.get b = W.get b) (hi : ∀ b, b < W.next → In b → In' b) : QS W' In' q mh less ls nx n f := by
  obtain ⟨⟨lv, bl, h1, h2, h3⟩, ml, mq, me, iq, im, hp, ⟨m, m1, m2⟩, hd, nx1⟩ := h
  refine ⟨⟨lv, bl, h1.keep hn fun b hb ho => hg b hb ?_, h2, fun b hb => hi b ?_ (h3 b hb)⟩, by omega, mq, me, hi q h1.lt iq, hi mh ml im, hp, ⟨m, m1.keep (hg mh ml im), m2⟩, hd, nx1⟩
  · rcases ho with rfl | ho
    · exact iq
    · exact h3 b ho
  · rcases hb with hb | ⟨i, hi', rfl⟩
    · exact h1.pile.sl.lt hb
    · exact (h1.pile.en i hi').2
theorem QS.back {W W' : AW} (h : QS W' In q mh less ls nx n f) (hn : W'.next = W.next) (hle : Le W W') : QS W In q mh less ls nx n f :=
  h.keep (by omega) (fun b hb _ => (hle.get b (by omega)).symm) fun _ _ hb => hb
abbrev qV (q : Nat) : Value := .pointer (some ⟨q, 0, none⟩)
theorem made_ok (h : QS W In q mh less ls nx n f) : omS (.func (.func 54) #[] #[]) [qV q] W = some (.bool true, W) := by
  obtain ⟨⟨lv, bl, h1, h2, h3⟩, -⟩ := h
  refine om_drop rfl ?_ heaps_Queueint_made_om
  unfold heaps_Queueint_made
  simp only [SX, pNe, oNilCheck_ptr, Nat.zero_add, h1.l2, mNe, Ok_some]
  exact ⟨trivial, .refl _⟩
theorem peek_ok (h : QS W In q mh less ls nx n f) (hn : 0 < n) : omS (.func (.func 51) #[] #[]) [qV q] W = some (.tuple #[.int .i64 (f 0).h, .int .i64 (f 0).v, .int .i64 0], W) := by
  have hm := made_ok h
  obtain ⟨⟨lv, bl, h1, h2, h3⟩, -⟩ := h
  refine om_drop rfl ?_ heaps_Queueint_Peek_om
  unfold heaps_Queueint_Peek
  have e0 : ¬ ((n : Int) = 0) := by omega
  obtain ⟨b, -, g1, g2⟩ := h1.pile.get hn
  have g1' : ∀ W' k, ixS 1 lv (.int k 0) W' = some (.pointer (some ⟨b, 0, none⟩), W') := g1
  obtain ⟨c1, c2⟩ := h1.pile.cell hn
  simp only [SX, hm, oNilCheck_ptr, Nat.zero_add, h1.l0, h1.pile.len, e0, g1', g2, c1, c2, Ok_some]
  exact ⟨trivial, .refl _⟩
theorem qPop_ok (o : Ord (bef ls)) (hl : IsLess less ls) (h : QS W In q mh less ls nx (n + 1) f) (hn : n ≤ 10000) :
    ∃ W' g, omS (.func (.func 15) #[] #[]) [qV q] W = some (.tuple #[.int .i64 (f 0).h, .int .i64 (f 0).v, .int .i64 0], W') ∧ QS W' In q mh less ls nx n g ∧ (f 0 :: all n g).Perm (all (n + 1) f) ∧ W'.next = W.next ∧ Gr W W' In := by
  have hpk := peek_ok h (by omega)
  have main : Ok (heaps_Queueint_Pop omS (qV q) W) fun r => r.1 = .tuple #[.int .i64 (f 0).h, .int .i64 (f 0).v, .int .i64 0] ∧ ∃ g, QS r.2 In q mh less ls nx n g ∧ (f 0 :: all n g).Perm (all (n + 1) f) ∧ r.2.next = W.next ∧ Gr W r.2 In := by
    obtain ⟨⟨lv, bl, h1, h2, h3⟩, ml, mq, me, iq, im, hp, ⟨m, m1, m2, m3⟩, hd, nx1⟩ := h
    obtain ⟨W1, lv', g, p1, p2, p3, p4, p5, p6⟩ := hPop_ok o hl h1 hp hn
    have hmem : ∀ i, i < n → ∃ k, k < n + 1 ∧ f k = g i := fun i hi => all_mem.1 (p4.mem_iff.1 (List.mem_cons_of_mem _ (all_mem.2 ⟨i, hi, rfl⟩)))
    have hown : ∀ b, Own n g bl b → Own (n + 1) f bl b := fun b hb => by
      rcases hb with hb | ⟨i, hi, rfl⟩
      · exact .inl hb
      · obtain ⟨k, hk, e⟩ := hmem i hi
        exact .inr ⟨k, hk, by rw [e]⟩
    have hmo : ¬ Own (n + 1) f bl mh := fun ho => by
      rcases ho with ho | ⟨i, hi, ho⟩
      · exact h2 ho
      · exact me i hi ho
    have m1' := m1.keep (p6 mh mq hmo)
    obtain ⟨es, c, d1, d2⟩ := mapV_del m1' u107 u2 [2] (f 0).h
    rw [m2 0 (by omega)] at d2
    simp only [Option.isSome_some, if_true, Nat.add_sub_cancel] at d2
    have dd : oBuiltin Try.prog .delete #[107, 2] 0 #[false, false] [.map (some mh), .int .i64 (f 0).h] W1 = some (.tuple #[], W1.put mh (.map es c)) := by
      show (aDelete Try.prog W1 #[107, 2] (.map (some mh)) (.int .i64 (f 0).h)).map _ = _
      have : (#[107, 2] : Array TypeId) = (107 :: [2]).toArray := rfl
      rw [this, d1]; rfl
    unfold heaps_Queueint_Pop
    simp only [SX, hpk, oNilCheck_ptr, Nat.zero_add, ki103, p1, p2.l2, dd, Ok_some]
    refine ⟨trivial, g, ⟨⟨lv', bl, p2.keep (by rw [AW.put_next]; omega) fun b hb ho => AW.get_put_ne _ _ fun e => ?_, h2, fun b hb => h3 b (hown b hb)⟩, by rw [AW.put_next, p5]; exact ml, mq, fun i hi => ?_, iq, im, p3, ⟨_, d2, fun i hi => ?_, fun k v hk => ?_⟩, fun i hi => ?_, nx1⟩, p4, by rw [AW.put_next, p5], by rw [AW.put_next]; omega, fun b hb hi => ?_⟩
    · subst e
      rcases ho with ho | ho
      · exact mq ho
      · exact hmo (hown _ ho)
    · obtain ⟨k, hk, e⟩ := hmem i hi
      rw [← e]; exact me k hk
    · have hne : ¬ (g i).h = (f 0).h := fun e => by
        obtain ⟨k, hk, ek⟩ := hmem i hi
        have a1 := m2 k hk
        rw [ek, e, m2 0 (by omega)] at a1
        injection a1 with a1
        have a2 : (f 0).b = (g i).b := by injection a1 with a1; injection a1 with a1; injection a1
        have hnd : ((f 0).b :: (all n g).map (·.b)).Nodup := by
          have := (p4.map (·.b)).nodup_iff.2 ?_
          · exact this
          · unfold all
            rw [List.map_map, List.nodup_iff_pairwise_ne, List.pairwise_map]
            refine List.nodup_range.imp_of_mem fun {a b} ha hb hab e => hab (h1.pile.inj a b (List.mem_range.1 ha) (List.mem_range.1 hb) e)
        exact (List.nodup_cons.1 hnd).1 (List.mem_map.2 ⟨g i, all_mem.2 ⟨i, hi, rfl⟩, a2.symm⟩)
      obtain ⟨k, hk, ek⟩ := hmem i hi
      rw [if_neg hne, ← ek]
      exact m2 k hk
    · by_cases hk0 : k = (f 0).h
      · rw [if_pos hk0] at hk; cases hk
      · rw [if_neg hk0] at hk
        obtain ⟨i, hi, e1, e2⟩ := m3 k v hk
        have := p4.mem_iff.2 (all_mem.2 ⟨i, hi, rfl⟩)
        rcases List.mem_cons.1 this with e | hm
        · rw [e] at e1; exact absurd e1.symm hk0
        · obtain ⟨j, hj, e⟩ := all_mem.1 hm
          exact ⟨j, hj, by rw [e]; exact e1, by rw [e]; exact e2⟩
    · obtain ⟨k, hk, e⟩ := hmem i hi
      rw [← e]; exact hd k hk
    · rw [AW.get_put_ne _ _ (fun e => hi (by rw [← e]; exact im))]
      exact p6 b (fun e => hi (by rw [e]; exact iq)) fun ho => hi (h3 b ho)
  obtain ⟨⟨r, W'⟩, h1, h2, g, h3, h4, h5, h6⟩ := main
  simp only at h2 h3 h4 h5 h6
  subst h2
  rcases gc_two (W := W) (W' := W') (.tuple #[.int .i64 (f 0).h, .int .i64 (f 0).v, .int .i64 0]) with hg | ⟨hg, hle⟩
  · exact ⟨W', g, by rw [heaps_Queueint_Pop_om h1, hg], h3, h4, h5, h6⟩
  · exact ⟨W, g, by rw [heaps_Queueint_Pop_om h1, hg], h3.back h5 hle, h4, rfl, .refl _ _⟩
end
end Go.Proofs.Ytkpgmabebjmahaa
/- A queue: New and Push. -/
namespace Go.Proofs.Ytkpgmabebjmahaa
open Go Go.Eng Go.Hp
set_option linter.unusedVariables false
set_option linter.unusedSimpArgs false
set_option linter.unusedSectionVars false
set_option maxRecDepth 100000
theorem u26b : (match Try.prog.underlying 26 with | some (.func _ _ _) => true | _ => false) = true := by kernel_rfl
theorem u26 : ∃ a b c, Try.prog.underlying 26 = some (.func a b c) := by
  have h := u26b
  split at h
  · rename_i a b c e; exact ⟨a, b, c, e⟩
  · cases h
theorem fNil (k : Nat) (W : AW) : oBin Try.prog .eql 26 false true (.func (.func k) #[] #[]) .nilFunc W = some (.bool false, W) := by
  obtain ⟨a, b, c, h⟩ := u26
  unfold oBin aBin aEql; simp only [h]
theorem bd106 (k : Nat) (W : AW) : oBuild Try.prog 106 [(1, .func (.func k) #[] #[])] W = some (.agg #[.slice none 0 0, .func (.func k) #[] #[]], W) := Eq.trans (by kernel_rfl) rfl
theorem bd109 (k m : Nat) (W : AW) : oBuild Try.prog 109 [(0, .agg #[.slice none 0 0, .func (.func k) #[] #[]]), (1, .map (some m)), (2, .int .i64 1)] W = some (.agg #[.slice none 0 0, .func (.func k) #[] #[], .map (some m), .int .i64 1], W) := Eq.trans (by kernel_rfl) rfl
theorem oBox4 (a b c d : Value) (W : AW) : oBox (.agg #[a, b, c, d]) W = some (.pointer (some ⟨W.next, 0, none⟩), W.add (.cells [a, b, c, d])) := oBox_agg _
theorem oBox3 (a b c : Value) (W : AW) : oBox (.agg #[a, b, c]) W = some (.pointer (some ⟨W.next, 0, none⟩), W.add (.cells [a, b, c])) := oBox_agg _
theorem mkM (W : AW) : oMkMap Try.prog 107 none W = some (.map (some W.next), W.add (.map [] 0)) := rfl
theorem new_ok {In : Nat → Prop} {W : AW} (hi : ∀ b, W.next ≤ b → In b) (k : Nat) (ls : Int → Int → Bool) (f : Nat → En) : ∃ W' q mh, omS (.func (.func 38) #[] #[]) [.func (.func k) #[] #[]] W = some (qV q, W') ∧ QS W' In q mh (.func (.func k) #[] #[]) ls 1 0 f ∧ Gr W W' In := by
  have main : heaps_Newint omS (.func (.func k) #[] #[]) W = some (qV (W.next + 1), (W.add (.map [] 0)).add (.cells [.slice none 0 0, .func (.func k) #[] #[], .map (some W.next), .int .i64 1])) := by
    unfold heaps_Newint
    simp only [SX, fNil, bd106, mkM, bd109, oBox4]
    rfl
  have e := heaps_Newint_om main
  rw [gc_not rfl] at e
  refine ⟨_, W.next + 1, W.next, e, ⟨⟨.slice none 0 0, none, ⟨by rw [← AW.add_next W (.map [] 0)]; exact AW.get_add _ _, by simp only [AW.add_next]; omega, ⟨.nil rfl, fun i hi => by omega, fun i j hi => by omega⟩, by simp, fun i hi => by omega⟩, by simp, fun b hb => ?_⟩, by simp only [AW.add_next]; omega, by omega, fun i hi => by omega, hi _ (by omega), hi _ (by omega), fun k _ hk => by omega, ⟨_, mapV_new.keep (AW.get_add_ne _ _ (by rw [AW.add_next]; omega)), fun i hi => by omega, fun k v hk => by cases hk⟩, fun i hi => by omega, by omega⟩, by simp only [AW.add_next]; omega, fun b hb _ => ?_⟩
  · rcases hb with hb | ⟨i, hi, -⟩
    · cases hb
    · omega
  · rw [AW.get_add_ne _ _ (by rw [AW.add_next]; omega), AW.get_add_ne _ _ (by omega)]
section
variable {W : AW} {In : Nat → Prop} {q mh : Nat} {less : Value} {ls : Int → Int → Bool} {nx : Int} {n : Nat} {f : Nat → En}
theorem qPush_ok (o : Ord (bef ls)) (hl : IsLess less ls) (h : QS W In q mh less ls nx n f) (hn : n < 5000) (hnx : nx < 1000000000000000) (hi : ∀ b, W.next ≤ b → In b) (v : Int) :
    ∃ W' g, omS (.func (.func 25) #[] #[]) [qV q, .int .i64 v] W = some (.tuple #[.int .i64 nx, .int .i64 0], W') ∧ QS W' In q mh less ls (nx + 1) (n + 1) g ∧ (all (n + 1) g).Perm (⟨W.next, nx, v⟩ :: all n f) ∧ Gr W W' In := by
  have hm := made_ok h
  have main : Ok (heaps_Queueint_Push omS (qV q) (.int .i64 v) W) fun r => r.1 = .tuple #[.int .i64 nx, .int .i64 0] ∧ (∃ g, QS r.2 In q mh less ls (nx + 1) (n + 1) g ∧ (all (n + 1) g).Perm (⟨W.next, nx, v⟩ :: all n f) ∧ Gr W r.2 In) ∧ r.2.get q ≠ W.get q ∧ q < W.next := by
    obtain ⟨⟨lv, bl, h1, h2, h3⟩, ml, mq, me, iq, im, hp, ⟨m, m1, m2, m3⟩, hd, nx1⟩ := h
    have e1 : ¬ (5000 ≤ (n : Int)) := by omega
    have e2 : ¬ (1000000000000000 ≤ nx) := by omega
    have e3 := fun W' => oBin_add (P := Try.prog) (W := W') (t := 2) (c := false) (d := true) (a := nx) (b := 1) (by omega) (by omega)
    unfold heaps_Queueint_Push
    generalize hW1 : W.add (.cells [.int .i64 nx, .int .i64 v, .int .i64 0]) = W1
    have g1 : ∀ b, b < W.next → W1.get b = W.get b := fun b hb => by rw [← hW1]; exact AW.get_add_ne _ _ (by omega)
    have n1 : W1.next = W.next + 1 := by rw [← hW1, AW.add_next]
    have ge1 : W1.get W.next = some (.cells [.int .i64 nx, .int .i64 v, .int .i64 0]) := by rw [← hW1]; exact AW.get_add _ _
    have q1 : QP W1 q lv less (.map (some mh)) (.int .i64 nx) n f bl := h1.keep (by omega) fun b hb _ => g1 b hb
    have s1 := stA (v := .int .i64 (nx + 1)) (o := 3) q1.qc (by simp) rfl rfl
    rw [show ([lv, less, .map (some mh), .int .i64 nx] : List Value).set 3 (.int .i64 (nx + 1)) = [lv, less, .map (some mh), .int .i64 (nx + 1)] from rfl] at s1
    have q2 := q1.turn (c3' := .int .i64 (nx + 1))
    generalize hW2 : W1.put q (.cells [lv, less, .map (some mh), .int .i64 (nx + 1)]) = W2 at s1 q2
    have g2 : ∀ b, b ≠ q → W2.get b = W1.get b := fun b hb => by rw [← hW2]; exact AW.get_put_ne _ _ (Ne.symm hb)
    have n2 : W2.next = W.next + 1 := by rw [← hW2, AW.put_next, n1]
    have hqn : W.next ≠ q := by have := h1.lt; omega
    have ge2 : W2.get W.next = some (.cells [.int .i64 nx, .int .i64 v, .int .i64 0]) := (g2 _ hqn).trans ge1
    have m1' : MapV W2 mh m n := m1.keep (by rw [g2 _ mq, g1 _ ml])
    obtain ⟨es, c, d1, d2⟩ := mapV_set m1' u107 u2 nx (.pointer (some ⟨W.next, 0, none⟩))
    have hmn : m nx = none := by
      cases hx : m nx with
      | none => rfl
      | some v =>
        obtain ⟨i, hi, e, -⟩ := m3 nx v hx
        have := (hd i hi).2
        omega
    rw [hmn] at d2
    simp only [Option.isSome_none, Bool.false_eq_true, if_false] at d2
    generalize hW3 : W2.put mh (.map es c) = W3 at d1 d2
    have g3 : ∀ b, b ≠ mh → W3.get b = W2.get b := fun b hb => by rw [← hW3]; exact AW.get_put_ne _ _ (Ne.symm hb)
    have n3 : W3.next = W.next + 1 := by rw [← hW3, AW.put_next, n2]
    have hown : ∀ b, Own n f bl b → b < W.next := fun b hb => by
      rcases hb with hb | ⟨i, hi, rfl⟩
      · exact h1.pile.sl.lt hb
      · exact (h1.pile.en i hi).2
    have q3 : QP W3 q lv less (.map (some mh)) (.int .i64 (nx + 1)) n f bl := q2.keep (by omega) fun b hb ho => g3 b fun e => by
      subst e
      rcases ho with ho | ho | ⟨i, hi, ho⟩
      · exact mq ho
      · exact h2 ho
      · exact me i hi ho
    have ge3 : W3.get W.next = some (.cells [.int .i64 nx, .int .i64 v, .int .i64 0]) := (g3 _ (by omega)).trans ge2
    obtain ⟨W4, lv', b', g, p1, p2, p3, p4, p5, p6, p7⟩ := hPush_ok (e := ⟨W.next, nx, v⟩) o hl q3 hp (by omega) ge3 (by rw [n3]; exact Nat.lt_succ_self _) hqn (fun e => by have := hown _ (.inl e); simp at this) (fun i hi e => by have := (h1.pile.en i hi).2; simp only at e; omega)
    obtain ⟨j, hj, ej⟩ := all_mem.1 (p4.mem_iff.2 (List.mem_cons_self ..))
    have l4 : ldC (.pointer (some ⟨W.next, 0, none⟩)) W4 = some (.int .i64 nx, W4) := by
      have := (p2.pile.cell hj).1
      rw [ej] at this; exact this
    simp only [SX, hm, oNilCheck_ptr, Nat.zero_add, h1.l0, h1.l3, h1.pile.len, e1, e2, bd132, oBox3, hW1, q1.l3, e3, s1, q2.l2, ldR (o := 0) (rwOf ge2) rfl, d1, ki103, ki127, p1, l4, Ok_some]
    have hmem : ∀ i, i < n + 1 → g i = ⟨W.next, nx, v⟩ ∨ ∃ k, k < n ∧ f k = g i := fun i hi => by
      rcases List.mem_cons.1 (p4.mem_iff.1 (all_mem.2 ⟨i, hi, rfl⟩)) with e | e
      · exact .inl e
      · exact .inr (all_mem.1 e)
    have q4 : W4.get q = some (.cells [lv', less, .map (some mh), .int .i64 (nx + 1)]) := p2.qc
    refine ⟨trivial, ⟨g, ⟨⟨lv', some b', p2, fun e => by injection e with e; omega, fun b hb => ?_⟩, by omega, mq, fun i hi' => ?_, iq, im, p3, ⟨_, d2.keep (p7 mh (by omega) mq (by simp only; omega) fun ho => ?_), fun i hi' => ?_, fun k v' hk => ?_⟩, fun i hi' => ?_, by omega⟩, p4, by omega, fun b hb hni => ?_⟩, ?_, h1.lt⟩
    · rcases hb with hb | ⟨i, hi', rfl⟩
      · injection hb with hb
        exact hi b (by omega)
      · rcases hmem i hi' with e | ⟨k, hk, e⟩
        · rw [e]; exact hi _ (Nat.le_refl _)
        · rw [← e]; exact h3 _ (.inr ⟨k, hk, rfl⟩)
    · rcases hmem i hi' with e | ⟨k, hk, e⟩
      · rw [e]; simp only; omega
      · rw [← e]; exact me k hk
    · rcases ho with ho | ⟨i, hi', ho⟩
      · exact h2 ho
      · exact me i hi' ho
    · rcases hmem i hi' with e | ⟨k, hk, e⟩
      · rw [e, if_pos rfl]
      · have := (hd k hk).2
        rw [← e, if_neg (by omega)]
        exact m2 k hk
    · by_cases hk0 : k = nx
      · rw [if_pos hk0] at hk
        injection hk with hk
        exact ⟨j, hj, by rw [ej, hk0], by rw [ej, ← hk]⟩
      · rw [if_neg hk0] at hk
        obtain ⟨i, hi', x1, x2⟩ := m3 k v' hk
        obtain ⟨i2, hi2, x3⟩ := all_mem.1 (p4.mem_iff.2 (List.mem_cons_of_mem _ (all_mem.2 ⟨i, hi', rfl⟩)))
        exact ⟨i2, hi2, by rw [x3]; exact x1, by rw [x3]; exact x2⟩
    · rcases hmem i hi' with e | ⟨k, hk, e⟩
      · rw [e]; simp only; omega
      · have := hd k hk
        rw [← e]; omega
    · rw [p7 b (by omega) (fun e => hni (by rw [e]; exact iq)) (by simp only; omega) (fun ho => hni (h3 b ho)), g3 b (fun e => hni (by rw [e]; exact im)), g2 b (fun e => hni (by rw [e]; exact iq)), g1 b hb]
    · rw [q4, h1.qc]
      intro e
      injection e with e; injection e with e
      injection e with _ e; injection e with _ e; injection e with _ e; injection e with e _; injection e with _ e
      omega
  obtain ⟨⟨r, W'⟩, h1, h2, ⟨g, h3⟩, h4, h5⟩ := main
  simp only at h2 h3 h4 h5
  subst h2
  rcases gc_two (W := W) (W' := W') (.tuple #[.int .i64 nx, .int .i64 0]) with hg | ⟨hg, hle⟩
  · exact ⟨W', g, by rw [heaps_Queueint_Push_om h1, hg], h3⟩
  · exact absurd (hle.get q h5) h4
end
end Go.Proofs.Ytkpgmabebjmahaa
/- A queue: find, Get, Set, Remove. -/
namespace Go.Proofs.Ytkpgmabebjmahaa
open Go Go.Eng Go.Hp
set_option linter.unusedVariables false
set_option linter.unusedSimpArgs false
set_option linter.unusedSectionVars false
set_option maxRecDepth 100000
theorem z127 : tZero Try.prog 127 = some (.pointer none) := by kernel_rfl
def upd (f : Nat → En) (i : Nat) (v : Int) : Nat → En := fun j => if j = i then ⟨(f i).b, (f i).h, v⟩ else f j
theorem upd_b (f : Nat → En) (i : Nat) (v : Int) (j : Nat) : (upd f i v j).b = (f j).b := by
  unfold upd
  split
  · rename_i h; rw [h]
  · rfl
theorem upd_h (f : Nat → En) (i : Nat) (v : Int) (j : Nat) : (upd f i v j).h = (f j).h := by
  unfold upd
  split
  · rename_i h; rw [h]
  · rfl
theorem upd_i (f : Nat → En) (i : Nat) (v : Int) : upd f i v i = ⟨(f i).b, (f i).h, v⟩ := if_pos rfl
theorem upd_ne (f : Nat → En) {i j : Nat} (v : Int) (h : j ≠ i) : upd f i v j = f j := if_neg h
theorem enP_b {a b : En} (h : a.b = b.b) : enP a = enP b := by unfold enP; rw [h]
theorem rowE_b {n : Nat} {f g : Nat → En} (h : ∀ i, i < n → (f i).b = (g i).b) : rowE n f = rowE n g := by
  unfold rowE
  exact List.map_congr_left fun i hi => enP_b (h i (List.mem_range.1 hi))
section
variable {W : AW} {In : Nat → Prop} {q mh : Nat} {less : Value} {ls : Int → Int → Bool} {nx : Int} {n : Nat} {f : Nat → En}
theorem gc_same (v : Value) (W : AW) : gc W (v, W) = (v, W) := by
  rcases gc_two (W := W) (W' := W) v with h | ⟨h, -⟩ <;> exact h
theorem find0_ok (h : QS W In q mh less ls nx n f) {k : Int} (hk : ∀ i, i < n → (f i).h ≠ k) : omS (.func (.func 68) #[] #[]) [qV q, .int .i64 k] W = some (.tuple #[.pointer none, .int .i64 4], W) := by
  have hm := made_ok h
  obtain ⟨⟨lv, bl, h1, h2, h3⟩, ml, mq, me, iq, im, hp, ⟨m, m1, m2, m3⟩, hd, nx1⟩ := h
  have hn : m k = none := by
    cases hx : m k with
    | none => rfl
    | some v => obtain ⟨i, hi, e, -⟩ := m3 k v hx; exact absurd e (hk i hi)
  have g := mapV_get2 m1 u107 u2 z127 k
  rw [hn] at g
  have main : heaps_Queueint_find omS (qV q) (.int .i64 k) W = some (.tuple #[.pointer none, .int .i64 4], W) := by
    unfold heaps_Queueint_find
    simp only [SX, hm, oNilCheck_ptr, Nat.zero_add, h1.l2, g, Option.getD_none, Option.isSome_none]
  rw [heaps_Queueint_find_om main, gc_same]
theorem find_ok (h : QS W In q mh less ls nx n f) {i : Nat} (hi : i < n) : omS (.func (.func 68) #[] #[]) [qV q, .int .i64 (f i).h] W = some (.tuple #[enP (f i), .int .i64 0], W) := by
  have hm := made_ok h
  obtain ⟨⟨lv, bl, h1, h2, h3⟩, ml, mq, me, iq, im, hp, ⟨m, m1, m2, m3⟩, hd, nx1⟩ := h
  have g := mapV_get2 m1 u107 u2 z127 (f i).h
  rw [m2 i hi] at g
  have main : heaps_Queueint_find omS (qV q) (.int .i64 (f i).h) W = some (.tuple #[enP (f i), .int .i64 0], W) := by
    unfold heaps_Queueint_find
    simp only [SX, hm, oNilCheck_ptr, Nat.zero_add, h1.l2, g, Option.getD_some, Option.isSome_some]
  rw [heaps_Queueint_find_om main, gc_same]
theorem qSet0_ok (h : QS W In q mh less ls nx n f) {k : Int} (hk : ∀ i, i < n → (f i).h ≠ k) (v : Int) : omS (.func (.func 26) #[] #[]) [qV q, .int .i64 k, .int .i64 v] W = some (.int .i64 4, W) := by
  refine om_drop rfl ?_ heaps_Queueint_Set_om
  unfold heaps_Queueint_Set
  have e4 : ¬ ((4 : Int) = 0) := by omega
  simp only [SX, find0_ok h hk, e4, Ok_some]
  exact ⟨trivial, .refl _⟩
theorem qRemove0_ok (h : QS W In q mh less ls nx n f) {k : Int} (hk : ∀ i, i < n → (f i).h ≠ k) : omS (.func (.func 24) #[] #[]) [qV q, .int .i64 k] W = some (.tuple #[.int .i64 0, .int .i64 4], W) := by
  refine om_drop rfl ?_ heaps_Queueint_Remove_om
  unfold heaps_Queueint_Remove
  have e4 : ¬ ((4 : Int) = 0) := by omega
  simp only [SX, find0_ok h hk, e4, Ok_some]
  exact ⟨trivial, .refl _⟩
/-- an entry's value is stored -/
theorem QP.upd {W : AW} {lv c2 c3 : Value} {bl : Option Nat} (h : QP W q lv less c2 c3 n f bl) {i : Nat} (hi : i < n) (v : Int) :
    QP (W.put (f i).b (.cells (enC ⟨(f i).b, (f i).h, v⟩ i))) q lv less c2 c3 n (upd f i v) bl := by
  obtain ⟨hqc, hql, ⟨hsl, hen, hinj⟩, hbq, heq⟩ := h
  refine ⟨by rw [AW.get_put_ne _ _ (heq i hi)]; exact hqc, by rw [AW.put_next]; exact hql, ⟨?_, fun j hj => ?_, fun j k hj hk e => ?_⟩, hbq, fun j hj => by rw [upd_b]; exact heq j hj⟩
  · have hne := hsl.ne hi
    cases hsl with
    | nil h0 => exact .nil h0
    | row b junk h1 h2 h3 =>
      refine .row b junk ?_ (by rw [AW.put_next]; exact h2) fun j hj => by rw [upd_b]; exact h3 j hj
      rw [AW.get_put_ne _ _ (fun e => hne (by rw [e])), rowE_b (g := f) fun j _ => upd_b f i v j]
      exact h1
  · rw [AW.put_next, upd_b]
    refine ⟨?_, (hen j hj).2⟩
    by_cases hji : j = i
    · subst hji
      rw [upd_i]; exact AW.get_put _ _ _
    · rw [upd_ne f v hji, AW.get_put_ne _ _ (fun e => hji (hinj j i hj hi e.symm))]
      exact (hen j hj).1
  · rw [upd_b, upd_b] at e
    exact hinj j k hj hk e
theorem qSet_ok (o : Ord (bef ls)) (hl : IsLess less ls) (h : QS W In q mh less ls nx n f) (hn : n ≤ 10000) {i : Nat} (hi : i < n) (v : Int) :
    ∃ W' g, omS (.func (.func 26) #[] #[]) [qV q, .int .i64 (f i).h, .int .i64 v] W = some (.int .i64 0, W') ∧ QS W' In q mh less ls nx n g ∧ (all n g).Perm (all n (upd f i v)) ∧ W'.next = W.next ∧ Gr W W' In := by
  have hf := find_ok h hi
  have main : Ok (heaps_Queueint_Set omS (qV q) (.int .i64 (f i).h) (.int .i64 v) W) fun r => r.1 = .int .i64 0 ∧ ∃ g, QS r.2 In q mh less ls nx n g ∧ (all n g).Perm (all n (upd f i v)) ∧ r.2.next = W.next ∧ Gr W r.2 In := by
    obtain ⟨⟨lv, bl, h1, h2, h3⟩, ml, mq, me, iq, im, hp, ⟨m, m1, m2, m3⟩, hd, nx1⟩ := h
    have s1 := stA (v := .int .i64 v) (o := 1) (h1.pile.en i hi).1 (by simp) rfl rfl
    have s1' : ((enC (f i) i).set 1 (.int .i64 v)) = enC ⟨(f i).b, (f i).h, v⟩ i := rfl
    rw [s1'] at s1
    have q1 := h1.upd hi v
    generalize hW1 : W.put (f i).b (.cells (enC ⟨(f i).b, (f i).h, v⟩ i)) = W1 at s1 q1
    have hc : W1.get (f i).b = some (.cells (enC ⟨(f i).b, (f i).h, v⟩ i)) := by rw [← hW1]; exact AW.get_put _ _ _
    obtain ⟨W2, g, p1, p2, p3, p4, p5⟩ := hFix_ok o hl q1 (by omega) hi (hp.change o fun j _ hji => upd_ne f v hji)
    have hown : ∀ b, Own n (upd f i v) bl b → Own n f bl b := fun b hb => by
      rcases hb with hb | ⟨k, hk, rfl⟩
      · exact .inl hb
      · exact .inr ⟨k, hk, (upd_b f i v k).symm⟩
    have hmem : ∀ j, j < n → ∃ k, k < n ∧ (f k).b = (g j).b ∧ (f k).h = (g j).h := fun j hj => by
      obtain ⟨k, hk, e⟩ := all_mem.1 (p5.mem_iff.1 (all_mem.2 ⟨j, hj, rfl⟩))
      exact ⟨k, hk, by rw [← e, upd_b], by rw [← e, upd_h]⟩
    have hmo : ¬ Own n f bl mh := fun ho => by
      rcases ho with ho | ⟨i, hi, ho⟩
      · exact h2 ho
      · exact me i hi ho
    unfold heaps_Queueint_Set
    simp only [SX, hf, oNilCheck_ptr, Nat.zero_add, s1, ki103, ldR (o := 2) (rwOf hc) rfl, p1, Ok_some]
    have hget : ∀ b, ¬ Own n f bl b → W2.get b = W.get b := fun b hb => by
      rw [p3.get b fun x => hb (hown b x), ← hW1, AW.get_put_ne _ _ fun e => hb (.inr ⟨i, hi, e⟩)]
    have hnx : W2.next = W.next := by rw [p3.next, ← hW1, AW.put_next]
    refine ⟨trivial, g, ⟨⟨lv, bl, p2, h2, fun b hb => h3 b ?_⟩, by omega, mq, fun j hj => ?_, iq, im, p4, ⟨m, m1.keep (hget mh hmo), fun j hj => ?_, fun k v' hk => ?_⟩, fun j hj => ?_, nx1⟩, p5, hnx, by omega, fun b hb hni => hget b fun ho => hni (h3 b ho)⟩
    · rcases hb with hb | ⟨j, hj, rfl⟩
      · exact .inl hb
      · obtain ⟨k, hk, e, -⟩ := hmem j hj
        exact .inr ⟨k, hk, e⟩
    · obtain ⟨k, hk, e, -⟩ := hmem j hj
      rw [← e]; exact me k hk
    · obtain ⟨k, hk, e1, e2⟩ := hmem j hj
      rw [← e2, m2 k hk, enP_b e1]
    · obtain ⟨j, hj, e1, e2⟩ := m3 k v' hk
      obtain ⟨k2, hk2, e3⟩ := all_mem.1 (p5.mem_iff.2 (all_mem.2 ⟨j, hj, rfl⟩))
      exact ⟨k2, hk2, by rw [e3, upd_h]; exact e1, by rw [e2]; exact (enP_b (by rw [e3, upd_b])).symm⟩
    · obtain ⟨k, hk, e1, e2⟩ := hmem j hj
      rw [← e2]; exact hd k hk
  obtain ⟨⟨r, W'⟩, h1, h2, g, h3, h4, h5, h6⟩ := main
  simp only at h2 h3 h4 h5 h6
  subst h2
  rcases gc_two (W := W) (W' := W') (.int .i64 0) with hg | ⟨hg, hle⟩
  · exact ⟨W', g, by rw [heaps_Queueint_Set_om h1, hg], h3, h4, h5, h6⟩
  · exact ⟨W, g, by rw [heaps_Queueint_Set_om h1, hg], h3.back h5 hle, h4, rfl, .refl _ _⟩
theorem qRemove_ok (o : Ord (bef ls)) (hl : IsLess less ls) (h : QS W In q mh less ls nx (n + 1) f) (hn : n ≤ 10000) {i : Nat} (hi : i < n + 1) :
    ∃ W' g, omS (.func (.func 24) #[] #[]) [qV q, .int .i64 (f i).h] W = some (.tuple #[.int .i64 (f i).v, .int .i64 0], W') ∧ QS W' In q mh less ls nx n g ∧ (f i :: all n g).Perm (all (n + 1) f) ∧ W'.next = W.next ∧ Gr W W' In := by
  have hf := find_ok h hi
  have main : Ok (heaps_Queueint_Remove omS (qV q) (.int .i64 (f i).h) W) fun r => r.1 = .tuple #[.int .i64 (f i).v, .int .i64 0] ∧ ∃ g, QS r.2 In q mh less ls nx n g ∧ (f i :: all n g).Perm (all (n + 1) f) ∧ r.2.next = W.next ∧ Gr W r.2 In := by
    obtain ⟨⟨lv, bl, h1, h2, h3⟩, ml, mq, me, iq, im, hp, ⟨m, m1, m2, m3⟩, hd, nx1⟩ := h
    obtain ⟨W1, lv', g, p1, p2, p3, p4, ⟨pp, p0⟩, p5, p6⟩ := hRemove_ok o hl h1 hp hn hi
    have hmem : ∀ j, j < n → ∃ k, k < n + 1 ∧ f k = g j := fun j hj => all_mem.1 (p4.mem_iff.1 (List.mem_cons_of_mem _ (all_mem.2 ⟨j, hj, rfl⟩)))
    have hown : ∀ b, Own n g bl b → Own (n + 1) f bl b := fun b hb => by
      rcases hb with hb | ⟨i, hi, rfl⟩
      · exact .inl hb
      · obtain ⟨k, hk, e⟩ := hmem i hi
        exact .inr ⟨k, hk, by rw [e]⟩
    have hmo : ¬ Own (n + 1) f bl mh := fun ho => by
      rcases ho with ho | ⟨i, hi, ho⟩
      · exact h2 ho
      · exact me i hi ho
    have m1' := m1.keep (p6 mh mq hmo)
    obtain ⟨es, c, d1, d2⟩ := mapV_del m1' u107 u2 [2] (f i).h
    rw [m2 i hi] at d2
    simp only [Option.isSome_some, if_true, Nat.add_sub_cancel] at d2
    have dd : oBuiltin Try.prog .delete #[107, 2] 0 #[false, false] [.map (some mh), .int .i64 (f i).h] W1 = some (.tuple #[], W1.put mh (.map es c)) := by
      show (aDelete Try.prog W1 #[107, 2] (.map (some mh)) (.int .i64 (f i).h)).map _ = _
      have : (#[107, 2] : Array TypeId) = (107 :: [2]).toArray := rfl
      rw [this, d1]; rfl
    have p0' : (W1.put mh (.map es c)).get (f i).b = some (.cells [.int .i64 (f i).h, .int .i64 (f i).v, pp]) := by
      rw [AW.get_put_ne _ _ (fun e => me i hi e.symm)]; exact p0
    unfold heaps_Queueint_Remove
    simp only [SX, hf, oNilCheck_ptr, Nat.zero_add, ki103, ldR (o := 2) (rwOf (h1.pile.en i hi).1) rfl, p1, p2.l2, dd, ldR (o := 1) (rwOf p0') rfl, Ok_some]
    refine ⟨trivial, g, ⟨⟨lv', bl, p2.keep (by rw [AW.put_next]; omega) fun b hb ho => AW.get_put_ne _ _ fun e => ?_, h2, fun b hb => h3 b (hown b hb)⟩, by rw [AW.put_next, p5]; exact ml, mq, fun i hi => ?_, iq, im, p3, ⟨_, d2, fun j hj => ?_, fun k v hk => ?_⟩, fun i hi => ?_, nx1⟩, p4, by rw [AW.put_next, p5], by rw [AW.put_next]; omega, fun b hb hi => ?_⟩
    · subst e
      rcases ho with ho | ho
      · exact mq ho
      · exact hmo (hown _ ho)
    · obtain ⟨k, hk, e⟩ := hmem i hi
      rw [← e]; exact me k hk
    · have hne : ¬ (g j).h = (f i).h := fun e => by
        obtain ⟨k, hk, ek⟩ := hmem j hj
        have a1 := m2 k hk
        rw [ek, e, m2 i hi] at a1
        injection a1 with a1
        have a2 : (f i).b = (g j).b := by injection a1 with a1; injection a1 with a1; injection a1
        have hnd : ((f i).b :: (all n g).map (·.b)).Nodup := by
          have := (p4.map (·.b)).nodup_iff.2 ?_
          · exact this
          · unfold all
            rw [List.map_map, List.nodup_iff_pairwise_ne, List.pairwise_map]
            refine List.nodup_range.imp_of_mem fun {a b} ha hb hab e => hab (h1.pile.inj a b (List.mem_range.1 ha) (List.mem_range.1 hb) e)
        exact (List.nodup_cons.1 hnd).1 (List.mem_map.2 ⟨g j, all_mem.2 ⟨j, hj, rfl⟩, a2.symm⟩)
      obtain ⟨k, hk, ek⟩ := hmem j hj
      rw [if_neg hne, ← ek]
      exact m2 k hk
    · by_cases hk0 : k = (f i).h
      · rw [if_pos hk0] at hk; cases hk
      · rw [if_neg hk0] at hk
        obtain ⟨i', hi', e1, e2⟩ := m3 k v hk
        have := p4.mem_iff.2 (all_mem.2 ⟨i', hi', rfl⟩)
        rcases List.mem_cons.1 this with e | hm
        · rw [e] at e1; exact absurd e1.symm hk0
        · obtain ⟨j, hj, e⟩ := all_mem.1 hm
          exact ⟨j, hj, by rw [e]; exact e1, by rw [e]; exact e2⟩
    · obtain ⟨k, hk, e⟩ := hmem i hi
      rw [← e]; exact hd k hk
    · rw [AW.get_put_ne _ _ (fun e => hi (by rw [← e]; exact im))]
      exact p6 b (fun e => hi (by rw [e]; exact iq)) fun ho => hi (h3 b ho)
  obtain ⟨⟨r, W'⟩, h1, h2, g, h3, h4, h5, h6⟩ := main
  simp only at h2 h3 h4 h5 h6
  subst h2
  rcases gc_two (W := W) (W' := W') (.tuple #[.int .i64 (f i).v, .int .i64 0]) with hg | ⟨hg, hle⟩
  · exact ⟨W', g, by rw [heaps_Queueint_Remove_om h1, hg], h3, h4, h5, h6⟩
  · exact ⟨W, g, by rw [heaps_Queueint_Remove_om h1, hg], h3.back h5 hle, h4, rfl, .refl _ _⟩
end
end Go.Proofs.Ytkpgmabebjmahaa
/- The law's orders, its queue, and what it has seen. -/
namespace Go.Proofs.Ytkpgmabebjmahaa
open Go Go.Eng Go.Hp
set_option linter.unusedVariables false
set_option linter.unusedSimpArgs false
set_option linter.unusedSectionVars false
set_option maxRecDepth 100000
theorem max0_ok (a b : Int) (W : AW) : oBuiltin Try.prog .max #[3, 3] 3 #[false, true] [.int .i64 a, .int .i64 b] W = some (.int .i64 (max a b), W) := by
  have e : oBuiltin Try.prog .max #[3, 3] 3 #[false, true] [.int .i64 a, .int .i64 b] W = (pureS Try.prog ([Value.int .i64 a, .int .i64 b].all plain) (builtin .max #[3, 3] 3 #[false, true] #[.int .i64 a, .int .i64 b])).map fun v => (v, W) := by
    unfold oBuiltin
    rfl
  rw [e]
  have e2 : builtin .max #[3, 3] 3 #[false, true] #[.int .i64 a, .int .i64 b] = (do pure (.value (← Builtin.max_ #[3, 3] 3 #[.int .i64 a, .int .i64 b]))) := rfl
  rw [e2]
  refine pureV ?_ rfl _ rfl
  unfold Builtin.max_
  simp only [List.foldlM_cons, List.foldlM_nil, pureRun_bind, Builtin.max2, pureRun_pure, Option.bind_some]
  congr 2
  split <;> omega
/-- an order by a number -/
def byK (kf : Int → Int) (a b : Int) : Bool := decide (kf a < kf b)
theorem byK_ord (kf : Int → Int) : Ord (bef (byK kf)) := by
  refine ⟨fun a b h => ?_, fun a b c h1 h2 => ?_⟩
  · simp only [bef, byK, Bool.or_eq_true, Bool.and_eq_true, Bool.not_eq_true', decide_eq_true_eq, decide_eq_false_iff_not, Bool.or_eq_false_iff, Bool.and_eq_false_imp] at *
    omega
  · simp only [bef, byK, Bool.or_eq_true, Bool.and_eq_true, Bool.not_eq_true', decide_eq_true_eq, decide_eq_false_iff_not, Bool.or_eq_false_iff, Bool.and_eq_false_imp] at *
    omega
def tenK (a : Int) : Int := -((max a 0).tmod 10)
theorem less_ok : IsLess (.func (.func 35) #[] #[]) (byK id) := fun a b W => by
  refine om_drop rfl ?_ law06_less_om
  unfold law06_less
  simp only [SX, Ok_some]
  exact ⟨rfl, .refl _⟩
theorem tens_ok : IsLess (.func (.func 52) #[] #[]) (byK tenK) := fun a b W => by
  refine om_drop rfl ?_ law06_tens_om
  unfold law06_tens
  have e : ∀ x W, oBin Try.prog .rem 3 false true (.int .i64 x) (.int .i64 10) W = some (.int .i64 (x.tmod 10), W) := fun x W => oBin_rem (by omega)
  simp only [SX, max0_ok, e, Ok_some]
  refine ⟨?_, .refl _⟩
  unfold byK tenK
  congr 1
  simp
/-- the order that a kind names -/
def kfOf (k : Int) : Int → Int := if k.tmod 2 = 1 then tenK else id
def lsN (k : Int) : Nat := if k.tmod 2 = 1 then 52 else 35
theorem order_ok (k : Int) (W : AW) : omS (.func (.func 14) #[] #[]) [.int .u8 k] W = some (.func (.func (lsN k)) #[] #[], W) := by
  have main : law06_order omS (.int .u8 k) W = some (.func (.func (lsN k)) #[] #[], W) := by
    unfold law06_order lsN
    have e : oBin Try.prog .rem 5 false true (.int .u8 k) (.int .u8 2) W = some (.int .u8 (k.tmod 2), W) := oBin_rem (by omega)
    by_cases h : k.tmod 2 = 1
    · simp only [SX, e, h]
      rfl
    · simp only [SX, e, h]
      rfl
  rw [law06_order_om main, gc_not rfl]
theorem isLess_of (k : Int) : IsLess (.func (.func (lsN k)) #[] #[]) (byK (kfOf k)) := by
  unfold lsN kfOf
  by_cases h : k.tmod 2 = 1
  · rw [if_pos h, if_pos h]; exact tens_ok
  · rw [if_neg h, if_neg h]; exact less_ok
theorem QS.fresh {W : AW} {In : Nat → Prop} {q mh : Nat} {less : Value} {ls : Int → Int → Bool} {nx : Int} {n : Nat} {f : Nat → En} (h : QS W In q mh less ls nx n f) {i j : Nat} (hi : i < n) (hj : j < n) (e : (f i).h = (f j).h) : i = j := by
  obtain ⟨⟨lv, bl, h1, h2, h3⟩, ml, mq, me, iq, im, hp, ⟨m, m1, m2, m3⟩, hd, nx1⟩ := h
  have a1 := m2 i hi
  rw [e, m2 j hj] at a1
  injection a1 with a1
  injection a1 with a1; injection a1 with a1; injection a1 with a1
  exact h1.pile.inj i j hi hj a1.symm
/-- what a queue of these numbers holds -/
def idx (l : List Int) : List (Int × Int) := l.zipIdx.map fun p => (((p.2 + 1 : Nat) : Int), p.1)
theorem idx_take {l : List Int} {k : Nat} (hk : k < l.length) : idx (l.take (k + 1)) = idx (l.take k) ++ [(((k + 1 : Nat) : Int), l[k])] := by
  unfold idx
  rw [List.take_succ_eq_append_getElem hk, List.zipIdx_append, List.map_append]
  simp [List.length_take, Nat.min_eq_left (Nat.le_of_lt hk)]
def hv (e : En) : Int × Int := (e.h, e.v)
theorem lenI : ((#[22] : Array TypeId)[0]?).bind Try.prog.underlying = some (.slice 3) := by kernel_rfl
theorem made1_ok {k : Int} {v : Value} {l : List Int} {W : AW} {In : Nat → Prop} (h : Ints W v l) (hl : l.length ≤ 300) (hi : ∀ b, W.next ≤ b ↔ In b) :
    ∃ W' q mh g, omS (.func (.func 13) #[] #[]) [.int .u8 k, v] W = some (qV q, W') ∧ QS W' In q mh (.func (.func (lsN k)) #[] #[]) (byK (kfOf k)) ((l.length : Int) + 1) l.length g ∧ ((all l.length g).map hv).Perm (idx l) ∧ Gr W W' In := by
  obtain ⟨W1, q, mh, n1, n2, n3⟩ := new_ok (W := W) (fun b hb => (hi b).1 hb) (lsN k) (byK (kfOf k)) fun _ => ⟨0, 0, 0⟩
  have main : Ok (law06_made omS (.int .u8 k) v W) fun r => r.1 = qV q ∧ ∃ g, QS r.2 In q mh (.func (.func (lsN k)) #[] #[]) (byK (kfOf k)) ((l.length : Int) + 1) l.length g ∧ ((all l.length g).map hv).Perm (idx l) ∧ Gr W r.2 In := by
    unfold law06_made
    have e1 : ¬ ((300 : Int) < (l.length : Int)) := by omega
    simp only [SX, order_ok, n1, pEq, h.len lenI, e1]
    refine Ok_loop l.length (by omega) (fun j R W' => ∃ g, R 1 = v ∧ R 5 = qV q ∧ R 6 = .int .i64 (j : Int) ∧ QS W' In q mh (.func (.func (lsN k)) #[] #[]) (byK (kfOf k)) ((j : Int) + 1) j g ∧ ((all j g).map hv).Perm (idx (l.take j)) ∧ Gr W W' In)
      (fun r => r.1 = .exit 0 ∧ r.2.1 5 = qV q ∧ ∃ g, QS r.2.2 In q mh (.func (.func (lsN k)) #[] #[]) (byK (kfOf k)) ((l.length : Int) + 1) l.length g ∧ ((all l.length g).map hv).Perm (idx l) ∧ Gr W r.2.2 In) ⟨_, rfl, rfl, rfl, n2, .refl _, n3⟩ ?_ ?_ ?_
    · rintro j R W' hj ⟨g, r1, r5, r6, hQ, hP, hG⟩
      unfold law06_made_L1
      have e2 : ((j : Int) < (l.length : Int)) := by omega
      have e3 := fun W' => oBin_add (P := Try.prog) (W := W') (t := 3) (c := false) (d := true) (a := (j : Int)) (b := 1) (by omega) (by omega)
      have h' : Ints W' v l := by
        refine h.mono ⟨hG.next, fun b hb => hG.get b hb fun hx => ?_⟩
        have := (hi b).2 hx
        omega
      obtain ⟨p, g1, g2⟩ := h'.get hj
      obtain ⟨W2, g', s1, s2, s3, s4⟩ := qPush_ok (byK_ord (kfOf k)) (isLess_of k) hQ (by omega) (by omega) (fun b hb => (hi b).1 (by have := hG.next; omega)) l[j]
      have e4 : ¬ ¬ ((0 : Int) = 0) := by simp
      simp only [SX, r1, r5, r6, h.len lenI, e2, g1, g2 _ (.refl _), s1, e3, Ok_some]
      refine .inl ⟨trivial, g', r1, r5, by rw [show ((j + 1 : Nat) : Int) = (j : Int) + 1 by omega]; rfl, s2, ?_, hG.trans s4⟩
      rw [idx_take hj]
      refine (s3.map hv).trans ?_
      rw [List.map_cons]
      refine (hP.cons _).trans ?_
      have : hv { b := W'.next, h := (j : Int) + 1, v := l[j] } = (((j + 1 : Nat) : Int), l[j]) := by unfold hv; simp
      rw [this]
      exact (List.perm_append_singleton _ _).symm
    · rintro R W' ⟨g, r1, r5, r6, hQ, hP, hG⟩
      unfold law06_made_L1
      have e2 : ¬ ((l.length : Int) < (l.length : Int)) := by omega
      simp only [SX, r1, r5, r6, h.len lenI, e2, Ok_some]
      rw [List.take_length] at hP
      exact ⟨by simp, trivial, r5, g, hQ, hP, hG⟩
    · rintro ⟨x, R, W'⟩ ⟨hx, r5, hq⟩
      simp only at hx r5 hq
      subst hx
      simp only [SX, r5, Ok_some]
      exact ⟨trivial, hq⟩
  obtain ⟨⟨r, W'⟩, h1, h2, g, h3⟩ := main
  simp only at h2 h3
  subst h2
  exact ⟨W', q, mh, g, by rw [law06_made_om h1, gc_not rfl], h3⟩
/-- a row of bools -/
def bR (n : Nat) (g : Nat → Bool) : List Value := (List.range n).map fun i => .bool (g i)
theorem z4 : tZero Try.prog 4 = some (.bool false) := by kernel_rfl
theorem s4 : tSz Try.prog 4 = some 1 := by kernel_rfl
theorem b4 : (Try.prog.info? 4).map (·.bytes) = some 1 := by kernel_rfl
end Go.Proofs.Ytkpgmabebjmahaa
/- A queue's entries, sorted. -/
namespace Go.Proofs.Ytkpgmabebjmahaa
open Go Go.Eng Go.Hp
set_option linter.unusedVariables false
set_option linter.unusedSimpArgs false
set_option linter.unusedSectionVars false
set_option maxRecDepth 100000
/-! ### the orders, without what sorts by them -/
def IsLess1 (less : Value) (ls : Int → Int → Bool) : Prop := ∀ a b W, om1 less [.int .i64 a, .int .i64 b] W = some (.bool (ls a b), W)
theorem IsLess1.up {less : Value} {ls : Int → Int → Bool} (h : IsLess1 less ls) : IsLess less ls := fun a b W => om1_le _ _ _ _ (h a b W)
theorem less1_ok : IsLess1 (.func (.func 35) #[] #[]) (byK id) := fun a b W => by
  refine om_drop rfl ?_ law06_less_om1
  unfold law06_less
  simp only [SX, Ok_some]
  exact ⟨rfl, .refl _⟩
theorem tens1_ok : IsLess1 (.func (.func 52) #[] #[]) (byK tenK) := fun a b W => by
  refine om_drop rfl ?_ law06_tens_om1
  unfold law06_tens
  have e : ∀ x W, oBin Try.prog .rem 3 false true (.int .i64 x) (.int .i64 10) W = some (.int .i64 (x.tmod 10), W) := fun x W => oBin_rem (by omega)
  simp only [SX, max0_ok, e, Ok_some]
  refine ⟨?_, .refl _⟩
  unfold byK tenK
  congr 1
  simp
theorem isLess1_of (k : Int) : IsLess1 (.func (.func (lsN k)) #[] #[]) (byK (kfOf k)) := by
  unfold lsN kfOf
  by_cases h : k.tmod 2 = 1
  · rw [if_pos h, if_pos h]; exact tens1_ok
  · rw [if_neg h, if_neg h]; exact less1_ok
theorem pBefore1_ok {V : AW} {q : Nat} {lv less : Value} {ls : Int → Int → Bool} {rq ra rb : List Value} (hl : IsLess1 less ls) {a b : En} (hq : cellsAt V q = some (lv :: less :: rq)) (ha : cellsAt V a.b = some (.int .i64 a.h :: .int .i64 a.v :: ra)) (hb : cellsAt V b.b = some (.int .i64 b.h :: .int .i64 b.v :: rb)) :
    om1 (.func (.func 103) #[] #[]) [.pointer (some ⟨q, 0, none⟩), enP a, enP b] V = some (.bool (bef ls a b), V) := by
  refine om_drop rfl ?_ heaps_pileint_before_om1
  unfold heaps_pileint_before bef
  have q1 : ldC (.pointer (some ⟨q, 1, none⟩)) V = some (less, V) := ldC_ok hq rfl
  have a1 : ldC (.pointer (some ⟨a.b, 0, none⟩)) V = some (.int .i64 a.h, V) := ldC_ok ha rfl
  have a2 : ldC (.pointer (some ⟨a.b, 1, none⟩)) V = some (.int .i64 a.v, V) := ldC_ok ha rfl
  have b1 : ldC (.pointer (some ⟨b.b, 0, none⟩)) V = some (.int .i64 b.h, V) := ldC_ok hb rfl
  have b2 : ldC (.pointer (some ⟨b.b, 1, none⟩)) V = some (.int .i64 b.v, V) := ldC_ok hb rfl
  simp only [SX, oNilCheck_ptr, Nat.zero_add, q1, a2, b2, hl a.v b.v]
  cases ls a.v b.v
  case true =>
    simp only [SX, Ok_some]
    exact ⟨by simp, .refl _⟩
  simp only [SX, oNilCheck_ptr, Nat.zero_add, q1, a2, b2, hl b.v a.v]
  cases ls b.v a.v
  case true =>
    simp only [SX, Ok_some]
    exact ⟨by simp, .refl _⟩
  simp only [SX, oNilCheck_ptr, Nat.zero_add, a1, b1, Ok_some]
  exact ⟨by simp, .refl _⟩
/-! ### the copy -/
theorem u104 : Try.prog.underlying 104 = some (.slice 127) := by kernel_rfl
theorem sNil (c d : Bool) (l k : Nat) (W : AW) : oBin Try.prog .eql 104 c d (.slice none l k) (.slice none 0 0) W = some (.bool true, W) := by
  unfold oBin aBin aEql; simp only [u104]; rfl
theorem sSome (c d : Bool) (a : Addr) (l k : Nat) (W : AW) : oBin Try.prog .eql 104 c d (.slice (some a) l k) (.slice none 0 0) W = some (.bool false, W) := by
  unfold oBin aBin aEql; simp only [u104]
theorem bs104_0 (W : AW) : oBuildSlice Try.prog 104 0 [] W = some (.slice (some ⟨W.next, 0, none⟩) 0 0, W.add (.cells [])) := Eq.trans (by kernel_rfl) rfl
section
variable {P : Program} {W : AW}
/-- append onto an empty literal -/
theorem app_lit0 {ts : Array TypeId} {z bytes : Nat} (hk : appOk P ts z bytes = true) {b o n c : Nat} {cs new : List Value} (hc : cellsAt W b = some cs) (hn : new = (cs.drop o).take (n * z)) (hl : new.length = n * z) (h0 : 0 < n) (h1 : new.all Eng.one = true)
    {a : Addr} (hb : n < 1099511627776) (hb2 : (2 * n + 192) * bytes ≤ 281474976710656) :
    aAppend P W ts (.slice (some a) 0 0) (.slice (some ⟨b, o, none⟩) n c) = some (.slice (some ⟨W.next, 0, none⟩) n (BIG + z), W.add (.cells new)) := by
  obtain ⟨t, e, zv, k1, k2, k3, k4, k5, k6⟩ := appOk_inv hk
  have hr : readN W b o (n * z) = some new := by rw [readN_def, hc]; simp only; rw [if_pos (by rw [← hn]; exact hl), hn]
  have hr1 : readSlice W (.slice (some ⟨b, o, none⟩) n c) (n * z) = some new := by
    unfold readSlice
    simp only
    rw [if_neg (by have := Nat.mul_pos h0 k5; omega), if_neg (by omega)]
    exact hr
  have hr2 : readSlice W (.slice (some a) 0 0) (0 * z) = some [] := by
    unfold readSlice
    simp
  have hB : 0 < BIG := by unfold BIG; omega
  have hB2 : ¬ 0 = BIG + z := by unfold BIG; omega
  unfold aAppend
  simp only [k1, k2, k3, k4, if_true, Nat.zero_add, if_pos (And.intro k5 (And.intro k6 (And.intro hb hb2))), if_neg (show ¬ n = 0 by omega), hr1, hr2, h1, if_neg hB2, if_pos hB, if_neg (show ¬ n ≤ 0 by omega), AW.new_eq, List.nil_append]
theorem app_none {ts : Array TypeId} {z bytes : Nat} (hk : appOk P ts z bytes = true) {a a2 : Option Addr} {l c c2 : Nat} (h : l ≤ c) (hb : l < 1099511627776) (hb2 : (2 * l + 192) * bytes ≤ 281474976710656) :
    aAppend P W ts (.slice a l c) (.slice a2 0 c2) = some (.slice a l c, W) := by
  obtain ⟨t, e, zv, k1, k2, k3, k4, k5, k6⟩ := appOk_inv hk
  unfold aAppend
  simp only [k1, k2, k3, k4, if_true, Nat.add_zero, if_pos (And.intro k5 (And.intro k6 (And.intro hb hb2))), if_pos h]
end
theorem rowE_one (n : Nat) (f : Nat → En) : (rowE n f).all Eng.one = true := by
  unfold rowE
  rw [List.all_map, List.all_eq_true]
  intro i _
  rfl
theorem clone_ok {W : AW} {n : Nat} {f : Nat → En} {lv : Value} {bl : Option Nat} (h : SlAt W n f lv bl) (hn : n ≤ 10000) :
    ∃ v W', omS (.func (.func 100) #[] #[]) [lv] W = some (v, W') ∧ Le W W' ∧ ((n = 0 ∧ ∃ a c, v = .slice a 0 c) ∨ (0 < n ∧ ∃ b, W.next ≤ b ∧ b < W'.next ∧ v = .slice (some ⟨b, 0, none⟩) n (BIG + 1) ∧ W'.get b = some (.cells (rowE n f)))) := by
  cases h with
  | nil h0 =>
    have main : slices_Cloneheaps_entryintheaps_entryint omS (.slice none 0 0) W = some (.slice none 0 0, W) := by
      unfold slices_Cloneheaps_entryintheaps_entryint
      simp only [SX, sNil]
    exact ⟨_, W, by rw [slices_Cloneheaps_entryintheaps_entryint_om main, gc_same], .refl _, .inl ⟨h0, _, _, rfl⟩⟩
  | row bl junk h1 h2 h3 =>
    have hc : cellsAt (W.add (.cells [])) bl = some (rowE n f ++ junk) := by rw [cellsAt_add _ h2]; exact cellsAt_of h1
    by_cases h0 : n = 0
    · subst h0
      have e := app_none (P := Try.prog) (W := W.add (.cells [])) (ts := #[104, 104]) ap104 (a := some ⟨W.next, 0, none⟩) (a2 := some ⟨bl, 0, none⟩) (l := 0) (c := 0) (c2 := BIG + 1) (by omega) (by omega) (by omega)
      have main : slices_Cloneheaps_entryintheaps_entryint omS (.slice (some ⟨bl, 0, none⟩) 0 (BIG + 1)) W = some (.slice (some ⟨W.next, 0, none⟩) 0 0, W.add (.cells [])) := by
        unfold slices_Cloneheaps_entryintheaps_entryint
        simp only [SX, sSome, bs104_0, e]
      refine ⟨_, W.add (.cells []), by rw [slices_Cloneheaps_entryintheaps_entryint_om main, gc_not rfl], (Le.refl _).add _, .inl ⟨rfl, _, _, rfl⟩⟩
    · have e := app_lit0 (P := Try.prog) (W := W.add (.cells [])) (ts := #[104, 104]) ap104 (b := bl) (o := 0) (n := n) (c := BIG + 1) (new := rowE n f) hc (by rw [List.drop_zero, Nat.mul_one, List.take_append_of_le_length (by rw [rowE_len]; omega), List.take_of_length_le (by rw [rowE_len]; omega)]) (by rw [rowE_len]; omega) (by omega) (rowE_one n f) (a := ⟨W.next, 0, none⟩) (by omega) (by omega)
      have main : slices_Cloneheaps_entryintheaps_entryint omS (.slice (some ⟨bl, 0, none⟩) n (BIG + 1)) W = some (.slice (some ⟨W.next + 1, 0, none⟩) n (BIG + 1), (W.add (.cells [])).add (.cells (rowE n f))) := by
        unfold slices_Cloneheaps_entryintheaps_entryint
        simp only [SX, sSome, bs104_0, e, AW.add_next]
      refine ⟨_, _, by rw [slices_Cloneheaps_entryintheaps_entryint_om main, gc_not rfl], ((Le.refl _).add _).add _, .inr ⟨by omega, W.next + 1, by omega, by simp only [AW.add_next]; omega, rfl, ?_⟩⟩
      have := (W.add (.cells [])).get_add (.cells (rowE n f))
      rw [AW.add_next] at this
      exact this
end Go.Proofs.Ytkpgmabebjmahaa
/- A queue's entries, sorted: what the library sorts. -/
namespace Go.Proofs.Ytkpgmabebjmahaa
open Go Go.Eng Go.Hp
set_option linter.unusedVariables false
set_option linter.unusedSimpArgs false
set_option linter.unusedSectionVars false
set_option maxRecDepth 100000
/-! ### items -/
def befP (ls : Int → Int → Bool) (a b : Int × Int) : Bool := ls a.2 b.2 || (!ls b.2 a.2 && decide (a.1 < b.1))
def itC (x : Int × Int) : List Value := [.int .i64 x.1, .int .i64 x.2]
def itAt (cs : List Value) (p : Nat) (x : Int × Int) : Prop := cs[p]? = some (.int .i64 x.1) ∧ cs[p + 1]? = some (.int .i64 x.2)
abbrev Items (W : AW) (v : Value) (l : List (Int × Int)) : Prop := Row W 2 itAt v l
theorem itC_len (x : Int × Int) : (itC x).length = 2 := rfl
theorem itC_one (x : Int × Int) : (itC x).all Eng.one = true := rfl
theorem itC_at (x : Int × Int) (pre post : List Value) : itAt (pre ++ (itC x ++ post)) pre.length x := by
  unfold itAt itC
  constructor
  · rw [List.getElem?_append_right (Nat.le_refl _), Nat.sub_self]; rfl
  · rw [List.getElem?_append_right (by omega), Nat.add_sub_cancel_left]; rfl
theorem Lst.items {lo : Nat} {W : AW} {v : Value} {l : List (Int × Int)} (h : Lst lo W 2 itC v l) : Items W v l := h.row itC_len itC_at
theorem ap58 : appOk Try.prog #[58, 58] 2 16 = true := by kernel_rfl
theorem bd65 (a b : Int) (W : AW) : oBuild Try.prog 65 [(0, .int .i64 a), (1, .int .i64 b)] W = some (.agg #[.int .i64 a, .int .i64 b], W) := Eq.trans (by kernel_rfl) rfl
theorem bs58 (a b : Int) (W : AW) : oBuildSlice Try.prog 58 1 [(0, .agg #[.int .i64 a, .int .i64 b])] W = some (.slice (some ⟨W.next, 0, none⟩) 1 1, W.add (.cells [.int .i64 a, .int .i64 b])) := Eq.trans (by kernel_rfl) rfl
theorem body102 : HasBody Try.prog 102 := ⟨_, _, Try.func102, by kernel_rfl, rfl⟩
/-- the order of the entries, as the library asks it -/
def cfE (ls : Int → Int → Bool) (f : Nat → En) (i j : Nat) : Int := if (f i).b = (f j).b then 0 else if bef ls (f i) (f j) then -1 else 1
theorem bef_trans {α : Type} {lt : α → α → Bool} (o : Ord lt) {a b c : α} (h1 : lt a b = true) (h2 : lt b c = true) : lt a c = true := by
  cases h : lt a c with
  | true => rfl
  | false =>
    have := o.neg b c a (o.asym _ _ h2) h
    rw [h1] at this; cases this
theorem cfE_lt {ls : Int → Int → Bool} (o : Ord (bef ls)) {f : Nat → En} {n : Nat} (hinj : ∀ i j, i < n → j < n → (f i).b = (f j).b → i = j) {i j : Nat} (hi : i < n) (hj : j < n) : cfE ls f i j < 0 ↔ bef ls (f i) (f j) = true := by
  unfold cfE
  by_cases h : (f i).b = (f j).b
  · obtain rfl := hinj i j hi hj h
    rw [if_pos rfl, ord_irr o]
    simp
  · rw [if_neg h]
    cases bef ls (f i) (f j) <;> simp
theorem cfE_ord {ls : Int → Int → Bool} (o : Ord (bef ls)) {f : Nat → En} {n : Nat} (hinj : ∀ i j, i < n → j < n → (f i).b = (f j).b → i = j) : OrdN n (cfE ls f) where
  irrefl i hi h := by
    rw [cfE_lt o hinj hi hi, ord_irr o] at h; cases h
  trans i j l hi hj hl h1 h2 := by
    rw [cfE_lt o hinj hi hj] at h1
    rw [cfE_lt o hinj hj hl] at h2
    rw [cfE_lt o hinj hi hl]
    exact bef_trans o h1 h2
  ntrans i j l hi hj hl h1 h2 := by
    rw [cfE_lt o hinj hi hj, Bool.not_eq_true] at h1
    rw [cfE_lt o hinj hj hl, Bool.not_eq_true] at h2
    rw [cfE_lt o hinj hi hl, Bool.not_eq_true]
    exact o.neg _ _ _ h2 h1
theorem flat1 (l : List En) : (l.map fun e => [enP e]).flatten = l.map enP := by
  induction l with
  | nil => rfl
  | cons a l ih => rw [List.map_cons, List.flatten_cons, ih]; rfl
theorem rowE_all (n : Nat) (f : Nat → En) : rowE n f = (all n f).map enP := by
  unfold rowE all
  rw [List.map_map]; rfl
section
variable {q : Nat} {lv less c2 c3 : Value} {n : Nat} {f : Nat → En} {bl : Option Nat} {ls : Int → Int → Bool}
/-- the entries of a copy are sorted -/
theorem sortE_ok (o : Ord (bef ls)) (hl : IsLess1 less ls) (hlz : ∀ D, liesD D less) {V : AW} (h : QP V q lv less c2 c3 n f bl) (hn : n ≤ 10000) (h0 : 0 < n) {b X : Nat} (hb : V.get b = some (.cells (rowE n f))) (hbl : b < V.next) (hbq : b ≠ q) (hbb : bl ≠ some b) (hbe : ∀ i, i < n → (f i).b ≠ b) (hX : V.get X = some (.cells [.pointer (some ⟨q, 0, none⟩)])) (hXl : X < V.next) (hXb : X ≠ b) :
    ∃ es : List En, es.Perm (all n f) ∧ es.Pairwise (fun x y => bef ls y x = false) ∧ omS (.func (.func 101) #[] #[]) [.slice (some ⟨b, 0, none⟩) n (BIG + 1), .func (.func 102) #[] #[.pointer (some ⟨X, 0, none⟩)]] V = some (.tuple #[], V.put b (.cells (es.map enP))) := by
  obtain ⟨hqc, hql, ⟨hsl, hen, hinj⟩, hbq', heq⟩ := h
  have hlen : (all n f).length = n := all_len n f
  have hget : ∀ i (hi : i < (all n f).length), (all n f)[i] = f i := fun i hi => by simp [all]
  obtain ⟨es, e1, e2, e3⟩ := sortR_of (all n f) (fun e => [enP e]) (bef ls) (cf := cfE ls f) (by rw [hlen]; exact cfE_ord o hinj) (by omega) fun i j hi hj => by
    rw [hget, hget]
    exact cfE_lt o hinj (by omega) (by omega)
  refine ⟨es, e1, e2, ?_⟩
  -- what the view holds
  have vQ : ∃ r, cellsAt (roV V b) q = some ([lv, less] ++ r) := by
    obtain ⟨r, hr⟩ := roV_has (W := V) (b0 := b) (x := q) (cs := [lv, less]) (rest := [c2, c3]) (.inl hqc) hql (Ne.symm hbq) fun v hv => by
      rcases List.mem_cons.1 hv with rfl | hv
      · cases hsl with
        | nil h0 => exact liesD_snil
        | row bl junk h1 h2 h3 => exact liesD_slice ⟨fun e => hbb (congrArg some e), _, .inl h1⟩
      · obtain rfl := List.mem_singleton.1 hv
        exact hlz _
    exact ⟨r, by unfold cellsAt; rw [hr]⟩
  obtain ⟨rq, vQ⟩ := vQ
  have vX : ∃ r, cellsAt (roV V b) X = some ([.pointer (some ⟨q, 0, none⟩)] ++ r) := by
    obtain ⟨r, hr⟩ := roV_has (W := V) (b0 := b) (x := X) (cs := [.pointer (some ⟨q, 0, none⟩)]) (rest := []) (.inl hX) hXl hXb fun v hv => by
      obtain rfl := List.mem_singleton.1 hv
      exact liesD_ptr ⟨Ne.symm hbq, _, .inl hqc⟩
    exact ⟨r, by unfold cellsAt; rw [hr]⟩
  obtain ⟨rX, vX⟩ := vX
  have vE : ∀ i, i < n → ∃ r, cellsAt (roV V b) (f i).b = some (.int .i64 (f i).h :: .int .i64 (f i).v :: r) := fun i hi => by
    obtain ⟨r, hr⟩ := roV_has (W := V) (b0 := b) (x := (f i).b) (cs := enC (f i) i) (rest := []) (.inl (by rw [List.append_nil]; exact (hen i hi).1)) (hen i hi).2 (hbe i hi) fun v hv => liesD_plain (by
      simp only [enC, List.mem_cons, List.not_mem_nil, or_false] at hv
      rcases hv with rfl | rfl | rfl <;> rfl)
    exact ⟨.int .i64 (i : Int) :: r, by unfold cellsAt; rw [hr]; rfl⟩
  have key : SortFA Try.prog (ansPtr om1 102 103) [] false 1 V [.slice (some ⟨b, 0, none⟩) n (BIG + 1), .func (.func 102) #[] #[.pointer (some ⟨X, 0, none⟩)]] (V.put b (.cells (es.map enP))) := by
    refine .inr ⟨b, BIG + 1, (all n f).map fun e => [enP e], [], 102, #[.pointer (some ⟨X, 0, none⟩)], cfE ls f, ⟨?_, ?_, ?_, ?_, ?_, ?_, ?_, ?_, ?_, body102, ?_, ?_, ?_⟩⟩
    · intro h
      have := congrArg List.length h
      rw [List.length_map, hlen] at this
      simp at this; omega
    · rw [List.length_map, hlen]; omega
    · intro r hr
      obtain ⟨e, -, rfl⟩ := List.mem_map.1 hr
      rfl
    · intro r hr v hv
      obtain ⟨e, -, rfl⟩ := List.mem_map.1 hr
      obtain rfl := List.mem_singleton.1 hv
      rfl
    · rw [List.length_map, hlen]
    · rw [flat1, List.append_nil, ← rowE_all]; exact hb
    · intro r hr v hv
      obtain ⟨e, he, rfl⟩ := List.mem_map.1 hr
      obtain rfl := List.mem_singleton.1 hv
      obtain ⟨i, hi, rfl⟩ := all_mem.1 he
      exact liesD_ptr ⟨hbe i hi, _, .inl (hen i hi).1⟩
    · intro v hv
      obtain rfl : v = .pointer (some ⟨X, 0, none⟩) := by simpa using hv
      exact liesD_ptr ⟨hXb, _, .inl hX⟩
    · intro g hg; cases hg
    · intro i j hi hj
      rw [List.length_map] at hi hj
      rw [List.getElem_map, List.getElem_map, hget, hget]
      rw [hlen] at hi hj
      obtain ⟨ri, hri⟩ := vE i hi
      obtain ⟨rj, hrj⟩ := vE j hj
      have hbo := pBefore1_ok (rq := rq) hl vQ hri hrj
      show ansPtr om1 102 103 V b 102 #[.pointer (some ⟨X, 0, none⟩)] (enP (f i)) (enP (f j)) = _
      unfold ansPtr cfE
      simp only [if_true, enP]
      rw [show (cellsAt (roV V b) X).bind (fun x => x[0]?) = some (.pointer (some ⟨q, 0, none⟩)) by rw [vX]; rfl]
      simp only
      by_cases hij : (f i).b = (f j).b
      · rw [if_pos (by rw [hij]), if_pos hij]
      · rw [if_neg (fun e => hij (by injection e)), if_neg hij, (hen i hi).1, (hen j hj).1]
        simp only
        rw [if_pos ⟨hij, by simp, by simp⟩]
        have hbo' : om1 (.func (.func 103) #[] #[]) [.pointer (some ⟨q, 0, none⟩), .pointer (some ⟨(f i).b, 0, none⟩), .pointer (some ⟨(f j).b, 0, none⟩)] (roV V b) = some (.bool (bef ls (f i) (f j)), roV V b) := hbo
        rw [hbo']
    · rw [List.length_map, hlen]; exact cfE_ord o hinj
    · rw [e3, flat1, List.append_nil]
  exact sort101_ok key
end
end Go.Proofs.Ytkpgmabebjmahaa
/- A queue's entries, sorted; Save. -/
namespace Go.Proofs.Ytkpgmabebjmahaa
open Go Go.Eng Go.Hp
set_option linter.unusedVariables false
set_option linter.unusedSimpArgs false
set_option linter.unusedSectionVars false
set_option maxRecDepth 100000
theorem len104 : ((#[104] : Array TypeId)[0]?).bind Try.prog.underlying = some (.slice 127) := by kernel_rfl
theorem Lst.low {α : Type} {lo lo' z : Nat} {W : AW} {f : α → List Value} {v : Value} {l : List α} (h : Lst lo W z f v l) (hl : lo' ≤ lo) : Lst lo' W z f v l := by
  rcases h with h | ⟨h0, B, h1, h2⟩
  · exact .inl h
  · exact .inr ⟨h0, B, by omega, h2⟩
theorem om_lst {α : Type} {o t : Option (Value × AW)} {W : AW} {lo z : Nat} {f : α → List Value} {l : List α} (h : Ok t fun r => Le W r.2 ∧ Lst lo r.2 z f r.1 l) (hom : ∀ {r}, t = some r → o = some (gc W r)) : ∃ v W2, o = some (v, W2) ∧ Le W W2 ∧ Lst lo W2 z f v l := by
  obtain ⟨⟨v, W'⟩, h1, h2, h3⟩ := h
  rcases h3 with ⟨rfl, rfl⟩ | ⟨h0, B, h4, h5, rfl, h6⟩
  · rcases gc_two (W := W) (W' := W') (.slice none 0 0) with hg | ⟨hg, hle⟩
    · exact ⟨_, W', by rw [hom h1]; exact congrArg some hg, h2, .nil _ _ _ _⟩
    · exact ⟨_, W, by rw [hom h1]; exact congrArg some hg, .refl _, .nil _ _ _ _⟩
  · exact ⟨_, W', by rw [hom h1, gc_not rfl], h2, .inr ⟨h0, B, h4, h5, rfl, h6⟩⟩
/-- sorted items of a queue -/
structure Srt (ls : Int → Int → Bool) (n : Nat) (f : Nat → En) (l : List (Int × Int)) : Prop where
  perm : l.Perm ((all n f).map hv)
  sort : l.Pairwise fun a b => befP ls b a = false
section
variable {W : AW} {In : Nat → Prop} {q mh : Nat} {less : Value} {ls : Int → Int → Bool} {nx : Int} {n : Nat} {f : Nat → En}
theorem sorted_ok (o : Ord (bef ls)) (hl : IsLess1 less ls) (hlz : ∀ D, liesD D less) (h : QS W In q mh less ls nx n f) (hn : n ≤ 10000) :
    ∃ W' v l, omS (.func (.func 67) #[] #[]) [qV q] W = some (v, W') ∧ Le W W' ∧ Lst W.next W' 2 itC v l ∧ Srt ls n f l := by
  have main : ∃ l, Srt ls n f l ∧ Ok (heaps_Queueint_sorted omS (qV q) W) fun r => Le W r.2 ∧ Lst W.next r.2 2 itC r.1 l := by
    obtain ⟨⟨lv, bl, h1, h2, h3⟩, -⟩ := h
    have oBoxP : ∀ W, oBox (qV q) W = some (.pointer (some ⟨W.next, 0, none⟩), W.add (.cells [qV q])) := fun W => rfl
    generalize hW1 : W.add (.cells [qV q]) = W1
    have g1 : ∀ b, b < W.next → W1.get b = W.get b := fun b hb => by rw [← hW1]; exact AW.get_add_ne _ _ (by omega)
    have n1 : W1.next = W.next + 1 := by rw [← hW1, AW.add_next]
    have l1 : Le W W1 := by rw [← hW1]; exact (Le.refl _).add _
    have x1 : W1.get W.next = some (.cells [qV q]) := by rw [← hW1]; exact AW.get_add _ _
    have q1 : QP W1 q lv less (.map (some mh)) (.int .i64 nx) n f bl := h1.keep (by omega) fun b hb _ => g1 b hb
    obtain ⟨v1, W2, c1, c2, c3⟩ := clone_ok q1.pile.sl hn
    have q2 : QP W2 q lv less (.map (some mh)) (.int .i64 nx) n f bl := q1.keep c2.next fun b hb _ => c2.get b hb
    have x2 : W2.get W.next = some (.cells [qV q]) := (c2.get _ (by omega)).trans x1
    have hbn : ∀ b, bl = some b → b < W1.next := fun b hb => q1.pile.sl.lt hb
    -- the sort
    have hs : ∃ (es : List En) (W3 : AW), es.Perm (all n f) ∧ es.Pairwise (fun x y => bef ls y x = false) ∧ omS (.func (.func 101) #[] #[]) [v1, .func (.func 102) #[] #[.pointer (some ⟨W.next, 0, none⟩)]] W2 = some (.tuple #[], W3) ∧ W3.next = W2.next ∧ (∀ b, b < W1.next → W3.get b = W2.get b) ∧
        (∀ W', oBuiltin Try.prog .len #[104] 3 #[false] [v1] W' = some (.int .i64 (n : Int), W')) ∧ ∀ i (hi : i < es.length), ∃ b, (∀ W' k, ixS 1 v1 (.int k (i : Int)) W' = some (.pointer (some ⟨b, i, none⟩), W')) ∧ ∀ W', Le W3 W' → ldC (.pointer (some ⟨b, i, none⟩)) W' = some (enP es[i], W') := by
      rcases c3 with ⟨rfl, a, c, rfl⟩ | ⟨h0, b, b1, b2, rfl, b3⟩
      · refine ⟨[], W2, .refl _, .nil, sort101_ok (.inl ⟨a, c, _, rfl, rfl⟩), rfl, fun _ _ => rfl, fun W' => len_slice len104 _ _ _, fun i hi => by simp at hi⟩
      · obtain ⟨es, e1, e2, e3⟩ := sortE_ok o hl hlz q2 hn h0 b3 b2 (by have := q1.lt; omega) (fun e => by have := hbn b e; omega) (fun i hi e => by have := (q1.pile.en i hi).2; omega) x2 (by have := c2.next; omega) (by omega)
        have hlen : es.length = n := by rw [e1.length_eq, all_len]
        refine ⟨es, _, e1, e2, e3, by rw [AW.put_next], fun d hd => AW.get_put_ne _ _ (by omega), fun W' => len_slice len104 _ _ _, fun i hi => ⟨b, fun W' k => by rw [ixS_ok (by omega), Nat.zero_add, Nat.mul_one], fun W' hle => ldR (rwOf (cs := es.map enP) ?_) ?_⟩⟩
        · rw [hle.get b (by rw [AW.put_next]; exact b2)]
          exact AW.get_put _ _ _
        · rw [List.getElem?_map, List.getElem?_eq_getElem hi]; rfl
    obtain ⟨es, W3, e1, e2, e3, n3, g3, e4, e5⟩ := hs
    have hlen : es.length = n := by rw [e1.length_eq, all_len]
    have l3 : Le W1 W3 := ⟨by rw [n3]; exact c2.next, fun b hb => by rw [g3 b hb]; exact c2.get b hb⟩
    have hcell : ∀ i (hi : i < es.length) W', Le W3 W' → ldC (.pointer (some ⟨es[i].b, 0, none⟩)) W' = some (.int .i64 es[i].h, W') ∧ ldC (.pointer (some ⟨es[i].b, 1, none⟩)) W' = some (.int .i64 es[i].v, W') := fun i hi W' hle => by
      obtain ⟨k, hk, e⟩ := all_mem.1 (e1.mem_iff.1 (List.getElem_mem hi))
      have hc : W'.get (f k).b = some (.cells (enC (f k) k)) := by
        have := q1.pile.en k hk
        rw [hle.get _ (Nat.lt_of_lt_of_le this.2 l3.next), l3.get _ this.2]
        exact this.1
      rw [← e]
      exact ⟨ldR (rwOf hc) rfl, ldR (rwOf hc) rfl⟩
    refine ⟨es.map hv, ⟨e1.map hv, by rw [List.pairwise_map]; exact e2⟩, ?_⟩
    unfold heaps_Queueint_sorted
    simp only [SX, oBoxP, hW1, ldR (o := 0) (rwOf x1) rfl, oNilCheck_ptr, Nat.zero_add, q1.l0, c1, e3, e4]
    refine Ok_loop n (by omega) (fun k R W' => ∃ out, R 16 = v1 ∧ R 17 = .int .i64 (n : Int) ∧ R 18 = .int .i64 (k : Int) ∧ R 4 = out ∧ Le W3 W' ∧ Lst W3.next W' 2 itC out ((es.take k).map hv))
      (fun r => r.1 = .exit 0 ∧ ∃ out, r.2.1 4 = out ∧ Le W3 r.2.2 ∧ Lst W.next r.2.2 2 itC out (es.map hv)) ⟨_, rfl, rfl, rfl, rfl, .refl _, .nil _ _ _ _⟩ ?_ ?_ ?_
    · rintro k R W' hk ⟨out, r16, r17, r18, r4, hle, hL⟩
      unfold heaps_Queueint_sorted_L1
      have hke : k < es.length := by omega
      obtain ⟨b, f1, f2⟩ := e5 k hke
      obtain ⟨d1, d2⟩ := hcell k hke W' hle
      have t1 : ((k : Int) < (n : Int)) := by omega
      have t2 := fun W' => oBin_add (P := Try.prog) (W := W') (t := 3) (c := false) (d := true) (a := (k : Int)) (b := 1) (by omega) (by omega)
      have hlt : ((es.take k).map hv).length = k := by rw [List.length_map, List.length_take]; omega
      obtain ⟨v', W4, p1, p2, p3, p4⟩ := (hL.mono ((Le.refl W').add (.cells (itC (hv es[k]))))).push (a := hv es[k]) (b := W'.next) (c := 1) ap58 itC_len itC_one cellsAt_new (by rw [hlt]; omega) (by rw [hlt]; omega) (by rw [AW.add_next]; have := hle.next; omega)
      simp only [SX, r16, r17, r18, r4, t1, f1, f2 W' hle, oNilCheck_ptr, Nat.zero_add, d1, d2, bd65, bs58]
      have p1' : aAppend Try.prog (W'.add (.cells [.int .i64 es[k].h, .int .i64 es[k].v])) #[58, 58] out (.slice (some ⟨W'.next, 0, none⟩) 1 1) = some (v', W4) := p1
      simp only [SX, p1', t2, Ok_some]
      refine .inl ⟨trivial, v', r16, r17, by rw [show ((k + 1 : Nat) : Int) = (k : Int) + 1 by omega]; rfl, rfl, p4 _ (hle.add _) (Nat.le_refl _), ?_⟩
      rw [List.take_succ_eq_append_getElem hke, List.map_append]
      exact p2
    · rintro R W' ⟨out, r16, r17, r18, r4, hle, hL⟩
      unfold heaps_Queueint_sorted_L1
      have t1 : ¬ ((n : Int) < (n : Int)) := by omega
      simp only [SX, r16, r17, r18, t1, Ok_some]
      rw [List.take_of_length_le (by omega)] at hL
      exact ⟨by simp, trivial, out, r4, hle, Lst.low hL (by have := l3.next; omega)⟩
    · rintro ⟨x, R, W'⟩ ⟨hx, out, r4, hle, hL⟩
      simp only at hx r4 hle hL
      subst hx
      simp only [SX, r4, Ok_some]
      exact ⟨(l1.trans l3).trans hle, hL⟩
  obtain ⟨l, hs, main⟩ := main
  obtain ⟨v, W2, k1, k2, k3⟩ := om_lst main heaps_Queueint_sorted_om
  exact ⟨W2, v, l, k1, k2, k3, hs⟩
end
end Go.Proofs.Ytkpgmabebjmahaa
/- A queue: Save, All. -/
namespace Go.Proofs.Ytkpgmabebjmahaa
open Go Go.Eng Go.Hp
set_option linter.unusedVariables false
set_option linter.unusedSimpArgs false
set_option linter.unusedSectionVars false
set_option maxRecDepth 100000
theorem al65 (W : AW) : oAlloc Try.prog 65 W = some (.pointer (some ⟨W.next, 0, none⟩), W.add (.cells [.int .i64 0, .int .i64 0])) := Eq.trans (by kernel_rfl) rfl
theorem len58 : ((#[58] : Array TypeId)[0]?).bind Try.prog.underlying = some (.slice 65) := by kernel_rfl
section
variable {W : AW} {In : Nat → Prop} {q mh : Nat} {less : Value} {ls : Int → Int → Bool} {nx : Int} {n : Nat} {f : Nat → En}
/-! ### All -/
theorem all_fn (W : AW) (q : Nat) : omS (.func (.func 23) #[] #[]) [qV q] W = some (.func (.func 66) #[] #[.pointer (some ⟨W.next, 0, none⟩)], W.add (.cells [qV q])) := by
  have oBoxP : ∀ W, oBox (qV q) W = some (.pointer (some ⟨W.next, 0, none⟩), W.add (.cells [qV q])) := fun W => rfl
  have : heaps_Queueint_All omS (qV q) W = some (.func (.func 66) #[] #[.pointer (some ⟨W.next, 0, none⟩)], W.add (.cells [qV q])) := by
    unfold heaps_Queueint_All
    simp only [SX, oBoxP]
  rw [heaps_Queueint_All_om this, gc_not rfl]
theorem all1_ok (o : Ord (bef ls)) (hl : IsLess1 less ls) (hlz : ∀ D, liesD D less) (h : QS W In q mh less ls nx n f) (hn : n ≤ 10000) {X : Nat} (hX : W.get X = some (.cells [qV q])) {y : Value} :
    ∃ l W1, Srt ls n f l ∧ Le W W1 ∧ ∀ (J : List (Int × Int) → AW → Prop) (D : AW → Prop), J [] W1 → (∀ pre W', J pre W' → W1.next ≤ W'.next ∧ ∀ b, W.next ≤ b → b < W1.next → W'.get b = W1.get b) →
      (∀ pre x W' cs, pre ++ [x] <+: l → J pre W' → ∃ r W2, omS y [.int .i64 x.1, .int .i64 x.2] (W'.add (.cells cs)) = some (.bool r, W2) ∧ (r = true → J (pre ++ [x]) W2) ∧ (r = false → D W2)) →
      ∃ W', omS (.func (.func 66) #[] #[.pointer (some ⟨X, 0, none⟩)]) [y] W = some (.tuple #[], W') ∧ (J l W' ∨ D W') := by
  have hm := made_ok h
  obtain ⟨W1, v, l, s1, s2, s3, s4⟩ := sorted_ok o hl hlz h hn
  refine ⟨l, W1, s4, s2, fun J D h0 hk step => ?_⟩
  have main : Ok (heaps_Queueint_All_1 omS y (.pointer (some ⟨X, 0, none⟩)) W) fun r => r.1 = .tuple #[] ∧ (J l r.2 ∨ D r.2) := by
    have hlen := (Lst.items s3).len len58
    have hget : ∀ i (hi : i < l.length) W', (W1.next ≤ W'.next ∧ ∀ b, W.next ≤ b → b < W1.next → W'.get b = W1.get b) → ∃ p, (∀ W2 kk, ixS 2 v (.int kk (i : Int)) W2 = some (p, W2)) ∧ ldA 2 p W' = some (.agg #[.int .i64 l[i].1, .int .i64 l[i].2], W') := by
      intro i hi W' ⟨hn', hg'⟩
      rcases s3 with ⟨h0, e⟩ | ⟨h0, B, b1, b2, e, b3⟩
      · subst h0; simp at hi
      · subst e
        refine ⟨.pointer (some ⟨B, i * 2, none⟩), fun W2 kk => by rw [ixS_ok hi, Nat.zero_add], ?_⟩
        have hc : cellsAt W' B = some (l.flatMap itC) := cellsAt_of ((hg' B b1 b2).trans b3)
        have e : l.flatMap itC = (l.take i).flatMap itC ++ (itC l[i] ++ (l.drop (i + 1)).flatMap itC) := by
          rw [← List.flatMap_cons, ← List.drop_eq_getElem_cons hi, ← List.flatMap_append, List.take_append_drop]
        have e2 : ((l.take i).flatMap itC).length = i * 2 := by rw [flatMap_len itC_len, List.length_take, Nat.min_eq_left (by omega)]
        have e3 : ((l.flatMap itC).drop (i * 2)).take 2 = [.int .i64 l[i].1, .int .i64 l[i].2] := by
          rw [e, ← e2, List.drop_left]
          rfl
        have := ldA_ok (n := 2) (o := i * 2) hc (by rw [e3]; rfl)
        rw [e3] at this
        exact this
    have hl' : l.length ≤ 10000 := by rw [s4.perm.length_eq, List.length_map, all_len]; exact hn
    unfold heaps_Queueint_All_1
    simp only [SX, ldR (o := 0) (rwOf hX) rfl, hm, s1, hlen]
    refine Ok_loop l.length (by omega) (fun k R W' => R 0 = y ∧ R 9 = v ∧ R 10 = .int .i64 (l.length : Int) ∧ R 11 = .int .i64 (k : Int) ∧ J (l.take k) W')
      (fun r => (r.1 = .exit 0 ∧ J l r.2.2) ∨ (r.1 = .ret ∧ D r.2.2)) ⟨rfl, rfl, rfl, rfl, by rw [List.take_zero]; exact h0⟩ ?_ ?_ ?_
    · rintro k R W' hk' ⟨r0, r9, r10, r11, hJ⟩
      unfold heaps_Queueint_All_1_L1
      obtain ⟨p, f1, f2⟩ := hget k hk' W' (hk _ _ hJ)
      have t1 : ((k : Int) < (l.length : Int)) := by omega
      have t2 := fun W' => oBin_add (P := Try.prog) (W := W') (t := 3) (c := false) (d := true) (a := (k : Int)) (b := 1) (by omega) (by omega)
      have e2 : setN [Value.int .i64 0, .int .i64 0] 0 [.int .i64 l[k].1, .int .i64 l[k].2] = [.int .i64 l[k].1, .int .i64 l[k].2] := rfl
      have st : stV 2 (.pointer (some ⟨W'.next, 0, none⟩)) (.agg #[.int .i64 l[k].1, .int .i64 l[k].2]) (W'.add (.cells [.int .i64 0, .int .i64 0])) = some (undef, W'.add (.cells [.int .i64 l[k].1, .int .i64 l[k].2])) := by
        rw [stV_agg, rwCells_new, Option.bind_some, if_pos ⟨rfl, by simp, rfl⟩, add_put]
        rfl
      have a1 : ldC (.pointer (some ⟨W'.next, 0, none⟩)) (W'.add (.cells [.int .i64 l[k].1, .int .i64 l[k].2])) = some (.int .i64 l[k].1, W'.add (.cells [.int .i64 l[k].1, .int .i64 l[k].2])) := ldR rwCells_new rfl
      have a2 : ldC (.pointer (some ⟨W'.next, 1, none⟩)) (W'.add (.cells [.int .i64 l[k].1, .int .i64 l[k].2])) = some (.int .i64 l[k].2, W'.add (.cells [.int .i64 l[k].1, .int .i64 l[k].2])) := ldR rwCells_new rfl
      have hpre : l.take k ++ [l[k]] <+: l := by rw [← List.take_succ_eq_append_getElem hk']; exact List.take_prefix _ _
      obtain ⟨r, W2, y1, y2, y3⟩ := step _ _ _ [.int .i64 l[k].1, .int .i64 l[k].2] hpre hJ
      cases r
      · simp only [SX, r0, r9, r10, r11, t1, f1, f2, al65, st, Nat.zero_add, a1, a2, y1, Ok_some]
        exact .inr ⟨by simp, .inr ⟨trivial, y3 rfl⟩⟩
      · simp only [SX, r0, r9, r10, r11, t1, f1, f2, al65, st, Nat.zero_add, a1, a2, y1, t2, Ok_some]
        refine .inl ⟨trivial, r0, r9, r10, by rw [show ((k + 1 : Nat) : Int) = (k : Int) + 1 by omega]; rfl, ?_⟩
        rw [List.take_succ_eq_append_getElem hk']
        exact y2 rfl
    · rintro R W' ⟨r0, r9, r10, r11, hJ⟩
      unfold heaps_Queueint_All_1_L1
      have t1 : ¬ ((l.length : Int) < (l.length : Int)) := by omega
      simp only [SX, r0, r9, r10, r11, t1, Ok_some]
      rw [List.take_length] at hJ
      exact ⟨by simp, .inl ⟨trivial, hJ⟩⟩
    · rintro ⟨x, R, W'⟩ hq
      simp only at hq
      rcases hq with ⟨rfl, hq⟩ | ⟨rfl, hq⟩
      · simp only [SX, Ok_some]
        exact ⟨trivial, .inl hq⟩
      · simp only [SX, Ok_some]
        exact ⟨trivial, .inr hq⟩
  obtain ⟨⟨r, W'⟩, k1, k2, k3⟩ := main
  simp only at k2 k3
  subst k2
  exact ⟨W', by rw [heaps_Queueint_All_1_om k1, gc_not rfl], k3⟩
end
end Go.Proofs.Ytkpgmabebjmahaa
/- What ranges over a queue; walked, Same. -/
namespace Go.Proofs.Ytkpgmabebjmahaa
open Go Go.Eng Go.Hp
set_option linter.unusedVariables false
set_option linter.unusedSimpArgs false
set_option linter.unusedSectionVars false
set_option maxRecDepth 100000
section
variable {W : AW} {In : Nat → Prop} {q mh : Nat} {less : Value} {ls : Int → Int → Bool} {nx : Int} {n : Nat} {f : Nat → En}
theorem Ok_all {X nt : Nat} {R : Nat → Value} {ps : Array Tmp} {ac bd : Code} {ρ : Type} {K : Eng.X × AW → Option ρ} {G : ρ → Prop} (o : Ord (bef ls)) (hl : IsLess1 less ls) (hlz : ∀ D, liesD D less) (h : QS W In q mh less ls nx n f) (hn : n ≤ 10000) (hX : W.get X = some (.cells [qV q])) (hXl : X < W.next) (hp : ps.size = 2)
    (J : List (Int × Int) → Nat → List (Int × Int) → AW → Prop) (Q : Eng.X → AW → Prop)
    (fr : (Nat → Value) → Int × Int → Nat → Value) (has : ∀ x W', kCode Try.prog omS false nt ac LT (zipGo ps.toList [.int .i64 x.1, .int .i64 x.2] R) W' ret3 = some (.normal, fr R x, W'))
    (h0 : ∀ l W1, Srt ls n f l → Le (W.add (.loop .ready none R nt ps ac bd)) W1 → J l W1.next [] W1)
    (hA : ∀ l N pre W' cs, J l N pre W' → W.next < N → N ≤ W'.next → J l N pre (W'.add (.cells cs)))
    (hP : ∀ l N pre W' b, J l N pre W' → J l N pre (W'.put W.next b)) (hQ : ∀ x W' b, Q x W' → Q x (W'.put W.next b))
    (step : ∀ l N pre x W' R', R' = fr R x → Srt ls n f l → pre ++ [x] <+: l → J l N pre W' → W.next < N → N ≤ W'.next →
      Ok (kCode Try.prog omS false nt bd LT R' W' ret3) fun r => W'.next ≤ r.2.2.next ∧ (∀ b, W.next ≤ b → b < N → r.2.2.get b = W'.get b) ∧ ((r.1 = .normal ∧ J l N (pre ++ [x]) r.2.2) ∨ (r.1 ≠ .normal ∧ Q r.1 r.2.2)))
    (after : ∀ l N x W2, Srt ls n f l → (x = .normal ∧ J l N l W2) ∨ (x ≠ .normal ∧ Q x W2) → Ok (K (x, W2.kill W.next)) G) :
    Ok (bnd (oRange omS (.func (.func 66) #[] #[.pointer (some ⟨X, 0, none⟩)]) (.loop .ready none R nt ps ac bd) W) K) G := by
  generalize hWl : W.add (.loop .ready none R nt ps ac bd) = Wl at *
  have gl : ∀ b, b < W.next → Wl.get b = W.get b := fun b hb => by rw [← hWl]; exact AW.get_add_ne _ _ (by omega)
  have nl : Wl.next = W.next + 1 := by rw [← hWl, AW.add_next]
  have ll : Wl.get W.next = some (.loop .ready none R nt ps ac bd) := by rw [← hWl]; exact AW.get_add _ _
  have hL : QS Wl In q mh less ls nx n f := h.keep (by omega) (fun b hb _ => gl b hb) (fun b _ hi => hi)
  obtain ⟨l, W1, s1, s2, s3⟩ := all1_ok o hl hlz hL hn ((gl X hXl).trans hX) (y := .func (.yield W.next) #[] #[])
  have n1 : W.next < W1.next := by have := s2.next; omega
  obtain ⟨W2, k1, k2⟩ := s3
    (fun pre V => J l W1.next pre V ∧ V.get W.next = some (.loop .ready none R nt ps ac bd) ∧ W1.next ≤ V.next ∧ ∀ b, Wl.next ≤ b → b < W1.next → V.get b = W1.get b)
    (fun V => ∃ x, x ≠ .normal ∧ Q x V ∧ V.get W.next = some (.loop .done x.jump R nt ps ac bd))
    ⟨h0 l W1 s1 s2, (s2.get _ (by omega)).trans ll, Nat.le_refl _, fun b _ _ => rfl⟩ (fun pre V hV => hV.2.2)
    (fun pre x V cs hpre ⟨hJ, hget, hn1, hg⟩ => by
      have hJ2 := hP _ _ _ _ (.loop .busy none R nt ps ac bd) (hA _ _ _ _ cs hJ n1 hn1)
      obtain ⟨⟨x1, R2, W3⟩, e1, e2, e3, e4⟩ := step l W1.next pre x _ _ rfl s1 hpre hJ2 n1 (by rw [AW.put_next, AW.add_next]; omega)
      simp only at e1 e2 e3 e4
      have hbusy : W3.get W.next = some (.loop .busy none R nt ps ac bd) := by rw [e3 _ (Nat.le_refl _) n1, AW.get_put]
      have hget1 : (V.add (.cells cs)).get W.next = some (.loop .ready none R nt ps ac bd) := by rw [AW.get_add_ne _ _ (by omega)]; exact hget
      have hy := yield_gen (P := Try.prog) (args := [.int .i64 x.1, .int .i64 x.2]) hget1 (by rw [hp]; rfl) (has x _) hget1 e1 hbusy
      have hn3 : W1.next ≤ W3.next := by rw [AW.put_next, AW.add_next] at e2; omega
      have hg3 : ∀ o' b, Wl.next ≤ b → b < W1.next → (W3.put W.next o').get b = W1.get b := fun o' b hb1 hb2 => by
        rw [AW.get_put_ne _ _ (by omega), e3 b (by omega) hb2, AW.get_put_ne _ _ (by omega), AW.get_add_ne _ _ (by omega)]
        exact hg b hb1 hb2
      rcases e4 with ⟨rfl, e4⟩ | ⟨kx, e4⟩
      · exact ⟨true, _, hy, fun _ => ⟨hP _ _ _ _ _ e4, AW.get_put _ _ _, by rw [AW.put_next]; exact hn3, hg3 _⟩, fun h => by cases h⟩
      · refine ⟨false, W3.put W.next (.loop .done x1.jump R nt ps ac bd), ?_, fun h => by (cases h), fun _ => ⟨x1, kx, hQ _ _ _ e4, AW.get_put _ _ _⟩⟩
        refine hy.trans ?_
        cases x1 with
        | normal => exact absurd rfl kx
        | exit i => rfl
        | ret => rfl)
  rcases k2 with ⟨k2, k3, -⟩ | ⟨x, k2, k3, k4⟩
  · rw [range_normal (by rw [hWl]; exact k1) k3 (by simp), bnd_some]
    exact after l _ _ W2 s1 (.inl ⟨rfl, k2⟩)
  · rw [range_jump (by rw [hWl]; exact k1) k4, bnd_some]
    exact after l W1.next _ W2 s1 (.inr ⟨k2, k3⟩)
end
end Go.Proofs.Ytkpgmabebjmahaa
/- walked, Same. -/
namespace Go.Proofs.Ytkpgmabebjmahaa
open Go Go.Eng Go.Hp
set_option linter.unusedVariables false
set_option linter.unusedSimpArgs false
set_option linter.unusedSectionVars false
set_option maxRecDepth 100000
theorem hv_len {ls : Int → Int → Bool} {n : Nat} {f : Nat → En} {l : List (Int × Int)} (h : Srt ls n f l) : l.length = n := by rw [h.perm.length_eq, List.length_map, all_len]
section
variable {W : AW} {In : Nat → Prop} {q mh : Nat} {less : Value} {ls : Int → Int → Bool} {nx : Int} {n : Nat} {f : Nat → En}
end
end Go.Proofs.Ytkpgmabebjmahaa
/- What is sorted is one; Same. -/
namespace Go.Proofs.Ytkpgmabebjmahaa
open Go Go.Eng Go.Hp
set_option linter.unusedVariables false
set_option linter.unusedSimpArgs false
set_option linter.unusedSectionVars false
set_option maxRecDepth 100000
/-- what is sorted, its handles different, is one list -/
theorem sort_uniq {ls : Int → Int → Bool} : ∀ {l l' : List (Int × Int)}, l.Perm l' → l.Pairwise (fun a b => befP ls b a = false) → l'.Pairwise (fun a b => befP ls b a = false) → (∀ a ∈ l, ∀ b ∈ l, a.1 = b.1 → a = b) → l = l'
  | [], l', hp, _, _, _ => (List.nil_perm.1 hp).symm
  | a :: l, [], hp, _, _, _ => absurd hp.length_eq (by simp)
  | a :: l, b :: l', hp, h1, h2, hd => by
    have hab : a = b := by
      by_cases e : a = b
      · exact e
      · exfalso
        have ha : a ∈ l' := by
          rcases List.mem_cons.1 (hp.mem_iff.1 (List.mem_cons_self ..)) with h | h
          · exact absurd h e
          · exact h
        have hb : b ∈ l := by
          rcases List.mem_cons.1 (hp.mem_iff.2 (List.mem_cons_self ..)) with h | h
          · exact absurd h.symm e
          · exact h
        have x1 := List.rel_of_pairwise_cons h1 hb
        have x2 := List.rel_of_pairwise_cons h2 ha
        have x3 : a.1 ≠ b.1 := fun h => e (hd a (List.mem_cons_self ..) b (List.mem_cons_of_mem _ hb) h)
        unfold befP at x1 x2
        simp only [Bool.or_eq_false_iff, Bool.and_eq_false_imp, Bool.not_eq_true', decide_eq_false_iff_not] at x1 x2
        have y1 := x1.2 x2.1
        have y2 := x2.2 x1.1
        omega
    subst hab
    rw [sort_uniq (List.Perm.cons_inv hp) (List.Pairwise.of_cons h1) (List.Pairwise.of_cons h2) fun x hx y hy => hd x (List.mem_cons_of_mem _ hx) y (List.mem_cons_of_mem _ hy)]
/-- the handles of a queue are different -/
theorem QS.diff {W : AW} {In : Nat → Prop} {q mh : Nat} {less : Value} {ls : Int → Int → Bool} {nx : Int} {n : Nat} {f : Nat → En} (h : QS W In q mh less ls nx n f) {l : List (Int × Int)} (hl : l.Perm ((all n f).map hv)) : ∀ a ∈ l, ∀ b ∈ l, a.1 = b.1 → a = b := by
  intro a ha b hb e
  obtain ⟨x, hx, rfl⟩ := List.mem_map.1 (hl.mem_iff.1 ha)
  obtain ⟨y, hy, rfl⟩ := List.mem_map.1 (hl.mem_iff.1 hb)
  obtain ⟨i, hi, rfl⟩ := all_mem.1 hx
  obtain ⟨j, hj, rfl⟩ := all_mem.1 hy
  rw [h.fresh hi hj e]
theorem Srt.eq {W : AW} {In : Nat → Prop} {q mh : Nat} {less : Value} {ls : Int → Int → Bool} {nx : Int} {n m : Nat} {f g : Nat → En} {l l' : List (Int × Int)} (h : QS W In q mh less ls nx n f) (h1 : Srt ls n f l) (h2 : Srt ls m g l') (hp : ((all m g).map hv).Perm ((all n f).map hv)) : l' = l := by
  refine sort_uniq (h2.perm.trans (hp.trans h1.perm.symm)) h2.sort h1.sort (h.diff (h2.perm.trans hp))
theorem Items.get {W : AW} {v : Value} {l : List (Int × Int)} (h : Items W v l) {i : Nat} (hi : i < l.length) :
    ∃ b o, (∀ W' k, ixS 2 v (.int k (i : Int)) W' = some (.pointer (some ⟨b, o, none⟩), W')) ∧ b < W.next ∧ ∀ W', W'.get b = W.get b → ldA 2 (.pointer (some ⟨b, o, none⟩)) W' = some (.agg #[.int .i64 l[i].1, .int .i64 l[i].2], W') ∧ ldC (.pointer (some ⟨b, o, none⟩)) W' = some (.int .i64 l[i].1, W') := by
  obtain ⟨b, o, cs, h1, h2, h3, h4, h5⟩ := h.elem hi
  refine ⟨b, o, h1, h2, fun W' hg => ?_⟩
  have hc : cellsAt W' b = some cs := by
    have : cellsAt W' b = cellsAt W b := by unfold cellsAt; rw [hg]
    rw [this]; exact h3
  refine ⟨?_, ldC_ok hc h4⟩
  have e3 : (cs.drop o).take 2 = [.int .i64 l[i].1, .int .i64 l[i].2] := by
    obtain ⟨a1, a2⟩ := List.getElem?_eq_some_iff.1 h4
    obtain ⟨b1, b2⟩ := List.getElem?_eq_some_iff.1 h5
    rw [List.drop_eq_getElem_cons a1, List.drop_eq_getElem_cons b1, a2, b2]
    rfl
  have := ldA_ok (n := 2) (o := o) hc (by rw [e3]; rfl)
  rw [e3] at this
  exact this
end Go.Proofs.Ytkpgmabebjmahaa
/- HeapsHandles: what it rests on. -/
namespace Go.Proofs.Ytkpgmabebjmahaa
open Go Go.Eng Go.Hp
set_option linter.unusedVariables false
set_option linter.unusedSimpArgs false
set_option linter.unusedSectionVars false
set_option maxRecDepth 100000
theorem oUn_neg {P : Program} {W : AW} {a : Int} : oUn P .neg (.int .i64 a) W = some (.int .i64 (IntKind.i64.wrap (-a)), W) := by
  unfold oUn
  refine pureV ?_ rfl _ rfl
  unfold Op.unary
  simp only [pureRun_bind, pureRun_pure, Option.bind_some]
  unfold Op.intArith
  simp only [pureRun_pure, Int.zero_sub]
/-- the greater one of a number and its complement -/
def mx (a : Int) : Int := max a (IntKind.i64.wrap (-(IntKind.i64.wrap (a + 1))))
/-! ### lists that are built side by side -/
def LstA {α : Type} (W : AW) (z : Nat) (f : α → List Value) (v : Value) (l : List α) (bo : Option Nat) : Prop :=
  (l = [] ∧ v = .slice none 0 0 ∧ bo = none) ∨ (l ≠ [] ∧ ∃ B, bo = some B ∧ B < W.next ∧ v = .slice (some ⟨B, 0, none⟩) l.length (BIG + z) ∧ W.get B = some (.cells (l.flatMap f)))
theorem LstA.keep {α : Type} {W W' : AW} {z : Nat} {f : α → List Value} {v : Value} {l : List α} {bo : Option Nat} (h : LstA W z f v l bo) (hn : W.next ≤ W'.next) (hg : ∀ B, bo = some B → W'.get B = W.get B) : LstA W' z f v l bo := by
  rcases h with h | ⟨h0, B, h1, h2, h3, h4⟩
  · exact .inl h
  · exact .inr ⟨h0, B, h1, by omega, h3, (hg B h1).trans h4⟩
theorem LstA.lt {α : Type} {W : AW} {z : Nat} {f : α → List Value} {v : Value} {l : List α} {bo : Option Nat} (h : LstA W z f v l bo) {B : Nat} (hB : bo = some B) : B < W.next := by
  rcases h with ⟨-, -, h⟩ | ⟨h0, B', h1, h2, -⟩
  · rw [h] at hB; cases hB
  · rw [h1] at hB; injection hB with hB; omega
theorem LstA.push {α : Type} {P : Program} {W : AW} {ts : Array TypeId} {z bytes : Nat} {f : α → List Value} {v : Value} {l : List α} {bo : Option Nat} {a : α} (hk : appOk P ts z bytes = true) (hf : ∀ a, (f a).length = z) (h1 : ∀ a, (f a).all Eng.one = true)
    (h : LstA W z f v l bo) {b c : Nat} (hc : cellsAt W b = some (f a)) (hb : l.length + 1 < 1099511627776) (hb2 : (2 * (l.length + 1) + 192) * bytes ≤ 281474976710656) :
    ∃ v' W', aAppend P W ts v (.slice (some ⟨b, 0, none⟩) 1 c) = some (v', W') ∧ LstA W' z f v' (l ++ [a]) (some W.next) ∧ W'.next = W.next + 1 ∧ ∀ b, b < W.next → bo ≠ some b → W'.get b = W.get b := by
  have hn : f a = ((f a).drop 0).take (1 * z) := by rw [List.drop_zero, Nat.one_mul, ← hf a, List.take_length]
  have hl : (f a).length = 1 * z := by rw [hf]; omega
  rcases h with ⟨rfl, rfl, rfl⟩ | ⟨h0, B, rfl, i2, rfl, i4⟩
  · refine ⟨_, _, app_nil (b := b) (o := 0) (c := c) hk hc hn hl (by omega) (h1 a) (by omega) (by simpa using hb2), .inr ⟨by simp, W.next, rfl, by rw [AW.add_next]; omega, by simp, by rw [AW.get_add]; simp⟩, AW.add_next _ _, fun d hd _ => AW.get_add_ne _ _ (by omega)⟩
  · have hpos : 0 < l.length := List.length_pos_iff.2 h0
    refine ⟨_, _, app_on (b := b) (o := 0) (c := c) hk hc hn hl (by omega) (h1 a) i4 (flatMap_len hf l) (by omega) hb2 hpos, .inr ⟨by simp, W.next, rfl, by rw [AW.add_next, AW.kill_next]; omega, by simp [AW.kill_next], ?_⟩, by rw [AW.add_next, AW.kill_next], fun d hd hne => ?_⟩
    · have := (W.kill B).get_add (.cells (l.flatMap f ++ f a))
      rw [AW.kill_next] at this
      rw [this, List.flatMap_append]
      simp
    · rw [AW.get_add_ne _ _ (by rw [AW.kill_next]; omega), AW.get_kill_ne _ (fun e => hne (by rw [e]))]
/-! ### one push and its removal -/
section
variable {W : AW} {In : Nat → Prop} {q mh : Nat} {less : Value} {ls : Int → Int → Bool} {nx : Int} {n : Nat} {f : Nat → En}
end
end Go.Proofs.Ytkpgmabebjmahaa
/- HeapsHandles: at every kind, numbers and pair. -/
namespace Go.Proofs.Ytkpgmabebjmahaa
open Go Go.Eng Go.Hp
set_option linter.unusedVariables false
set_option linter.unusedSimpArgs false
set_option linter.unusedSectionVars false
set_option maxRecDepth 100000
theorem lz_of (k : Nat) (D : Nat → Prop) : liesD D (.func (.func k) #[] #[]) := liesD_func (by simp) (by simp)
/-- what a list loses -/
def but (h : Int) (l : List (Int × Int)) : List (Int × Int) := l.filter fun x => !decide (x.1 = h)
end Go.Proofs.Ytkpgmabebjmahaa
/- HeapsWalks: what is yielded while the queue is changed. -/
namespace Go.Proofs.Ytkpgmabebjmahaa
open Go Go.Eng Go.Hp
set_option linter.unusedVariables false
set_option linter.unusedSimpArgs false
set_option linter.unusedSectionVars false
set_option maxRecDepth 100000
theorem al4 (W : AW) : oAlloc Try.prog 4 W = some (.pointer (some ⟨W.next, 0, none⟩), W.add (.cells [.bool false])) := Eq.trans (by kernel_rfl) rfl
theorem al3 (W : AW) : oAlloc Try.prog 3 W = some (.pointer (some ⟨W.next, 0, none⟩), W.add (.cells [.int .i64 0])) := Eq.trans (by kernel_rfl) rfl
theorem al24 (W : AW) : oAlloc Try.prog 24 W = some (.pointer (some ⟨W.next, 0, none⟩), W.add (.cells [.pointer none])) := Eq.trans (by kernel_rfl) rfl
theorem oL4 (x : Value) (W : AW) : oLoad Try.prog 4 x W = ldC x W := by kernel_rfl
theorem len47 : ((#[47] : Array TypeId)[0]?).bind Try.prog.underlying = some (.slice 5) := by kernel_rfl
abbrev U8s (W : AW) (v : Value) (l : List Int) : Prop := Row W 1 (intAt .u8) v l
theorem U8s.get {W : AW} {v : Value} {l : List Int} (h : U8s W v l) {i : Nat} (hi : i < l.length) :
    ∃ p, (∀ W' k, ixS 1 v (.int k (i : Int)) W' = some (p, W')) ∧ ∀ W', Le W W' → ldC p W' = some (.int .u8 l[i], W') := by
  obtain ⟨b, o, cs, h1, h2, h3, h4⟩ := h.elem hi
  exact ⟨_, h1, fun W' hle => ldC_ok (by rw [hle.cellsAt h2]; exact h3) h4⟩
section
variable {W : AW} {In : Nat → Prop} {q mh : Nat} {less : Value} {ls : Int → Int → Bool} {nx : Int} {n : Nat} {f : Nat → En}
/-- the first of what is sorted is the heap's first -/
theorem head_of (o : Ord (bef ls)) (h : QS W In q mh less ls nx (n + 1) f) {x : Int × Int} {rest : List (Int × Int)} (hp : (x :: rest).Perm ((all (n + 1) f).map hv)) (hs : (x :: rest).Pairwise fun a b => befP ls b a = false) : hv (f 0) = x := by
  have h0 : hv (f 0) ∈ x :: rest := hp.mem_iff.2 (List.mem_map.2 ⟨f 0, all_mem.2 ⟨0, by omega, rfl⟩, rfl⟩)
  rcases List.mem_cons.1 h0 with e | hm
  · exact e
  · obtain ⟨e, he, ex⟩ := List.mem_map.1 (hp.mem_iff.1 (List.mem_cons_self ..))
    obtain ⟨i, hi, rfl⟩ := all_mem.1 he
    have x1 := List.rel_of_pairwise_cons hs hm
    have x2 : befP ls (hv (f i)) (hv (f 0)) = false := h.hp.first o i hi
    rw [ex] at x2
    by_cases e : (hv (f 0)).1 = x.1
    · exact h.diff hp _ h0 _ (List.mem_cons_self ..) e
    · exfalso
      unfold befP at x1 x2
      simp only [Bool.or_eq_false_iff, Bool.and_eq_false_imp, Bool.not_eq_true', decide_eq_false_iff_not] at x1 x2
      have y1 := x1.2 x2.1
      have y2 := x2.2 x1.1
      omega
/-- whatever is removed -/
theorem anyRemove_ok (o : Ord (bef ls)) (hl : IsLess less ls) (h : QS W In q mh less ls nx n f) (hn : n ≤ 5000) (k : Int) : ∃ r W' m g, omS (.func (.func 24) #[] #[]) [qV q, .int .i64 k] W = some (r, W') ∧ QS W' In q mh less ls nx m g ∧ m ≤ n ∧ Gr W W' In := by
  by_cases hk : ∃ i, i < n ∧ (f i).h = k
  · obtain ⟨i, hi, rfl⟩ := hk
    obtain ⟨n, rfl⟩ : ∃ n', n = n' + 1 := ⟨n - 1, by omega⟩
    obtain ⟨W', g, r1, r2, r3, r4, r5⟩ := qRemove_ok o hl h (by omega) hi
    exact ⟨_, W', n, g, r1, r2, by omega, r5⟩
  · exact ⟨_, W, n, f, qRemove0_ok h fun i hi e => hk ⟨i, hi, e⟩, h, Nat.le_refl _, .refl _ _⟩
theorem anySet_ok (o : Ord (bef ls)) (hl : IsLess less ls) (h : QS W In q mh less ls nx n f) (hn : n ≤ 5000) (k v : Int) : ∃ r W' g, omS (.func (.func 26) #[] #[]) [qV q, .int .i64 k, .int .i64 v] W = some (r, W') ∧ QS W' In q mh less ls nx n g ∧ Gr W W' In := by
  by_cases hk : ∃ i, i < n ∧ (f i).h = k
  · obtain ⟨i, hi, rfl⟩ := hk
    obtain ⟨W', g, r1, r2, r3, r4, r5⟩ := qSet_ok o hl h (by omega) hi v
    exact ⟨_, W', g, r1, r2, r5⟩
  · exact ⟨_, W, f, qSet0_ok h (fun i hi e => hk ⟨i, hi, e⟩) v, h, .refl _ _⟩
end
end Go.Proofs.Ytkpgmabebjmahaa
/- HeapsWalks: it answers true. -/
namespace Go.Proofs.Ytkpgmabebjmahaa
open Go Go.Eng Go.Hp
set_option linter.unusedVariables false
set_option linter.unusedSimpArgs false
set_option linter.unusedSectionVars false
set_option maxRecDepth 100000
theorem walks_ok {k : Int} {v wv : Value} {l ws : List Int} {W : AW} (h : Ints W v l) (hw : U8s W wv ws) : omS (.func (.func 5) #[] #[]) [.int .u8 k, v, wv] W = some (.bool true, W) := by
  refine om_drop rfl ?_ law06_HeapsWalks_om
  unfold law06_HeapsWalks
  obtain ⟨wa, wc, hwv, -⟩ := id hw
  have oB : oBox wv W = some (.pointer (some ⟨W.next, 0, none⟩), W.add (.cells [wv])) := by rw [hwv]; exact oBox_slice _ _ _
  generalize hW2 : (W.add (.cells [wv])).add (.cells [.bool false]) = W2
  have a2' : (W.add (.cells [wv])).next = W.next + 1 := AW.add_next _ _
  have n2 : W2.next = W.next + 2 := by rw [← hW2, AW.add_next, AW.add_next]
  have l2 : Le W W2 := by rw [← hW2]; exact ((Le.refl _).add _).add _
  have x2 : W2.get (W.next + 1) = some (.cells [.bool false]) := by
    rw [← hW2]
    have := (W.add (.cells [wv])).get_add (.cells [.bool false])
    rwa [a2'] at this
  have x1 : W2.get W.next = some (.cells [wv]) := by rw [← hW2, AW.get_add_ne _ _ (by rw [a2']; omega)]; exact AW.get_add _ _
  have h2 : Ints W2 v l := h.mono l2
  by_cases hl : 100 < l.length
  · have e1 : (100 : Int) < (l.length : Int) := by omega
    have st := stA (v := .bool true) (o := 0) x2 (by simp) rfl rfl
    rw [show ([.bool false] : List Value).set 0 (.bool true) = [.bool true] from rfl] at st
    have x3 : (W2.put (W.next + 1) (.cells [.bool true])).get (W.next + 1) = some (.cells [.bool true]) := AW.get_put _ _ _
    have e2 := h2.len lenI
    simp only [SX, oB, al4, a2', hW2, e2, e1, awake_ok, st, oRes_L1, oL4, ldR (o := 0) (rwOf x3) rfl, Option.bind_some, Ok_some]
    exact ⟨trivial, l2.put (by omega) _⟩
  have e1 : ¬ (100 : Int) < (l.length : Int) := by omega
  have o := byK_ord (kfOf k)
  have hlk1 := isLess1_of k
  have hlk := hlk1.up
  have hlz : ∀ D, liesD D (.func (.func (lsN k)) #[] #[]) := lz_of _
  obtain ⟨W3, q, mq, gq, m1, m2, m3, m4⟩ := made1_ok (k := k) h2 (by omega) (In := fun b => W2.next ≤ b) fun b => Iff.rfl
  have l3 : Le W2 W3 := ⟨m4.next, fun b hb => m4.get b hb (by omega)⟩
  have h3 : Ints W3 v l := h2.mono l3
  obtain ⟨W4, p, mp, gp, k1, k2, k3, k4⟩ := made1_ok (k := k) h3 (by omega) (In := fun b => W3.next ≤ b) fun b => Iff.rfl
  have l4 : Le W3 W4 := ⟨k4.next, fun b hb => k4.get b hb (by omega)⟩
  have h4 : Ints W4 v l := h3.mono l4
  have n23 := l3.next
  have n34 := l4.next
  -- the law's own variables
  generalize hW6 : (W4.add (.cells [.pointer none])).add (.cells [.pointer none]) = W6
  have a4' : (W4.add (.cells [.pointer none])).next = W4.next + 1 := AW.add_next _ _
  have n6 : W6.next = W4.next + 2 := by rw [← hW6, AW.add_next, AW.add_next]
  have g6 : ∀ b, b < W4.next → W6.get b = W4.get b := fun b hb => by rw [← hW6, AW.get_add_ne _ _ (by rw [a4']; omega), AW.get_add_ne _ _ (by omega)]
  have xA6 : W6.get W4.next = some (.cells [.pointer none]) := by rw [← hW6, AW.get_add_ne _ _ (by rw [a4']; omega)]; exact AW.get_add _ _
  have xB6 : W6.get (W4.next + 1) = some (.cells [.pointer none]) := by
    rw [← hW6]
    have := (W4.add (.cells [.pointer none])).get_add (.cells [.pointer none])
    rwa [a4'] at this
  have stq := stA (v := qV q) (o := 0) xA6 (by simp) rfl rfl
  rw [show ([.pointer none] : List Value).set 0 (qV q) = [qV q] from rfl] at stq
  have xB7 : (W6.put W4.next (.cells [qV q])).get (W4.next + 1) = some (.cells [.pointer none]) := by rw [AW.get_put_ne _ _ (by omega)]; exact xB6
  have stp := stA (v := qV p) (o := 0) xB7 (by simp) rfl rfl
  rw [show ([.pointer none] : List Value).set 0 (qV p) = [qV p] from rfl] at stp
  generalize hW8 : (W6.put W4.next (.cells [qV q])).put (W4.next + 1) (.cells [qV p]) = W8 at stp
  have n8 : W8.next = W4.next + 2 := by rw [← hW8, AW.put_next, AW.put_next, n6]
  have g8 : ∀ b, b < W4.next → W8.get b = W4.get b := fun b hb => by rw [← hW8, AW.get_put_ne _ _ (by omega), AW.get_put_ne _ _ (by omega), g6 b hb]
  have xA8 : W8.get W4.next = some (.cells [qV q]) := by rw [← hW8, AW.get_put_ne _ _ (by omega)]; exact AW.get_put _ _ _
  have xB8 : W8.get (W4.next + 1) = some (.cells [qV p]) := by rw [← hW8]; exact AW.get_put _ _ _
  generalize hW10 : W8.add (.cells [.int .i64 0]) = W10
  have n10 : W10.next = W4.next + 3 := by rw [← hW10, AW.add_next, n8]
  have xC10 : W10.get (W4.next + 2) = some (.cells [.int .i64 0]) := by rw [← hW10, ← n8]; exact AW.get_add _ _
  have g10 : ∀ b, b < W4.next + 2 → W10.get b = W8.get b := fun b hb => by rw [← hW10, AW.get_add_ne _ _ (by omega)]
  have stc := stA (v := .int .i64 0) (o := 0) xC10 (by simp) rfl rfl
  rw [show ([.int .i64 0] : List Value).set 0 (.int .i64 0) = [.int .i64 0] from rfl] at stc
  generalize hWc : W10.put (W4.next + 2) (.cells [.int .i64 0]) = Wc at stc
  have nc : Wc.next = W4.next + 3 := by rw [← hWc, AW.put_next, n10]
  have xCc : Wc.get (W4.next + 2) = some (.cells [.int .i64 0]) := by rw [← hWc]; exact AW.get_put _ _ _
  have gc' : ∀ b, b < W4.next + 2 → Wc.get b = W8.get b := fun b hb => by rw [← hWc, AW.get_put_ne _ _ (by omega), g10 b hb]
  generalize hW11 : Wc.add (.cells [qV q]) = W11
  have n11 : W11.next = W4.next + 4 := by rw [← hW11, AW.add_next, nc]
  have xX : W11.get (W4.next + 3) = some (.cells [qV q]) := by rw [← hW11, ← nc]; exact AW.get_add _ _
  have g11 : ∀ b, b < W4.next + 3 → W11.get b = Wc.get b := fun b hb => by rw [← hW11, AW.get_add_ne _ _ (by omega)]
  have g114 : ∀ b, b < W4.next → W11.get b = W4.get b := fun b hb => by rw [g11 b (by omega), gc' b (by omega), g8 b hb]
  have q11 : QS W11 (fun b => W2.next ≤ b ∧ b < W3.next) q mq (.func (.func (lsN k)) #[] #[]) (byK (kfOf k)) ((l.length : Int) + 1) l.length gq :=
    m2.keep (by omega) (fun b hb _ => by rw [g114 b (by omega), l4.get b hb]) fun b hb hi => ⟨hi, hb⟩
  have p11 : QS W11 (fun b => W3.next ≤ b ∧ b < W4.next) p mp (.func (.func (lsN k)) #[] #[]) (byK (kfOf k)) ((l.length : Int) + 1) l.length gp :=
    k2.keep (by omega) (fun b hb _ => g114 b hb) fun b hb hi => ⟨hi, hb⟩
  have low : ∀ b, b < W2.next → W11.get b = W2.get b := fun b hb => by rw [g114 b (by omega), l4.get b (by omega), l3.get b hb]
  have xA8' : ldC (.pointer (some ⟨W4.next, 0, none⟩)) W8 = some (qV q, W8) := ldR (rwOf xA8) rfl
  have xB8' : ldC (.pointer (some ⟨W4.next + 1, 0, none⟩)) W8 = some (qV p, W8) := ldR (rwOf xB8) rfl
  have xAc : ldC (.pointer (some ⟨W4.next, 0, none⟩)) Wc = some (qV q, Wc) := ldR (rwOf (by rw [gc' _ (by omega)]; exact xA8)) rfl
  have al3' : oAlloc Try.prog 3 W8 = some (.pointer (some ⟨W4.next + 2, 0, none⟩), W10) := by rw [al3, hW10, n8]
  have allf := all_fn Wc q
  rw [hW11, nc] at allf
  simp only [SX, oB, al4, a2', hW2, h2.len lenI, e1, m1, k1, al24, a4', hW6, stq, stp, xA8', xB8', pEq, al3', stc, xAc, allf]
  refine Ok_all o hlk1 hlz q11 (by omega) xX (by omega) rfl
    (fun L N pre V => N ≤ V.next ∧ W11.next < N ∧ (∃ nq fq nxq, QS V (fun b => (W2.next ≤ b ∧ b < W3.next) ∨ N ≤ b) q mq (.func (.func (lsN k)) #[] #[]) (byK (kfOf k)) nxq nq fq ∧ nq ≤ l.length + pre.length ∧ nxq ≤ (l.length : Int) + 1 + pre.length) ∧
      (∃ m fp, QS V (fun b => W3.next ≤ b ∧ b < W4.next) p mp (.func (.func (lsN k)) #[] #[]) (byK (kfOf k)) ((l.length : Int) + 1) m fp ∧ (L.drop pre.length).Perm ((all m fp).map hv)) ∧
      (∀ b, b < W2.next → V.get b = W2.get b) ∧ V.get W4.next = some (.cells [qV q]) ∧ V.get (W4.next + 1) = some (.cells [qV p]) ∧ V.get (W4.next + 2) = some (.cells [.int .i64 (pre.length : Int)]))
    (fun _ _ => False) (fun R x => rput (rput (zipGo (#[33, 34] : Array Tmp).toList [.int .i64 x.1, .int .i64 x.2] R) (some 10) (.int .i64 x.1)) (some 11) (.int .i64 x.2)) ?_ ?_ ?_ ?_ (fun _ _ _ h => h) ?_ ?_
  · intro x W'
    rw [law06_HeapsWalks_Y1a_eq]
    unfold law06_HeapsWalks_Y1a
    have r33 : ∀ R : Nat → Value, zipGo (#[33, 34] : Array Tmp).toList [.int .i64 x.1, .int .i64 x.2] R 33 = .int .i64 x.1 := fun R => rfl
    have r34 : ∀ R : Nat → Value, zipGo (#[33, 34] : Array Tmp).toList [.int .i64 x.1, .int .i64 x.2] R 34 = .int .i64 x.2 := fun R => rfl
    simp only [SX, r33, r34]
  · intro L V hs hle
    have hn' := hle.next
    rw [AW.add_next] at hn'
    have hg : ∀ b, b < W11.next → V.get b = W11.get b := fun b hb => by rw [hle.get b (by rw [AW.add_next]; omega), AW.get_add_ne _ _ (by omega)]
    refine ⟨Nat.le_refl _, by omega, ⟨l.length, gq, _, q11.keep (by omega) (fun b hb _ => hg b hb) fun b _ hi => .inl hi, by simp, by simp⟩, ⟨l.length, gp, p11.keep (by omega) (fun b hb _ => hg b hb) fun b _ hi => hi, ?_⟩, fun b hb => by rw [hg b (by omega), low b hb], ?_, ?_, ?_⟩
    · rw [List.length_nil, List.drop_zero]
      exact hs.perm.trans (m3.trans k3.symm)
    · rw [hg _ (by omega), g11 _ (by omega), gc' _ (by omega)]; exact xA8
    · rw [hg _ (by omega), g11 _ (by omega), gc' _ (by omega)]; exact xB8
    · rw [hg _ (by omega), g11 _ (by omega)]; exact xCc
  · rintro L N pre V cs ⟨b1, b2, ⟨nq, fq, nxq, c1, c2, c3⟩, ⟨m, fp, d1, d2⟩, e2, e3, e4, e5⟩ - -
    have hg : ∀ b, b < V.next → (V.add (.cells cs)).get b = V.get b := fun b hb => AW.get_add_ne _ _ (by omega)
    exact ⟨by rw [AW.add_next]; omega, b2, ⟨nq, fq, nxq, c1.keep (by rw [AW.add_next]; omega) (fun b hb _ => hg b hb) fun b _ hi => hi, c2, c3⟩, ⟨m, fp, d1.keep (by rw [AW.add_next]; omega) (fun b hb _ => hg b hb) fun b _ hi => hi, d2⟩, fun b hb => by rw [hg b (by omega)]; exact e2 b hb, by rw [hg _ (by omega)]; exact e3, by rw [hg _ (by omega)]; exact e4, by rw [hg _ (by omega)]; exact e5⟩
  · rintro L N pre V x ⟨b1, b2, ⟨nq, fq, nxq, c1, c2, c3⟩, ⟨m, fp, d1, d2⟩, e2, e3, e4, e5⟩
    have hg : ∀ b, b ≠ W11.next → (V.put W11.next x).get b = V.get b := fun b hb => AW.get_put_ne _ _ (Ne.symm hb)
    exact ⟨by rw [AW.put_next]; omega, b2, ⟨nq, fq, nxq, c1.keep (by rw [AW.put_next]; omega) (fun b hb hi => hg b (by omega)) fun b _ hi => hi, c2, c3⟩, ⟨m, fp, d1.keep (by rw [AW.put_next]; omega) (fun b hb hi => hg b (by omega)) fun b _ hi => hi, d2⟩, fun b hb => by rw [hg b (by omega)]; exact e2 b hb, by rw [hg _ (by omega)]; exact e3, by rw [hg _ (by omega)]; exact e4, by rw [hg _ (by omega)]; exact e5⟩
  · rintro L N pre x V R' hR hs hpre ⟨b1, b2, ⟨nq, fq, nxq, c1, c2, c3⟩, ⟨m, fp, d1, d2⟩, e2, e3, e4, e5⟩ f1 f2
    have r5 : R' 5 = .pointer (some ⟨W.next, 0, none⟩) := by rw [hR]; rfl
    have r7 : R' 7 = .pointer (some ⟨W4.next, 0, none⟩) := by rw [hR]; rfl
    have r8 : R' 8 = .pointer (some ⟨W4.next + 1, 0, none⟩) := by rw [hR]; rfl
    have r9 : R' 9 = .pointer (some ⟨W4.next + 2, 0, none⟩) := by rw [hR]; rfl
    have r10 : R' 10 = .int .i64 x.1 := by rw [hR]; rfl
    have r11 : R' 11 = .int .i64 x.2 := by rw [hR]; rfl
    clear hR
    have hLl : L.length = l.length := hv_len hs
    have hpl := hpre.length_le
    rw [List.length_append, hLl] at hpl
    simp only [List.length_cons, List.length_nil] at hpl
    -- what is popped
    have hdrop : L.drop pre.length = x :: L.drop (pre.length + 1) := by
      obtain ⟨t, rfl⟩ := hpre
      rw [List.append_assoc, List.drop_left, List.singleton_append, ← List.drop_drop, List.drop_left]
      rfl
    rw [hdrop] at d2
    obtain ⟨m, rfl⟩ : ∃ m', m = m' + 1 := by
      have := d2.length_eq
      rw [List.length_cons, List.length_map, all_len] at this
      exact ⟨_, this.symm⟩
    have hml : m + 1 + pre.length = l.length := by
      have := d2.length_eq
      rw [List.length_cons, List.length_map, all_len, List.length_drop] at this
      omega
    have hhd : hv (fp 0) = x := head_of o d1 d2 (by rw [← hdrop]; exact hs.sort.sublist (List.drop_sublist _ _))
    obtain ⟨V1, fp', p1, p2, p3, p4, p5⟩ := qPop_ok o hlk d1 (by omega)
    have hh1 : (fp 0).h = x.1 := by rw [← hhd]; rfl
    have hh2 : (fp 0).v = x.2 := by rw [← hhd]; rfl
    rw [hh1, hh2] at p1
    have hrest : (L.drop (pre.length + 1)).Perm ((all m fp').map hv) := by
      have := d2.trans (p3.map hv).symm
      rw [List.map_cons, hhd] at this
      exact List.Perm.cons_inv this
    have g1 : ∀ b, b < V.next → ¬ (W3.next ≤ b ∧ b < W4.next) → V1.get b = V.get b := p5.get
    have n1 : V1.next = V.next := p4
    have Q1 : QS V1 (fun b => (W2.next ≤ b ∧ b < W3.next) ∨ N ≤ b) q mq (.func (.func (lsN k)) #[] #[]) (byK (kfOf k)) nxq nq fq := c1.keep (by omega) (fun b hb hi => g1 b hb (by omega)) fun b _ hi => hi
    have y5 : V1.get (W4.next + 2) = some (.cells [.int .i64 (pre.length : Int)]) := by rw [g1 _ (by omega) (by omega)]; exact e5
    have yA : V1.get W4.next = some (.cells [qV q]) := by rw [g1 _ (by omega) (by omega)]; exact e3
    have yB : V1.get (W4.next + 1) = some (.cells [qV p]) := by rw [g1 _ (by omega) (by omega)]; exact e4
    have lo1 : ∀ b, b < W2.next → V1.get b = W2.get b := fun b hb => by rw [g1 b (by omega) (by omega)]; exact e2 b hb
    have yX : V1.get W.next = some (.cells [wv]) := by rw [lo1 _ (by omega)]; exact x1
    have hw1 : U8s V1 wv ws := hw.mono ⟨by omega, fun b hb => by rw [lo1 b (by omega), l2.get b hb]⟩
    have t1 : ¬ (100 : Int) < (pre.length : Int) := by omega
    have t2 := fun W' => oBin_add (P := Try.prog) (W := W') (t := 3) (c := false) (d := true) (a := (pre.length : Int)) (b := 1) (by omega) (by omega)
    have e7 : (((pre ++ [x]).length : Nat) : Int) = (pre.length : Int) + 1 := by rw [List.length_append]; simp
    -- what is done last
    have fin : ∀ V2 nq' fq' nxq', QS V2 (fun b => (W2.next ≤ b ∧ b < W3.next) ∨ N ≤ b) q mq (.func (.func (lsN k)) #[] #[]) (byK (kfOf k)) nxq' nq' fq' → nq' ≤ nq + 1 → nxq' ≤ nxq + 1 → Gr V1 V2 (fun b => (W2.next ≤ b ∧ b < W3.next) ∨ N ≤ b) →
        ∃ V3, V2.get (W4.next + 2) = some (.cells [.int .i64 (pre.length : Int)]) ∧ stV 1 (.pointer (some ⟨W4.next + 2, 0, none⟩)) (.int .i64 ((pre.length : Int) + 1)) V2 = some (undef, V3) ∧ V.next ≤ V3.next ∧ (∀ b, W11.next ≤ b → b < N → V3.get b = V.get b) ∧
          (N ≤ V3.next ∧ W11.next < N ∧ (∃ nq fq nxq, QS V3 (fun b => (W2.next ≤ b ∧ b < W3.next) ∨ N ≤ b) q mq (.func (.func (lsN k)) #[] #[]) (byK (kfOf k)) nxq nq fq ∧ nq ≤ l.length + (pre ++ [x]).length ∧ nxq ≤ (l.length : Int) + 1 + ((pre ++ [x]).length : Nat)) ∧
            (∃ m fp, QS V3 (fun b => W3.next ≤ b ∧ b < W4.next) p mp (.func (.func (lsN k)) #[] #[]) (byK (kfOf k)) ((l.length : Int) + 1) m fp ∧ (L.drop (pre ++ [x]).length).Perm ((all m fp).map hv)) ∧
            (∀ b, b < W2.next → V3.get b = W2.get b) ∧ V3.get W4.next = some (.cells [qV q]) ∧ V3.get (W4.next + 1) = some (.cells [qV p]) ∧ V3.get (W4.next + 2) = some (.cells [.int .i64 (((pre ++ [x]).length : Nat) : Int)])) := by
      intro V2 nq' fq' nxq' z1 z2 z3 z4
      have zn := z4.next
      have zg : ∀ b, b < V1.next → ¬ ((W2.next ≤ b ∧ b < W3.next) ∨ N ≤ b) → V2.get b = V1.get b := z4.get
      have w5 : V2.get (W4.next + 2) = some (.cells [.int .i64 (pre.length : Int)]) := by rw [zg _ (by omega) (by omega)]; exact y5
      have st := stA (v := .int .i64 ((pre.length : Int) + 1)) (o := 0) w5 (by simp) rfl rfl
      rw [show ([.int .i64 (pre.length : Int)] : List Value).set 0 (.int .i64 ((pre.length : Int) + 1)) = [.int .i64 ((pre.length : Int) + 1)] from rfl] at st
      have pg : ∀ b, b ≠ W4.next + 2 → (V2.put (W4.next + 2) (.cells [.int .i64 ((pre.length : Int) + 1)])).get b = V2.get b := fun b hb => AW.get_put_ne _ _ (Ne.symm hb)
      refine ⟨_, w5, st, by rw [AW.put_next]; omega, fun b hb1 hb2 => by rw [pg b (by omega), zg b (by omega) (by omega), g1 b (by omega) (by omega)], by rw [AW.put_next]; omega, b2, ⟨nq', fq', nxq', z1.keep (by rw [AW.put_next]; omega) (fun b hb hi => pg b (by omega)) fun b _ hi => hi, by rw [List.length_append]; simp only [List.length_cons, List.length_nil]; omega, by rw [e7]; omega⟩, ⟨m, fp', p2.keep (by rw [AW.put_next]; omega) (fun b hb hi => by rw [pg b (by omega), zg b (by omega) (by omega)]) fun b _ hi => hi, by rw [List.length_append]; exact hrest⟩, fun b hb => by rw [pg b (by omega), zg b (by omega) (by omega)]; exact lo1 b hb, by rw [pg _ (by omega), zg _ (by omega) (by omega)]; exact yA, by rw [pg _ (by omega), zg _ (by omega) (by omega)]; exact yB, by rw [e7]; exact AW.get_put _ _ _⟩
    rw [law06_HeapsWalks_Y1b_eq]
    unfold law06_HeapsWalks_Y1b
    by_cases hi : pre.length < ws.length
    case neg =>
      have t3 : ¬ ((pre.length : Int) < (ws.length : Int)) := by omega
      obtain ⟨V3, s0, s1, s2, s3, s4⟩ := fin V1 nq fq nxq Q1 (by omega) (by omega) (.refl _ _)
      simp only [SX, r5, r7, r8, r9, r10, r11, ldR (o := 0) (rwOf e4) rfl, p1, ldR (o := 0) (rwOf y5) rfl, t1, ldR (o := 0) (rwOf yX) rfl, hw1.len len47, t3, t2, s1, Ok_some]
      exact ⟨s2, s3, .inl ⟨trivial, s4⟩⟩
    have t3 : ((pre.length : Int) < (ws.length : Int)) := by omega
    obtain ⟨pw, i1, i2⟩ := hw1.get hi
    have t4 : oBin Try.prog .rem 5 false true (.int .u8 ws[pre.length]) (.int .u8 4) V1 = some (.int .u8 (ws[pre.length].tmod 4), V1) := oBin_rem (by omega)
    generalize ws[pre.length].tmod 4 = c at t4
    by_cases hc0 : c = 0
    · subst hc0
      obtain ⟨rr, V2, m', g', z0, z1, z2, z3⟩ := anyRemove_ok o hlk Q1 (by omega) x.1
      obtain ⟨V3, s0, s1, s2, s3, s4⟩ := fin V2 m' g' nxq z1 (by omega) (by omega) z3
      simp only [SX, r5, r7, r8, r9, r10, r11, ldR (o := 0) (rwOf e4) rfl, p1, ldR (o := 0) (rwOf y5) rfl, t1, ldR (o := 0) (rwOf yX) rfl, hw1.len len47, t3, i1, i2 _ (.refl _), t4, ldR (o := 0) (rwOf yA) rfl, z0, ldR (o := 0) (rwOf s0) rfl, t2, s1, Ok_some]
      exact ⟨s2, s3, .inl ⟨trivial, s4⟩⟩
    by_cases hc1 : c = 1
    · subst hc1
      obtain ⟨V2, g', z0, z1, z2, z3⟩ := qPush_ok o hlk Q1 (by omega) (by omega) (fun b hb => .inr (by omega)) x.2
      obtain ⟨V3, s0, s1, s2, s3, s4⟩ := fin V2 (nq + 1) g' (nxq + 1) z1 (by omega) (by omega) z3
      simp only [SX, r5, r7, r8, r9, r10, r11, ldR (o := 0) (rwOf e4) rfl, p1, ldR (o := 0) (rwOf y5) rfl, t1, ldR (o := 0) (rwOf yX) rfl, hw1.len len47, t3, i1, i2 _ (.refl _), t4, hc0, ldR (o := 0) (rwOf yA) rfl, z0, ldR (o := 0) (rwOf s0) rfl, t2, s1, Ok_some]
      exact ⟨s2, s3, .inl ⟨trivial, s4⟩⟩
    by_cases hc2 : c = 2
    · subst hc2
      have u1 := fun W' => oUn_neg (P := Try.prog) (W := W') (a := x.2)
      have u2 : ∀ W', oBin Try.prog .quo 3 false true (.int .i64 (IntKind.i64.wrap (-x.2))) (.int .i64 2) W' = some (.int .i64 (IntKind.i64.wrap ((IntKind.i64.wrap (-x.2)).tdiv 2)), W') := fun W' => oBin_quo (by omega)
      obtain ⟨rr, V2, g', z0, z1, z3⟩ := anySet_ok o hlk Q1 (by omega) x.1 (IntKind.i64.wrap ((IntKind.i64.wrap (-x.2)).tdiv 2))
      obtain ⟨V3, s0, s1, s2, s3, s4⟩ := fin V2 nq g' nxq z1 (by omega) (by omega) z3
      simp only [SX, r5, r7, r8, r9, r10, r11, ldR (o := 0) (rwOf e4) rfl, p1, ldR (o := 0) (rwOf y5) rfl, t1, ldR (o := 0) (rwOf yX) rfl, hw1.len len47, t3, i1, i2 _ (.refl _), t4, hc0, hc1, ldR (o := 0) (rwOf yA) rfl, u1, u2, z0, ldR (o := 0) (rwOf s0) rfl, t2, s1, Ok_some]
      exact ⟨s2, s3, .inl ⟨trivial, s4⟩⟩
    obtain ⟨V3, s0, s1, s2, s3, s4⟩ := fin V1 nq fq nxq Q1 (by omega) (by omega) (.refl _ _)
    simp only [SX, r5, r7, r8, r9, r10, r11, ldR (o := 0) (rwOf e4) rfl, p1, ldR (o := 0) (rwOf y5) rfl, t1, ldR (o := 0) (rwOf yX) rfl, hw1.len len47, t3, i1, i2 _ (.refl _), t4, hc0, hc1, hc2, t2, s1, Ok_some]
    exact ⟨s2, s3, .inl ⟨trivial, s4⟩⟩
  · rintro L N x V hs hV
    rcases hV with ⟨rfl, b1, b2, -, -, e2, e3, e4, e5⟩ | ⟨-, hV⟩
    · have gk : ∀ b, b ≠ W11.next → (V.kill W11.next).get b = V.get b := fun b hb => AW.get_kill_ne _ (Ne.symm hb)
      have w5 : (V.kill W11.next).get (W4.next + 2) = some (.cells [.int .i64 (L.length : Int)]) := by rw [gk _ (by omega)]; exact e5
      have w2 : (V.kill W11.next).get (W.next + 1) = some (.cells [.bool false]) := by rw [gk _ (by omega), e2 _ (by omega)]; exact x2
      have hv' : Ints (V.kill W11.next) v l := h2.mono ⟨by rw [AW.kill_next]; omega, fun b hb => by rw [gk b (by omega)]; exact e2 b hb⟩
      have e6 : ((L.length : Int) = (l.length : Int)) := by rw [hv_len hs]
      have st := stA (v := .bool true) (o := 0) w2 (by simp) rfl rfl
      rw [show ([.bool false] : List Value).set 0 (.bool true) = [.bool true] from rfl] at st
      have x3 : ((V.kill W11.next).put (W.next + 1) (.cells [.bool true])).get (W.next + 1) = some (.cells [.bool true]) := AW.get_put _ _ _
      simp only [SX, ldR (o := 0) (rwOf w5) rfl, hv'.len lenI, e6, awake_ok, st, oRes_L1, oL4, ldR (o := 0) (rwOf x3) rfl, Option.bind_some, Ok_some]
      refine ⟨trivial, by rw [AW.put_next, AW.kill_next]; omega, fun b hb => ?_⟩
      rw [AW.get_put_ne _ _ (by omega), gk b (by omega), e2 b (by omega), l2.get b hb]
    · exact hV.elim
end Go.Proofs.Ytkpgmabebjmahaa
/- What is handed in, opened. -/
namespace Go.Proofs.Ytkpgmabebjmahaa
open Go Go.Eng Go.RowKit
set_option linter.unusedVariables false
set_option linter.unusedSimpArgs false
set_option maxRecDepth 100000
abbrev globW : List (Nat × List Value) := [(0, [])]
section
variable {H : Type} {enc : TypeId × Value → H} {w : World} {σ : Inj} {W : AW} {v0 : Value} {d : DataW H} {p : List MemPlace} {r : Reach} {b0 : Nat}
theorem slice_of {t e : TypeId} (ht : Try.prog.underlying t = some (.slice e)) (hv : Value.okWide Try.prog w r b0 t v0) : ∃ a l c, v0 = .slice a l c := by
  unfold Value.okWide at hv
  rw [ht] at hv
  simp only at hv
  unfold Cell.okWide at hv
  rw [ht] at hv
  cases v0 with
  | slice a l c => exact ⟨a, l, c, rfl⟩
  | _ => simp only [Cell.ok, ht] at hv
theorem sim22 : simT Try.prog 3 22 = true := by kernel_rfl
theorem openInts (ho : Opened σ W w) (hv : Value.okWide Try.prog w r b0 22 v0) (h : DataW.Trod enc Try.prog w 0 (fun _ => true) true 22 v0 d p) :
    ∃ (σ2 : Inj) (W2 : AW) (l : List Int) (u : Value), Opened σ2 W2 w ∧ Sub σ σ2 ∧ Le W W2 ∧ VR σ2 u v0 ∧ Ints W2 u l := by
  obtain ⟨a, n, c, rfl⟩ := slice_of Try.underlying22 hv
  obtain ⟨m, hm⟩ := h
  obtain ⟨σ2, W2, cs2, o2, s2, l2, r2, a2⟩ := opens_trod sim22 hm σ W ho
  obtain ⟨u, l, rfl, hr⟩ := DR.ints (n := 1) a2 Try.underlying22 Try.underlying3 (by kernel_rfl)
  have hvr : VR σ2 u (.slice a n c) := r2.2 0 _ _ rfl rfl
  exact ⟨σ2, W2, l, u, o2, s2, l2, hvr, hr.1⟩
end
theorem row0 : (match (begin Try.prog (fun _ _ => 0) default).world.heap[0]? with | some (.cells _ _ _) => true | _ => false) = true := by kernel_rfl
theorem heap0 {w : World} (h : w.ShapedOpen Try.prog) : LaidG globW w.heap := by
  intro x hx
  obtain rfl : x = (0, []) := by simpa [globW] using hx
  have hr := row0
  split at hr
  case h_2 => cases hr
  rename_i c t fr hz
  have hlt : 0 < (begin Try.prog (fun _ _ => 0) default).world.heap.size := (Array.getElem?_eq_some_iff.1 hz).1
  obtain ⟨o, o0, h1, h2, h3⟩ := h.2 0 (by decide +kernel) hlt
  obtain rfl := Option.some.inj (hz.symm.trans h2)
  have ho : o = .cells c t fr := by
    split at h3
    · cases o <;> exact h3
    · exact h3
  subst ho
  exact ⟨c, t, fr, h1, fun i v hv => by simp at hv⟩
theorem openG {w : World} (h : w.ShapedOpen Try.prog) : Opened (σG globW) (WG globW 5) w := ⟨rel_G rfl (heap0 h), allRo_G, 0, _, rfl⟩
theorem kidsT : Kids Try.prog (· < Try.prog.types.size) := kids_rows (by kernel_rfl) (by kernel_rfl)
theorem fullT : ∀ t e, t < Try.prog.types.size → Try.prog.underlying t = some (.slice e) → 0 < Try.prog.cellsOf e := slices_full_of Try.prog (by kernel_rfl)
theorem own : ownKnob Try.prog.godebug = none := by kernel_rfl
/-- what is opened is called -/
theorem open_calls (hok : CalleeOK Try.prog PlanTab.ng omS) {w : World} {σ : Inj} {W : AW} (ho : Opened σ W w) {i : Nat} {args args' : List Value} (hr : LR σ args args') (h : omS (.func (.func i) #[] #[]) args W = some (.bool true, W)) :
    Calls Try.prog i args'.toArray w fun e w' => e = .returned (.bool true) ∧ Quiet w w' := by
  have hG : Glob σ [] := fun g hg => by cases hg
  exact om_calls hok ho.rel hG ho.ro hr rfl h
end Go.Proofs.Ytkpgmabebjmahaa
/- What is handed in, opened: pairs of numbers, bytes. -/
namespace Go.Proofs.Ytkpgmabebjmahaa
open Go Go.Eng Go.RowKit
set_option linter.unusedVariables false
set_option linter.unusedSimpArgs false
set_option maxRecDepth 100000
section
variable {H : Type} {enc : TypeId × Value → H} {w : World} {σ : Inj} {W : AW} {v0 : Value} {d : DataW H} {p : List MemPlace} {r : Reach} {b0 : Nat}
/-- rows of integers of a kind -/
theorem openRow {t e : TypeId} {k : IntKind} (hs : simT Try.prog 3 t = true) (ht : Try.prog.underlying t = some (.slice e)) (he : Try.prog.underlying e = some (.int k)) (hz : Try.prog.cellsOf e = 1) (ho : Opened σ W w) (hv : Value.okWide Try.prog w r b0 t v0) (h : DataW.Trod enc Try.prog w 0 (fun _ => true) true t v0 d p) :
    ∃ (σ2 : Inj) (W2 : AW) (l : List Int) (u : Value), Opened σ2 W2 w ∧ Sub σ σ2 ∧ Le W W2 ∧ VR σ2 u v0 ∧ Row W2 1 (intAt k) u l := by
  obtain ⟨a, n, c, rfl⟩ := slice_of ht hv
  obtain ⟨m, hm⟩ := h
  obtain ⟨σ2, W2, cs2, o2, s2, l2, r2, a2⟩ := opens_trod hs hm σ W ho
  obtain ⟨u, l, rfl, hr⟩ := DR.ints (n := 1) a2 ht he hz
  have hvr : VR σ2 u (.slice a n c) := r2.2 0 _ _ rfl rfl
  exact ⟨σ2, W2, l, u, o2, s2, l2, hvr, hr.1⟩
end
theorem liftV {σ σ' : Inj} {v v' : Value} (s : Sub σ σ') (h : VR σ v v') : VR σ' v v' := h.mono s
theorem liftI {W W' : AW} {k : IntKind} {v : Value} {l : List Int} (s : Le W W') (h : Row W 1 (intAt k) v l) : Row W' 1 (intAt k) v l := h.mono s
theorem sim47 : simT Try.prog 3 47 = true := by kernel_rfl
theorem ce5 : Try.prog.cellsOf 5 = 1 := by kernel_rfl
end Go.Proofs.Ytkpgmabebjmahaa
