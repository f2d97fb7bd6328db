/- Contracts of functions, and their laws. -/
import Derived.Test.YtkpgmabebjmahaaGreatSDec
import Derived.Test.YtkpgmabebjmahaaGreatOpnA
import Derived.Test.YtkpgmabebjmahaaGreatHpA
import Derived.Test.YtkpgmabebjmahaaGreatHpB
import Derived.Test.YtkpgmabebjmahaaGreatOpzA
import Derived.KernelRfl
/- The pile of a queue: its blocks, and what its methods do to them. -/
namespace Go.Proofs.YtkpgmabebjmahaaGreat
open Go Go.Eng Go.Hp
set_option linter.unusedVariables false
set_option linter.unusedSimpArgs false
set_option linter.unusedSectionVars false
set_option maxRecDepth 100000
theorem ldR {b o : Nat} {cs : List Value} {x : Value} {W : AW} (h : rwCells W b = some cs) (hv : cs[o]? = some x) : ldC (.pointer (some ⟨b, o, none⟩)) W = some (x, W) := ldC_ok (rwCells_cellsAt h) hv
theorem rwOf {W : AW} {b : Nat} {cs : List Value} (h : W.get b = some (.cells cs)) : rwCells W b = some cs := by unfold rwCells; rw [h]
structure En where
  b : Nat
  h : Int
  v : Int
abbrev enP (e : En) : Value := .pointer (some ⟨e.b, 0, none⟩)
abbrev enC (e : En) (i : Nat) : List Value := [.int .i64 e.h, .int .i64 e.v, .int .i64 (i : Int)]
def rowE (n : Nat) (f : Nat → En) : List Value := (List.range n).map fun i => enP (f i)
theorem rowE_len (n : Nat) (f : Nat → En) : (rowE n f).length = n := by simp [rowE]
theorem rowE_get {n : Nat} (f : Nat → En) {i : Nat} (h : i < n) : (rowE n f)[i]? = some (enP (f i)) := by
  unfold rowE
  rw [List.getElem?_map, List.getElem?_range h]; rfl
/-- the slice of a pile: nothing yet, or a block that is its own -/
inductive SlAt (W : AW) (n : Nat) (f : Nat → En) : Value → Option Nat → Prop
  | nil : n = 0 → SlAt W n f (.slice none 0 0) none
  | row (bl : Nat) (junk : List Value) : W.get bl = some (.cells (rowE n f ++ junk)) → bl < W.next → (∀ i, i < n → (f i).b ≠ bl) → SlAt W n f (.slice (some ⟨bl, 0, none⟩) n (BIG + 1)) (some bl)
structure Pile (W : AW) (n : Nat) (f : Nat → En) (lv : Value) (bl : Option Nat) : Prop where
  sl : SlAt W n f lv bl
  en : ∀ i, i < n → W.get (f i).b = some (.cells (enC (f i) i)) ∧ (f i).b < W.next
  inj : ∀ i j, i < n → j < n → (f i).b = (f j).b → i = j
theorem Pile.get {W : AW} {n : Nat} {f : Nat → En} {lv : Value} {bl : Option Nat} (h : Pile W n f lv bl) {i : Nat} (hi : i < n) : ∃ b, bl = some b ∧ (∀ W' k, ixS 1 lv (.int k (i : Int)) W' = some (.pointer (some ⟨b, i, none⟩), W')) ∧ ldC (.pointer (some ⟨b, i, none⟩)) W = some (enP (f i), W) := by
  cases h.sl with
  | nil h0 => omega
  | row b junk h1 h2 h3 =>
    refine ⟨b, rfl, fun W' k => by rw [ixS_ok hi, Nat.zero_add, Nat.mul_one], ldR (rwOf h1) ?_⟩
    rw [List.getElem?_append_left (by rw [rowE_len]; exact hi), rowE_get f hi]
/-- what a pile's methods may turn -/
def Own (n : Nat) (f : Nat → En) (bl : Option Nat) (b : Nat) : Prop := bl = some b ∨ ∃ i, i < n ∧ (f i).b = b
structure Fr (W W' : AW) (S : Nat → Prop) : Prop where
  next : W'.next = W.next
  get : ∀ b, ¬ S b → W'.get b = W.get b
theorem Fr.refl (W : AW) (S : Nat → Prop) : Fr W W S := ⟨rfl, fun _ _ => rfl⟩
theorem Fr.trans {A B C : AW} {S : Nat → Prop} (h : Fr A B S) (k : Fr B C S) : Fr A C S := ⟨k.next.trans h.next, fun b hb => (k.get b hb).trans (h.get b hb)⟩
theorem Fr.mono {A B : AW} {S T : Nat → Prop} (h : Fr A B S) (hst : ∀ b, S b → T b) : Fr A B T := ⟨h.next, fun b hb => h.get b (fun hs => hb (hst b hs))⟩
section
variable {W : AW} {q : Nat} {lv less c2 c3 : Value} {n : Nat} {f : Nat → En} {bl : Option Nat}
end
end Go.Proofs.YtkpgmabebjmahaaGreat
/- What is handed in, opened. -/
namespace Go.Proofs.YtkpgmabebjmahaaGreat
open Go Go.Eng Go.RowKit
set_option linter.unusedVariables false
set_option linter.unusedSimpArgs false
set_option maxRecDepth 100000
abbrev globW : List (Nat × List Value) := [(0, [])]
section
variable {H : Type} {enc : TypeId × Value → H} {w : World} {σ : Inj} {W : AW} {v0 : Value} {d : DataW H} {p : List MemPlace} {r : Reach} {b0 : Nat}
theorem slice_of {t e : TypeId} (ht : Tryz.prog.underlying t = some (.slice e)) (hv : Value.okWide Tryz.prog w r b0 t v0) : ∃ a l c, v0 = .slice a l c := by
  unfold Value.okWide at hv
  rw [ht] at hv
  simp only at hv
  unfold Cell.okWide at hv
  rw [ht] at hv
  cases v0 with
  | slice a l c => exact ⟨a, l, c, rfl⟩
  | _ => simp only [Cell.ok, ht] at hv
end
theorem row0 : (match (begin Tryz.prog (fun _ _ => 0) default).world.heap[0]? with | some (.cells _ _ _) => true | _ => false) = true := by kernel_rfl
theorem heap0 {w : World} (h : w.ShapedOpen Tryz.prog) : LaidG globW w.heap := by
  intro x hx
  obtain rfl : x = (0, []) := by simpa [globW] using hx
  have hr := row0
  split at hr
  case h_2 => cases hr
  rename_i c t fr hz
  have hlt : 0 < (begin Tryz.prog (fun _ _ => 0) default).world.heap.size := (Array.getElem?_eq_some_iff.1 hz).1
  obtain ⟨o, o0, h1, h2, h3⟩ := h.2 0 (by decide +kernel) hlt
  obtain rfl := Option.some.inj (hz.symm.trans h2)
  have ho : o = .cells c t fr := by
    split at h3
    · cases o <;> exact h3
    · exact h3
  subst ho
  exact ⟨c, t, fr, h1, fun i v hv => by simp at hv⟩
theorem openG {w : World} (h : w.ShapedOpen Tryz.prog) : Opened (σG globW) (WG globW 5) w := ⟨rel_G rfl (heap0 h), allRo_G, 0, _, rfl⟩
theorem kidsT : Kids Tryz.prog (· < Tryz.prog.types.size) := kids_rows (by kernel_rfl) (by kernel_rfl)
theorem fullT : ∀ t e, t < Tryz.prog.types.size → Tryz.prog.underlying t = some (.slice e) → 0 < Tryz.prog.cellsOf e := slices_full_of Tryz.prog (by kernel_rfl)
theorem own : ownKnob Tryz.prog.godebug = none := by kernel_rfl
/-- what is opened is called -/
theorem open_calls (hok : CalleeOK Tryz.prog PlanTab.ng omS) {w : World} {σ : Inj} {W : AW} (ho : Opened σ W w) {i : Nat} {args args' : List Value} (hr : LR σ args args') (h : omS (.func (.func i) #[] #[]) args W = some (.bool true, W)) :
    Calls Tryz.prog i args'.toArray w fun e w' => e = .returned (.bool true) ∧ Quiet w w' := by
  have hG : Glob σ [] := fun g hg => by cases hg
  exact om_calls hok ho.rel hG ho.ro hr rfl h
end Go.Proofs.YtkpgmabebjmahaaGreat
/- What is handed in, opened: pairs of numbers, bytes. -/
namespace Go.Proofs.YtkpgmabebjmahaaGreat
open Go Go.Eng Go.RowKit
set_option linter.unusedVariables false
set_option linter.unusedSimpArgs false
set_option maxRecDepth 100000
section
variable {H : Type} {enc : TypeId × Value → H} {w : World} {σ : Inj} {W : AW} {v0 : Value} {d : DataW H} {p : List MemPlace} {r : Reach} {b0 : Nat}
end
theorem liftV {σ σ' : Inj} {v v' : Value} (s : Sub σ σ') (h : VR σ v v') : VR σ' v v' := h.mono s
end Go.Proofs.YtkpgmabebjmahaaGreat
/- The pile of a queue: push and pop. -/
namespace Go.Proofs.YtkpgmabebjmahaaGreat
open Go Go.Eng Go.Hp
set_option linter.unusedVariables false
set_option linter.unusedSimpArgs false
set_option linter.unusedSectionVars false
set_option maxRecDepth 100000
section
variable {W : AW} {q : Nat} {lv less c2 c3 : Value} {n : Nat} {f : Nat → En} {bl : Option Nat}
theorem SlAt.lt {W : AW} {lv : Value} {bl : Option Nat} (h : SlAt W n f lv bl) {b : Nat} (hb : bl = some b) : b < W.next := by
  cases h with
  | nil h0 => cases hb
  | row b junk h1 h2 h3 => cases hb; exact h2
end
end Go.Proofs.YtkpgmabebjmahaaGreat
/- container/heap over a queue's pile. -/
namespace Go.Proofs.YtkpgmabebjmahaaGreat
open Go Go.Eng Go.Hp
set_option linter.unusedVariables false
set_option linter.unusedSimpArgs false
set_option linter.unusedSectionVars false
set_option maxRecDepth 100000
theorem td2 (i : Nat) : ((i : Int) - 1).tdiv 2 = (par i : Int) := by
  unfold par
  rcases Nat.eq_zero_or_pos i with rfl | h
  · rfl
  · rw [Int.tdiv_eq_ediv_of_nonneg (by omega)]
    omega
theorem par_le (i : Nat) : par i ≤ i := by unfold par; omega
section
variable {W : AW} {q : Nat} {lv less c2 c3 : Value} {n : Nat} {f : Nat → En} {bl : Option Nat} {ls : Int → Int → Bool}
end
end Go.Proofs.YtkpgmabebjmahaaGreat
/- container/heap over a queue's pile: down, push, pop. -/
namespace Go.Proofs.YtkpgmabebjmahaaGreat
open Go Go.Eng Go.Hp
set_option linter.unusedVariables false
set_option linter.unusedSimpArgs false
set_option linter.unusedSectionVars false
set_option maxRecDepth 100000
theorem gc_two {W W' : AW} (v : Value) : gc W (v, W') = (v, W') ∨ (gc W (v, W') = (v, W) ∧ Le W W') := by
  unfold gc
  split
  · rename_i h; exact .inr ⟨rfl, h.2⟩
  · exact .inl rfl
section
variable {W : AW} {q : Nat} {lv less c2 c3 : Value} {n : Nat} {f : Nat → En} {bl : Option Nat} {ls : Int → Int → Bool}
theorem ord_irr {α : Type} {lt : α → α → Bool} (o : Ord lt) (a : α) : lt a a = false := by
  cases h : lt a a with
  | false => rfl
  | true => have := o.asym _ _ h; rw [h] at this; exact this
/-- beyond n nothing is turned -/
def Same (n : Nat) (f g : Nat → En) : Prop := ∀ i, n ≤ i → g i = f i
theorem Own.low {n N : Nat} {f g : Nat → En} {bl : Option Nat} (h : (all n g).Perm (all n f)) (hs : Same n f g) {b : Nat} (ho : Own N g bl b) (hN : n ≤ N) : Own N f bl b := by
  rcases ho with ho | ⟨i, hi, rfl⟩
  · exact .inl ho
  · by_cases hin : i < n
    · obtain ⟨k, hk, e⟩ := all_mem.1 (h.mem_iff.1 (all_mem.2 ⟨i, hin, rfl⟩))
      exact .inr ⟨k, by omega, by rw [e]⟩
    · exact .inr ⟨i, hi, by rw [hs i (by omega)]⟩
end
end Go.Proofs.YtkpgmabebjmahaaGreat
/- container/heap over a queue's pile: push, pop. -/
namespace Go.Proofs.YtkpgmabebjmahaaGreat
open Go Go.Eng Go.Hp
set_option linter.unusedVariables false
set_option linter.unusedSimpArgs false
set_option linter.unusedSectionVars false
set_option maxRecDepth 100000
section
variable {W : AW} {q : Nat} {lv less c2 c3 : Value} {n : Nat} {f : Nat → En} {bl : Option Nat} {ls : Int → Int → Bool}
end
end Go.Proofs.YtkpgmabebjmahaaGreat
/- A queue and its methods. -/
namespace Go.Proofs.YtkpgmabebjmahaaGreat
open Go Go.Eng Go.Hp
set_option linter.unusedVariables false
set_option linter.unusedSimpArgs false
set_option linter.unusedSectionVars false
set_option maxRecDepth 100000
section
variable {W : AW} {q : Nat} {lv less c2 c3 : Value} {n : Nat} {f : Nat → En} {bl : Option Nat} {ls : Int → Int → Bool}
end
/-- what changes lies in In -/
structure Gr (W W' : AW) (In : Nat → Prop) : Prop where
  next : W.next ≤ W'.next
  get : ∀ b, b < W.next → ¬ In b → W'.get b = W.get b
theorem Gr.refl (W : AW) (In : Nat → Prop) : Gr W W In := ⟨Nat.le_refl _, fun _ _ _ => rfl⟩
theorem Gr.trans {A B C : AW} {In : Nat → Prop} (h : Gr A B In) (k : Gr B C In) : Gr A C In := ⟨Nat.le_trans h.next k.next, fun b hb hi => (k.get b (Nat.lt_of_lt_of_le hb h.next) hi).trans (h.get b hb hi)⟩
section
variable {W : AW} {In : Nat → Prop} {q mh : Nat} {less : Value} {ls : Int → Int → Bool} {nx : Int} {n : Nat} {f : Nat → En}
end
end Go.Proofs.YtkpgmabebjmahaaGreat
/- A queue: New and Push. -/
namespace Go.Proofs.YtkpgmabebjmahaaGreat
open Go Go.Eng Go.Hp
set_option linter.unusedVariables false
set_option linter.unusedSimpArgs false
set_option linter.unusedSectionVars false
set_option maxRecDepth 100000
section
variable {W : AW} {In : Nat → Prop} {q mh : Nat} {less : Value} {ls : Int → Int → Bool} {nx : Int} {n : Nat} {f : Nat → En}
end
end Go.Proofs.YtkpgmabebjmahaaGreat
/- The pile of a queue: its blocks, and what its methods do to them. -/
namespace Go.Proofs.YtkpgmabebjmahaaGreat.Ho
open Go Go.Eng Go.Hp
set_option linter.unusedVariables false
set_option linter.unusedSimpArgs false
set_option linter.unusedSectionVars false
set_option maxRecDepth 100000
theorem ldR {b o : Nat} {cs : List Value} {x : Value} {W : AW} (h : rwCells W b = some cs) (hv : cs[o]? = some x) : ldC (.pointer (some ⟨b, o, none⟩)) W = some (x, W) := ldC_ok (rwCells_cellsAt h) hv
theorem rwOf {W : AW} {b : Nat} {cs : List Value} (h : W.get b = some (.cells cs)) : rwCells W b = some cs := by unfold rwCells; rw [h]
/-- one cell is stored -/
theorem stA {W : AW} {b o : Nat} {cs : List Value} {v : Value} (h : W.get b = some (.cells cs)) (ho : o < cs.length) (hv : v.cells = #[v]) (h1 : Eng.one v = true) : stV 1 (.pointer (some ⟨b, o, none⟩)) v W = some (undef, W.put b (.cells (cs.set o v))) := by
  rw [stV_one hv h1, rwOf h, Option.bind_some, if_pos ho]
theorem lenE : ((#[99] : Array TypeId)[0]?).bind Tryz.prog.underlying = some (.slice 106) := by kernel_rfl
/-- a pair of numbers -/
abbrev hoV (v : Int × Int) : Value := .agg #[.int .i64 v.1, .int .i64 v.2]
structure En where
  b : Nat
  h : Int
  v : Int × Int
abbrev enP (e : En) : Value := .pointer (some ⟨e.b, 0, none⟩)
abbrev enC (e : En) (i : Nat) : List Value := [.int .i64 e.h, .int .i64 e.v.1, .int .i64 e.v.2, .int .i64 (i : Int)]
def rowE (n : Nat) (f : Nat → En) : List Value := (List.range n).map fun i => enP (f i)
theorem rowE_len (n : Nat) (f : Nat → En) : (rowE n f).length = n := by simp [rowE]
theorem rowE_get {n : Nat} (f : Nat → En) {i : Nat} (h : i < n) : (rowE n f)[i]? = some (enP (f i)) := by
  unfold rowE
  rw [List.getElem?_map, List.getElem?_range h]; rfl
theorem rowE_succ (n : Nat) (f : Nat → En) : rowE (n + 1) f = rowE n f ++ [enP (f n)] := by
  unfold rowE
  rw [List.range_succ, List.map_append]; rfl
theorem rowE_congr {n : Nat} {f g : Nat → En} (h : ∀ i, i < n → f i = g i) : rowE n f = rowE n g := by
  unfold rowE
  exact List.map_congr_left fun i hi => by rw [h i (List.mem_range.1 hi)]
theorem rowE_set {n : Nat} (f : Nat → En) {i k : Nat} (hi : i < n) (hk : k < n) (j : List Value) : ((rowE n f ++ j).set i (enP (f k))).set k (enP (f i)) = rowE n (swp f i k) ++ j := by
  rw [List.set_append_left _ _ (by rw [rowE_len]; exact hi), List.set_append_left _ _ (by rw [List.length_set, rowE_len]; exact hk)]
  congr 1
  apply List.ext_getElem?
  intro m
  by_cases hm : m < n
  · rw [rowE_get _ hm, List.getElem?_set, List.getElem?_set]
    simp only [List.length_set, rowE_len]
    by_cases h1 : k = m
    · subst h1
      rw [if_pos rfl, if_pos hk, swp_r]
    · rw [if_neg h1]
      by_cases h2 : i = m
      · subst h2
        rw [if_pos rfl, if_pos hi, swp_l]
      · rw [if_neg h2, rowE_get _ hm, swp_ne _ (fun e => h2 e.symm) (fun e => h1 e.symm)]
  · rw [List.getElem?_eq_none (by simp [rowE_len]; omega), List.getElem?_eq_none (by simp [rowE_len]; omega)]
/-- the slice of a pile: nothing yet, or a block that is its own -/
inductive SlAt (W : AW) (n : Nat) (f : Nat → En) : Value → Option Nat → Prop
  | nil : n = 0 → SlAt W n f (.slice none 0 0) none
  | row (bl : Nat) (junk : List Value) : W.get bl = some (.cells (rowE n f ++ junk)) → bl < W.next → (∀ i, i < n → (f i).b ≠ bl) → SlAt W n f (.slice (some ⟨bl, 0, none⟩) n (BIG + 1)) (some bl)
structure Pile (W : AW) (n : Nat) (f : Nat → En) (lv : Value) (bl : Option Nat) : Prop where
  sl : SlAt W n f lv bl
  en : ∀ i, i < n → W.get (f i).b = some (.cells (enC (f i) i)) ∧ (f i).b < W.next
  inj : ∀ i j, i < n → j < n → (f i).b = (f j).b → i = j
theorem Pile.len {W : AW} {n : Nat} {f : Nat → En} {lv : Value} {bl : Option Nat} (h : Pile W n f lv bl) (W' : AW) : oBuiltin Tryz.prog .len #[99] 3 #[false] [lv] W' = some (.int .i64 (n : Int), W') := by
  cases h.sl with
  | nil h0 => subst h0; exact len_slice lenE _ _ _
  | row bl junk => exact len_slice lenE _ _ _
theorem Pile.get {W : AW} {n : Nat} {f : Nat → En} {lv : Value} {bl : Option Nat} (h : Pile W n f lv bl) {i : Nat} (hi : i < n) : ∃ b, bl = some b ∧ (∀ W' k, ixS 1 lv (.int k (i : Int)) W' = some (.pointer (some ⟨b, i, none⟩), W')) ∧ ldC (.pointer (some ⟨b, i, none⟩)) W = some (enP (f i), W) := by
  cases h.sl with
  | nil h0 => omega
  | row b junk h1 h2 h3 =>
    refine ⟨b, rfl, fun W' k => by rw [ixS_ok hi, Nat.zero_add, Nat.mul_one], ldR (rwOf h1) ?_⟩
    rw [List.getElem?_append_left (by rw [rowE_len]; exact hi), rowE_get f hi]
theorem Pile.cell {W : AW} {n : Nat} {f : Nat → En} {lv : Value} {bl : Option Nat} (h : Pile W n f lv bl) {i : Nat} (hi : i < n) : ldC (.pointer (some ⟨(f i).b, 0, none⟩)) W = some (.int .i64 (f i).h, W) ∧ ldA 2 (.pointer (some ⟨(f i).b, 1, none⟩)) W = some (hoV (f i).v, W) :=
  ⟨ldR (rwOf (h.en i hi).1) rfl, ldA_ok (rwCells_cellsAt (rwOf (h.en i hi).1)) rfl⟩
/-- what a pile's methods may turn -/
def Own (n : Nat) (f : Nat → En) (bl : Option Nat) (b : Nat) : Prop := bl = some b ∨ ∃ i, i < n ∧ (f i).b = b
structure Fr (W W' : AW) (S : Nat → Prop) : Prop where
  next : W'.next = W.next
  get : ∀ b, ¬ S b → W'.get b = W.get b
theorem Fr.refl (W : AW) (S : Nat → Prop) : Fr W W S := ⟨rfl, fun _ _ => rfl⟩
theorem Fr.trans {A B C : AW} {S : Nat → Prop} (h : Fr A B S) (k : Fr B C S) : Fr A C S := ⟨k.next.trans h.next, fun b hb => (k.get b hb).trans (h.get b hb)⟩
theorem Fr.mono {A B : AW} {S T : Nat → Prop} (h : Fr A B S) (hst : ∀ b, S b → T b) : Fr A B T := ⟨h.next, fun b hb => h.get b (fun hs => hb (hst b hs))⟩
/-- the queue's block, with its pile -/
structure QP (W : AW) (q : Nat) (lv less c2 c3 : Value) (n : Nat) (f : Nat → En) (bl : Option Nat) : Prop where
  qc : W.get q = some (.cells [lv, less, c2, c3])
  lt : q < W.next
  pile : Pile W n f lv bl
  bq : bl ≠ some q
  eq : ∀ i, i < n → (f i).b ≠ q
section
variable {W : AW} {q : Nat} {lv less c2 c3 : Value} {n : Nat} {f : Nat → En} {bl : Option Nat}
theorem QP.l0 (h : QP W q lv less c2 c3 n f bl) : ldC (.pointer (some ⟨q, 0, none⟩)) W = some (lv, W) := ldR (rwOf h.qc) rfl
theorem QP.l1 (h : QP W q lv less c2 c3 n f bl) : ldC (.pointer (some ⟨q, 1, none⟩)) W = some (less, W) := ldR (rwOf h.qc) rfl
theorem QP.l2 (h : QP W q lv less c2 c3 n f bl) : ldC (.pointer (some ⟨q, 2, none⟩)) W = some (c2, W) := ldR (rwOf h.qc) rfl
theorem QP.l3 (h : QP W q lv less c2 c3 n f bl) : ldC (.pointer (some ⟨q, 3, none⟩)) W = some (c3, W) := ldR (rwOf h.qc) rfl
theorem pLen_ok (h : QP W q lv less c2 c3 n f bl) : omS (.func (.func 116) #[] #[]) [.pointer (some ⟨q, 0, none⟩)] W = some (.int .i64 (n : Int), W) := by
  refine om_drop rfl ?_ heaps_pileapi_HoEntry_Len_om
  unfold heaps_pileapi_HoEntry_Len
  simp only [SX, oNilCheck_ptr, Nat.zero_add, h.l0, h.pile.len, Ok_some]
  exact ⟨trivial, .refl _⟩
/-- the order of the entries -/
def bef (ls : Int × Int → Int × Int → Bool) (a b : En) : Bool := ls a.v b.v || (!ls b.v a.v && decide (a.h < b.h))
/-- a function's value that is an order -/
def IsLess (less : Value) (ls : Int × Int → Int × Int → Bool) : Prop := ∀ a b W, omS less [hoV a, hoV b] W = some (.bool (ls a b), W)
theorem pBefore_ok {ls : Int × Int → Int × Int → Bool} (hl : IsLess less ls) (h : QP W q lv less c2 c3 n f bl) {i k : Nat} (hi : i < n) (hk : k < n) : omS (.func (.func 65) #[] #[]) [.pointer (some ⟨q, 0, none⟩), enP (f i), enP (f k)] W = some (.bool (bef ls (f i) (f k)), W) := by
  refine om_drop rfl ?_ heaps_pileapi_HoEntry_before_om
  unfold heaps_pileapi_HoEntry_before bef
  obtain ⟨a1, a2⟩ := h.pile.cell hi
  obtain ⟨b1, b2⟩ := h.pile.cell hk
  simp only [SX, oNilCheck_ptr, Nat.zero_add, h.l1, a2, b2, hl (f i).v (f k).v]
  cases ls (f i).v (f k).v
  case true =>
    simp only [SX, Ok_some]
    exact ⟨by simp, .refl _⟩
  simp only [SX, oNilCheck_ptr, Nat.zero_add, h.l1, a2, b2, hl (f k).v (f i).v]
  cases ls (f k).v (f i).v
  case true =>
    simp only [SX, Ok_some]
    exact ⟨by simp, .refl _⟩
  simp only [SX, oNilCheck_ptr, Nat.zero_add, a1, b1, Ok_some]
  exact ⟨by simp, .refl _⟩
theorem pLess_ok {ls : Int × Int → Int × Int → Bool} (hl : IsLess less ls) (h : QP W q lv less c2 c3 n f bl) {i k : Nat} (hi : i < n) (hk : k < n) : omS (.func (.func 117) #[] #[]) [.pointer (some ⟨q, 0, none⟩), .int .i64 (i : Int), .int .i64 (k : Int)] W = some (.bool (bef ls (f i) (f k)), W) := by
  refine om_drop rfl ?_ heaps_pileapi_HoEntry_Less_om
  unfold heaps_pileapi_HoEntry_Less
  obtain ⟨b, -, a1, a2⟩ := h.pile.get hi
  obtain ⟨b', -, b1, b2⟩ := h.pile.get hk
  simp only [SX, oNilCheck_ptr, Nat.zero_add, h.l0, a1, a2, b1, b2, pBefore_ok hl h hi hk, Ok_some]
  exact ⟨trivial, .refl _⟩
theorem pSwap_ok (h : QP W q lv less c2 c3 n f bl) {i k : Nat} (hi : i < n) (hk : k < n) : ∃ W', omS (.func (.func 120) #[] #[]) [.pointer (some ⟨q, 0, none⟩), .int .i64 (i : Int), .int .i64 (k : Int)] W = some (.tuple #[], W') ∧ QP W' q lv less c2 c3 n (swp f i k) bl ∧ Fr W W' (Own n f bl) := by
  have main : Ok (heaps_pileapi_HoEntry_Swap omS (.pointer (some ⟨q, 0, none⟩)) (.int .i64 (i : Int)) (.int .i64 (k : Int)) W) fun r => r.1 = .tuple #[] ∧ QP r.2 q lv less c2 c3 n (swp f i k) bl ∧ Fr W r.2 (Own n f bl) := by
    unfold heaps_pileapi_HoEntry_Swap
    obtain ⟨hq, hlt, ⟨hsl, hen, hinj⟩, hbq, heq⟩ := h
    cases hsl with
    | nil h0 => omega
    | row b junk h1 h2 h3 =>
      have ix : ∀ {j : Nat} (hj : j < n) (W' : AW) (kk : IntKind), ixS 1 (.slice (some ⟨b, 0, none⟩) n (BIG + 1)) (.int kk (j : Int)) W' = some (.pointer (some ⟨b, j, none⟩), W') := fun hj W' kk => by rw [ixS_ok hj, Nat.zero_add, Nat.mul_one]
      have hbq' : b ≠ q := fun e => hbq (by rw [e])
      have hl0 : ∀ {W' : AW}, W'.get q = W.get q → ldC (.pointer (some ⟨q, 0, none⟩)) W' = some (.slice (some ⟨b, 0, none⟩) n (BIG + 1), W') := fun e => ldR (rwOf (e.trans hq)) rfl
      have g1 : ∀ {j : Nat}, j < n → (rowE n f ++ junk)[j]? = some (enP (f j)) := fun hj => by rw [List.getElem?_append_left (by rw [rowE_len]; exact hj), rowE_get f hj]
      have hlen : ∀ {j : Nat}, j < n → j < (rowE n f ++ junk).length := fun hj => by rw [List.length_append, rowE_len]; omega
      have s1 := stA (W := W) (v := enP (f k)) h1 (hlen hi) rfl rfl
      have hA : (W.put b (.cells ((rowE n f ++ junk).set i (enP (f k))))).get b = some (.cells ((rowE n f ++ junk).set i (enP (f k)))) := AW.get_put _ _ _
      have s2 := stA (v := enP (f i)) hA (by rw [List.length_set]; exact hlen hk) rfl rfl
      rw [rowE_set f hi hk] at s2
      have hB : ∀ X : AW, (X.put b (.cells (rowE n (swp f i k) ++ junk))).get b = some (.cells (rowE n (swp f i k) ++ junk)) := fun X => AW.get_put _ _ _
      simp only [SX, oNilCheck_ptr, Nat.zero_add, hl0 rfl, ix hi, ix hk, ldR (rwOf h1) (g1 hi), ldR (rwOf h1) (g1 hk), s1, s2]
      generalize hW2 : (W.put b (.cells ((rowE n f ++ junk).set i (enP (f k))))).put b (.cells (rowE n (swp f i k) ++ junk)) = W2 at *
      have e2 : ∀ c, c ≠ b → W2.get c = W.get c := fun c hc => by rw [← hW2, AW.get_put_ne _ _ (Ne.symm hc), AW.get_put_ne _ _ (Ne.symm hc)]
      have n2 : W2.next = W.next := by rw [← hW2, AW.put_next, AW.put_next]
      have b2 : W2.get b = some (.cells (rowE n (swp f i k) ++ junk)) := by rw [← hW2]; exact AW.get_put _ _ _
      have g2 : ∀ {j : Nat}, j < n → (rowE n (swp f i k) ++ junk)[j]? = some (enP (swp f i k j)) := fun hj => by rw [List.getElem?_append_left (by rw [rowE_len]; exact hj), rowE_get _ hj]
      have ei := hen i hi
      have ek := hen k hk
      have c1 : W2.get (f k).b = some (.cells (enC (f k) k)) := (e2 _ (h3 k hk)).trans ek.1
      have s3 := stA (v := .int .i64 (i : Int)) (o := 3) c1 (by simp) rfl rfl
      have s3' : ((enC (f k) k).set 3 (.int .i64 (i : Int))) = enC (f k) i := rfl
      rw [s3'] at s3
      simp only [SX, oNilCheck_ptr, Nat.zero_add, hl0 (e2 _ (Ne.symm hbq')), ix hi, ix hk, ldR (rwOf b2) (g2 hi), ldR (rwOf b2) (g2 hk), swp_l, swp_r, s3]
      generalize hW3 : W2.put (f k).b (.cells (enC (f k) i)) = W3 at *
      have c2' : ∃ p, W3.get (f i).b = some (.cells (enC (f i) p)) ∧ (i = k → p = i) := by
        by_cases hik : i = k
        · subst hik
          exact ⟨i, by rw [← hW3]; exact AW.get_put _ _ _, fun _ => rfl⟩
        · refine ⟨i, ?_, fun e => absurd e hik⟩
          rw [← hW3, AW.get_put_ne _ _ (fun e => hik (hinj k i hk hi e).symm), e2 _ (h3 i hi)]
          exact ei.1
      obtain ⟨p, c2', -⟩ := c2'
      have s4 := stA (v := .int .i64 (k : Int)) (o := 3) c2' (by simp) rfl rfl
      have s4' : ((enC (f i) p).set 3 (.int .i64 (k : Int))) = enC (f i) k := rfl
      rw [s4'] at s4
      simp only [SX, oNilCheck_ptr, Nat.zero_add, s4, Ok_some]
      have e4 : ∀ c, c ≠ b → c ≠ (f k).b → c ≠ (f i).b → (W3.put (f i).b (.cells (enC (f i) k))).get c = W.get c := fun c x1 x2 x3 => by rw [AW.get_put_ne _ _ (Ne.symm x3), ← hW3, AW.get_put_ne _ _ (Ne.symm x2), e2 _ x1]
      have n4 : (W3.put (f i).b (.cells (enC (f i) k))).next = W.next := by rw [AW.put_next, ← hW3, AW.put_next, n2]
      have b4 : (W3.put (f i).b (.cells (enC (f i) k))).get b = some (.cells (rowE n (swp f i k) ++ junk)) := by rw [AW.get_put_ne _ _ (h3 i hi), ← hW3, AW.get_put_ne _ _ (h3 k hk)]; exact b2
      have hb : ∀ j, (swp f i k j).b = (f j).b ∨ (j = i ∧ (swp f i k j).b = (f k).b) ∨ (j = k ∧ (swp f i k j).b = (f i).b) := fun j => by
        by_cases x1 : j = i
        · subst x1; rw [swp_l]; exact .inr (.inl ⟨rfl, rfl⟩)
        · by_cases x2 : j = k
          · subst x2; rw [swp_r]; exact .inr (.inr ⟨rfl, rfl⟩)
          · rw [swp_ne _ x1 x2]; exact .inl rfl
      have hcomp : ∀ j, swp f i k j = f (swN i k j) := fun j => by rw [swp_comp]
      refine ⟨trivial, ⟨?_, by rw [n4]; exact hlt, ⟨.row b junk b4 (by rw [n4]; exact h2) (fun j hj => by rw [hcomp]; exact h3 _ (swN_lt hi hk hj)), fun j hj => ?_, fun j m hj hm e => ?_⟩, hbq, fun j hj => by rw [hcomp]; exact heq _ (swN_lt hi hk hj)⟩, n4, fun c hc => ?_⟩
      · rw [e4 q (Ne.symm hbq') (Ne.symm (heq k hk)) (Ne.symm (heq i hi))]; exact hq
      · rw [n4, hcomp]
        refine ⟨?_, (hen _ (swN_lt hi hk hj)).2⟩
        by_cases x1 : j = i
        · subst x1
          have : swN j k j = k := swp_l id j k
          rw [this]
          by_cases x2 : j = k
          · subst x2; exact AW.get_put _ _ _
          · rw [AW.get_put_ne _ _ (fun e => x2 (hinj j k hi hk e)), ← hW3]; exact AW.get_put _ _ _
        · by_cases x2 : j = k
          · subst x2
            have : swN i j j = i := swp_r id i j
            rw [this]
            exact AW.get_put _ _ _
          · have : swN i k j = j := swp_ne id x1 x2
            rw [this, e4 _ (h3 j hj) (fun e => x2 (hinj j k hj hk e)) (fun e => x1 (hinj j i hj hi e))]
            exact (hen j hj).1
      · rw [hcomp, hcomp] at e
        have := hinj _ _ (swN_lt hi hk hj) (swN_lt hi hk hm) e
        have := congrArg (swN i k) this
        rwa [swN_swN, swN_swN] at this
      · exact e4 c (fun e => hc (.inl (by rw [e]))) (fun e => hc (.inr ⟨k, hk, e.symm⟩)) (fun e => hc (.inr ⟨i, hi, e.symm⟩))
  obtain ⟨⟨r, W'⟩, h1, h2, h3⟩ := main
  simp only at h2 h3
  subst h2
  exact ⟨W', by rw [heaps_pileapi_HoEntry_Swap_om h1, gc_not rfl], h3⟩
end
end Go.Proofs.YtkpgmabebjmahaaGreat.Ho
/- The pile of a queue: push and pop. -/
namespace Go.Proofs.YtkpgmabebjmahaaGreat.Ho
open Go Go.Eng Go.Hp
set_option linter.unusedVariables false
set_option linter.unusedSimpArgs false
set_option linter.unusedSectionVars false
set_option maxRecDepth 100000
theorem ap104 : appOk Tryz.prog #[99, 99] 1 8 = true := by kernel_rfl
theorem bs104 (v : Option Addr) (W : AW) : oBuildSlice Tryz.prog 99 1 [(0, .pointer v)] W = some (.slice (some ⟨W.next, 0, none⟩) 1 1, W.add (.cells [.pointer v])) := Eq.trans (by kernel_rfl) rfl
theorem as127 (v : Value) (W : AW) : oAssert Tryz.prog (.iface 106 v) 106 false W = some (v, W) := Eq.trans (by kernel_rfl) rfl
theorem ki127 (v : Value) (W : AW) : oMkIface Tryz.prog 106 v W = some (.iface 106 v, W) := Eq.trans (by kernel_rfl) rfl
theorem ki103 (v : Value) (W : AW) : oMkIface Tryz.prog 110 v W = some (.iface 110 v, W) := Eq.trans (by kernel_rfl) rfl
/-- one more at the end -/
def snoc (n : Nat) (f : Nat → En) (e : En) : Nat → En := fun i => if i = n then e else f i
theorem snoc_lt {n i : Nat} {f : Nat → En} {e : En} (h : i < n) : snoc n f e i = f i := if_neg (by omega)
theorem snoc_n (n : Nat) (f : Nat → En) (e : En) : snoc n f e n = e := if_pos rfl
theorem all_snoc (n : Nat) (f : Nat → En) (e : En) : all (n + 1) (snoc n f e) = all n f ++ [e] := by
  rw [all_succ, snoc_n]
  congr 1
  unfold all
  exact List.map_congr_left fun i hi => snoc_lt (List.mem_range.1 hi)
theorem rowE_snoc (n : Nat) (f : Nat → En) (e : En) : rowE (n + 1) (snoc n f e) = rowE n f ++ [enP e] := by
  rw [rowE_succ, snoc_n, rowE_congr (g := f) fun i hi => snoc_lt hi]
section
variable {W : AW} {q : Nat} {lv less c2 c3 : Value} {n : Nat} {f : Nat → En} {bl : Option Nat}
theorem pApp {W : AW} {lv : Value} {bl : Option Nat} (h : SlAt W n f lv bl) (hn : n ≤ 10000) {b c : Nat} {x : Value} (hc : cellsAt W b = some [x]) (hx : Eng.one x = true) : ∃ W3, aAppend Tryz.prog W #[99, 99] lv (.slice (some ⟨b, 0, none⟩) 1 c) = some (.slice (some ⟨W.next, 0, none⟩) (n + 1) (BIG + 1), W3) ∧ W3.next = W.next + 1 ∧ W3.get W.next = some (.cells (rowE n f ++ [x])) ∧ ∀ b, b < W.next → bl ≠ some b → W3.get b = W.get b := by
  cases h with
  | nil h0 =>
    subst h0
    exact ⟨_, app_nil (new := [x]) ap104 hc rfl rfl (by omega) (by simp [hx]) (by omega) (by omega), rfl, AW.get_add _ _, fun d hd _ => AW.get_add_ne _ _ (by omega)⟩
  | row B junk h1 h2 h3 =>
    refine ⟨_, app_on2 (new := [x]) (n := 1) (m := n) ap104 hc rfl rfl (by omega) (by simp [hx]) h1 (by rw [List.length_append, rowE_len]; omega) (by omega) (by omega), rfl, ?_, fun d hd hne => ?_⟩
    · have := AW.get_add (W.kill B) (.cells ((rowE n f ++ junk).take (n * 1) ++ [x]))
      rw [AW.kill_next] at this
      rw [this, Nat.mul_one, List.take_append_of_le_length (by rw [rowE_len]; omega), List.take_of_length_le (by rw [rowE_len]; omega)]
    · rw [AW.get_add_ne _ _ (by rw [AW.kill_next]; omega), AW.get_kill_ne _ (fun e => hne (by rw [e]))]
theorem SlAt.keep {W W' : AW} {lv : Value} {bl : Option Nat} (h : SlAt W n f lv bl) (hn : W.next ≤ W'.next) (hg : ∀ b, bl = some b → W'.get b = W.get b) : SlAt W' n f lv bl := by
  cases h with
  | nil h0 => exact .nil h0
  | row b junk h1 h2 h3 => exact .row b junk ((hg b rfl).trans h1) (by omega) h3
theorem SlAt.lt {W : AW} {lv : Value} {bl : Option Nat} (h : SlAt W n f lv bl) {b : Nat} (hb : bl = some b) : b < W.next := by
  cases h with
  | nil h0 => cases hb
  | row b junk h1 h2 h3 => cases hb; exact h2
theorem SlAt.ne {W : AW} {lv : Value} {bl : Option Nat} (h : SlAt W n f lv bl) {i : Nat} (hi : i < n) : bl ≠ some (f i).b := by
  cases h with
  | nil h0 => omega
  | row b junk h1 h2 h3 => exact fun e => h3 i hi (by injection e with e; exact e.symm)
theorem pPush_ok (h : QP W q lv less c2 c3 n f bl) (hn : n ≤ 10000) {e : En} {p : Value} (he : W.get e.b = some (.cells [.int .i64 e.h, .int .i64 e.v.1, .int .i64 e.v.2, p])) (hlt : e.b < W.next) (hq : e.b ≠ q) (hbl : bl ≠ some e.b) (hne : ∀ i, i < n → (f i).b ≠ e.b) :
    ∃ W' lv' b', omS (.func (.func 119) #[] #[]) [.pointer (some ⟨q, 0, none⟩), .iface 106 (enP e)] W = some (.tuple #[], W') ∧ QP W' q lv' less c2 c3 (n + 1) (snoc n f e) (some b') ∧ W.next ≤ b' ∧ W.next ≤ W'.next ∧ ∀ b, b < W.next → b ≠ q → b ≠ e.b → bl ≠ some b → W'.get b = W.get b := by
  have main : Ok (heaps_pileapi_HoEntry_Push omS (.pointer (some ⟨q, 0, none⟩)) (.iface 106 (enP e)) W) fun r => r.1 = .tuple #[] ∧ ∃ lv' b', QP r.2 q lv' less c2 c3 (n + 1) (snoc n f e) (some b') ∧ W.next ≤ b' ∧ W.next ≤ r.2.next ∧ ∀ b, b < W.next → b ≠ q → b ≠ e.b → bl ≠ some b → r.2.get b = W.get b := by
    unfold heaps_pileapi_HoEntry_Push
    have s1 := stA (v := .int .i64 (n : Int)) (o := 3) he (by simp) rfl rfl
    have s1' : ([.int .i64 e.h, .int .i64 e.v.1, .int .i64 e.v.2, p] : List Value).set 3 (.int .i64 (n : Int)) = enC e n := rfl
    rw [s1'] at s1
    simp only [SX, as127, oNilCheck_ptr, Nat.zero_add, h.l0, h.pile.len, s1]
    obtain ⟨hqc, hql, ⟨hsl, hen, hinj⟩, hbq, heq⟩ := h
    generalize hW1 : W.put e.b (.cells (enC e n)) = W1 at *
    have g1 : ∀ b, b ≠ e.b → W1.get b = W.get b := fun b hb => by rw [← hW1]; exact AW.get_put_ne _ _ (Ne.symm hb)
    have n1 : W1.next = W.next := by rw [← hW1, AW.put_next]
    have ge1 : W1.get e.b = some (.cells (enC e n)) := by rw [← hW1]; exact AW.get_put _ _ _
    have q1 : W1.get q = some (.cells [lv, less, c2, c3]) := (g1 q (Ne.symm hq)).trans hqc
    have g2 : ∀ b, b < W.next → (W1.add (.cells [enP e])).get b = W1.get b := fun b hb => AW.get_add_ne _ _ (by omega)
    have hs2 : SlAt (W1.add (.cells [enP e])) n f lv bl := hsl.keep (by rw [AW.add_next, n1]; omega) fun b hb => by
      rw [g2 b (hsl.lt hb), g1 b (fun x => hbl (by rw [hb, x]))]
    obtain ⟨W3, a1, a2, a3, a4⟩ := pApp (b := W1.next) (c := 1) hs2 hn cellsAt_new (x := enP e) rfl
    rw [AW.add_next, n1] at a2 a3 a4
    simp only [SX, oNilCheck_ptr, Nat.zero_add, ldR (o := 0) (rwOf q1) rfl, bs104, a1]
    rw [AW.add_next, n1]
    have g3 : ∀ b, b < W.next → bl ≠ some b → W3.get b = W1.get b := fun b hb hne => by rw [a4 b (by omega) hne, g2 b hb]
    have q3 := (g3 q hql hbq).trans q1
    have s3 := stA (v := .slice (some ⟨W.next + 1, 0, none⟩) (n + 1) (BIG + 1)) (o := 0) q3 (by simp) rfl rfl
    simp only [SX, oNilCheck_ptr, Nat.zero_add, s3, Ok_some]
    rw [show ([lv, less, c2, c3] : List Value).set 0 (.slice (some ⟨W.next + 1, 0, none⟩) (n + 1) (BIG + 1)) = [.slice (some ⟨W.next + 1, 0, none⟩) (n + 1) (BIG + 1), less, c2, c3] from rfl] at *
    generalize hW4 : W3.put q (.cells [.slice (some ⟨W.next + 1, 0, none⟩) (n + 1) (BIG + 1), less, c2, c3]) = W4 at *
    have g4 : ∀ b, b ≠ q → W4.get b = W3.get b := fun b hb => by rw [← hW4]; exact AW.get_put_ne _ _ (Ne.symm hb)
    have n4 : W4.next = W.next + 1 + 1 := by rw [← hW4, AW.put_next, a2]
    have hall : ∀ i, i < n + 1 → W4.get (snoc n f e i).b = some (.cells (enC (snoc n f e i) i)) ∧ (snoc n f e i).b < W.next ∧ (snoc n f e i).b ≠ q := fun i hi => by
      by_cases hin : i < n
      · rw [snoc_lt hin]
        refine ⟨?_, (hen i hin).2, heq i hin⟩
        rw [g4 _ (heq i hin), g3 _ (hen i hin).2 (hsl.ne hin), g1 _ (hne i hin)]
        exact (hen i hin).1
      · have : i = n := by omega
        subst this
        rw [snoc_n]
        exact ⟨by rw [g4 _ hq, g3 _ hlt hbl]; exact ge1, hlt, hq⟩
    refine ⟨trivial, _, W.next + 1, ⟨by rw [← hW4]; exact AW.get_put _ _ _, by omega, ⟨.row (W.next + 1) [] ?_ (by omega) (fun i hi => by have := (hall i hi).2.1; omega), fun i hi => ⟨(hall i hi).1, by have := (hall i hi).2.1; omega⟩, fun i j hi hj hij => ?_⟩, fun x => by injection x with x; omega, fun i hi => (hall i hi).2.2⟩, by omega, by omega, fun b hb hbq' hbe hbb => by rw [g4 _ hbq', g3 _ hb hbb, g1 _ hbe]⟩
    · rw [g4 _ (by omega), a3, rowE_snoc, List.append_nil]
    · by_cases hin : i < n
      · by_cases hjn : j < n
        · rw [snoc_lt hin, snoc_lt hjn] at hij
          exact hinj i j hin hjn hij
        · have : j = n := by omega
          subst this
          rw [snoc_lt hin, snoc_n] at hij
          exact absurd hij (hne i hin)
      · have : i = n := by omega
        subst this
        by_cases hjn : j < i
        · rw [snoc_lt hjn, snoc_n] at hij
          exact absurd hij.symm (hne j hjn)
        · omega
  obtain ⟨⟨r, W'⟩, h1, h2, lv', b', h3⟩ := main
  simp only at h2 h3
  subst h2
  exact ⟨W', lv', b', by rw [heaps_pileapi_HoEntry_Push_om h1, gc_not rfl], h3⟩
theorem sz104 : sliceZ Tryz.prog 99 = some 1 := by kernel_rfl
theorem sub1 (n : Nat) (hn : n < 4611686018427387904) (W : AW) : oBin Tryz.prog .sub 3 false true (.int .i64 ((n + 1 : Nat) : Int)) (.int .i64 1) W = some (.int .i64 (n : Int), W) := by
  rw [oBin_sub (by omega) (by omega)]
  congr 3
  omega
theorem pPop_ok (h : QP W q lv less c2 c3 (n + 1) f bl) (hn : n ≤ 10000) :
    ∃ W' lv', omS (.func (.func 118) #[] #[]) [.pointer (some ⟨q, 0, none⟩)] W = some (.iface 106 (enP (f n)), W') ∧ QP W' q lv' less c2 c3 n f bl ∧ W'.next = W.next ∧ (∀ b, b ≠ q → bl ≠ some b → W'.get b = W.get b) := by
  have main : Ok (heaps_pileapi_HoEntry_Pop omS (.pointer (some ⟨q, 0, none⟩)) W) fun r => r.1 = .iface 106 (enP (f n)) ∧ ∃ lv', QP r.2 q lv' less c2 c3 n f bl ∧ r.2.next = W.next ∧ (∀ b, b ≠ q → bl ≠ some b → r.2.get b = W.get b) := by
    unfold heaps_pileapi_HoEntry_Pop
    simp only [SX, oNilCheck_ptr, Nat.zero_add, h.l0, h.pile.len, sub1 n (by omega)]
    obtain ⟨hqc, hql, ⟨hsl, hen, hinj⟩, hbq, heq⟩ := h
    cases hsl with
    | nil h0 => omega
    | row b junk h1 h2 h3 =>
      have ix : ∀ {j : Nat} (hj : j < n + 1) (W' : AW) (kk : IntKind), ixS 1 (.slice (some ⟨b, 0, none⟩) (n + 1) (BIG + 1)) (.int kk (j : Int)) W' = some (.pointer (some ⟨b, j, none⟩), W') := fun hj W' kk => by rw [ixS_ok hj, Nat.zero_add, Nat.mul_one]
      have hbq' : b ≠ q := fun e => hbq (by rw [e])
      have g0 : (rowE (n + 1) f ++ junk)[n]? = some (enP (f n)) := by rw [List.getElem?_append_left (by rw [rowE_len]; omega), rowE_get f (by omega)]
      have s1 := stA (W := W) (v := .pointer none) h1 (o := n) (by rw [List.length_append, rowE_len]; omega) rfl rfl
      have hrow : (rowE (n + 1) f ++ junk).set n (.pointer none) = rowE n f ++ (.pointer none :: junk) := by
        rw [rowE_succ, List.append_assoc, List.set_append_right _ _ (by rw [rowE_len]; omega), rowE_len, Nat.sub_self]
        rfl
      rw [hrow] at s1
      simp only [SX, oNilCheck_ptr, Nat.zero_add, ldR (o := 0) (rwOf hqc) rfl, ix (Nat.lt_succ_self n), ldR (rwOf h1) g0, s1]
      generalize hW2 : W.put b (.cells (rowE n f ++ (.pointer none :: junk))) = W2 at *
      have e2 : ∀ c, c ≠ b → W2.get c = W.get c := fun c hc => by rw [← hW2, AW.get_put_ne _ _ (Ne.symm hc)]
      have n2 : W2.next = W.next := by rw [← hW2, AW.put_next]
      have b2 : W2.get b = some (.cells (rowE n f ++ (.pointer none :: junk))) := by rw [← hW2]; exact AW.get_put _ _ _
      have q2 := (e2 q (Ne.symm hbq')).trans hqc
      have s3 := stA (v := .slice (some ⟨b, 0, none⟩) n (BIG + 1)) (o := 0) q2 (by simp) rfl rfl
      rw [show ([.slice (some ⟨b, 0, none⟩) (n + 1) (BIG + 1), less, c2, c3] : List Value).set 0 (.slice (some ⟨b, 0, none⟩) n (BIG + 1)) = [.slice (some ⟨b, 0, none⟩) n (BIG + 1), less, c2, c3] from rfl] at s3
      simp only [SX, oNilCheck_ptr, Nat.zero_add, ldR (o := 0) (rwOf q2) rfl, slice_open sz104 (by omega) (show n ≤ n + 1 by omega), s3, ki127, Ok_some]
      generalize hW4 : W2.put q (.cells [.slice (some ⟨b, 0, none⟩) n (BIG + 1), less, c2, c3]) = W4 at *
      have g4 : ∀ c, c ≠ q → W4.get c = W2.get c := fun c hc => by rw [← hW4]; exact AW.get_put_ne _ _ (Ne.symm hc)
      have n4 : W4.next = W.next := by rw [← hW4, AW.put_next, n2]
      refine ⟨trivial, _, ⟨by rw [← hW4]; exact AW.get_put _ _ _, by omega, ⟨.row b (.pointer none :: junk) ((g4 b hbq').trans b2) (by omega) (fun i hi => h3 i (by omega)), fun i hi => ⟨?_, by have := (hen i (by omega)).2; omega⟩, fun i j hi hj => hinj i j (by omega) (by omega)⟩, hbq, fun i hi => heq i (by omega)⟩, n4, fun c hc hcb => ?_⟩
      · rw [g4 _ (heq i (by omega)), e2 _ (h3 i (by omega))]
        exact (hen i (by omega)).1
      · rw [g4 c hc, e2 c (fun e => hcb (by rw [e]))]
  obtain ⟨⟨r, W'⟩, h1, h2, lv', h3⟩ := main
  simp only at h2 h3
  subst h2
  exact ⟨W', lv', by rw [heaps_pileapi_HoEntry_Pop_om h1, gc_not rfl], h3⟩
end
end Go.Proofs.YtkpgmabebjmahaaGreat.Ho
/- container/heap over a queue's pile. -/
namespace Go.Proofs.YtkpgmabebjmahaaGreat.Ho
open Go Go.Eng Go.Hp
set_option linter.unusedVariables false
set_option linter.unusedSimpArgs false
set_option linter.unusedSectionVars false
set_option maxRecDepth 100000
theorem iLess (v : Value) (xs : List Value) (W : AW) : oInvoke Tryz.prog omS (.iface 110 v) "Less" xs W = omS (.func (.func 117) #[] #[]) (v :: xs) W := inv_eq (by kernel_rfl) _ _
theorem iSwap (v : Value) (xs : List Value) (W : AW) : oInvoke Tryz.prog omS (.iface 110 v) "Swap" xs W = omS (.func (.func 120) #[] #[]) (v :: xs) W := inv_eq (by kernel_rfl) _ _
theorem iLen (v : Value) (xs : List Value) (W : AW) : oInvoke Tryz.prog omS (.iface 110 v) "Len" xs W = omS (.func (.func 116) #[] #[]) (v :: xs) W := inv_eq (by kernel_rfl) _ _
theorem iPush (v : Value) (xs : List Value) (W : AW) : oInvoke Tryz.prog omS (.iface 110 v) "Push" xs W = omS (.func (.func 119) #[] #[]) (v :: xs) W := inv_eq (by kernel_rfl) _ _
theorem iPop (v : Value) (xs : List Value) (W : AW) : oInvoke Tryz.prog omS (.iface 110 v) "Pop" xs W = omS (.func (.func 118) #[] #[]) (v :: xs) W := inv_eq (by kernel_rfl) _ _
abbrev hpV (q : Nat) : Value := .iface 110 (.pointer (some ⟨q, 0, none⟩))
theorem Own.perm {n : Nat} {f g : Nat → En} {bl : Option Nat} (h : (all n g).Perm (all n f)) {b : Nat} (ho : Own n g bl b) : Own n f bl b := by
  rcases ho with ho | ⟨i, hi, rfl⟩
  · exact .inl ho
  · obtain ⟨k, hk, e⟩ := all_mem.1 (h.mem_iff.1 (all_mem.2 ⟨i, hi, rfl⟩))
    exact .inr ⟨k, hk, by rw [e]⟩
section
variable {W : AW} {q : Nat} {lv less c2 c3 : Value} {n : Nat} {f : Nat → En} {bl : Option Nat} {ls : Int × Int → Int × Int → Bool}
theorem up_ok (o : Ord (bef ls)) (hl : IsLess less ls) (h : QP W q lv less c2 c3 n f bl) (hn : n ≤ 10001) {j : Nat} (hj : j < n) (hup : Up (bef ls) n f j) :
    ∃ W' g, omS (.func (.func 78) #[] #[]) [hpV q, .int .i64 (j : Int)] W = some (.tuple #[], W') ∧ QP W' q lv less c2 c3 n g bl ∧ Fr W W' (Own n f bl) ∧ Heap (bef ls) n g ∧ (all n g).Perm (all n f) := by
  have main : Ok (containerheap_up omS (hpV q) (.int .i64 (j : Int)) W) fun r => r.1 = .tuple #[] ∧ ∃ g, QP r.2 q lv less c2 c3 n g bl ∧ Fr W r.2 (Own n f bl) ∧ Heap (bef ls) n g ∧ (all n g).Perm (all n f) := by
    unfold containerheap_up
    have key : ∀ (i : Nat) (R : PlanTab.Fr) (W' : AW) (g : Nat → En), i < n → R 0 = hpV q → R 1 = .int .i64 (i : Int) → QP W' q lv less c2 c3 n g bl → Fr W W' (Own n f bl) → Up (bef ls) n g i → (all n g).Perm (all n f) →
        Ok (containerheap_up_L1 omS R W') fun r => (r.1 = .exit 0 ∧ ∃ g', QP r.2.2 q lv less c2 c3 n g' bl ∧ Fr W r.2.2 (Own n f bl) ∧ Heap (bef ls) n g' ∧ (all n g').Perm (all n f)) ∨ (r.1 = .normal ∧ 0 < i ∧ ∃ g', r.2.1 0 = hpV q ∧ r.2.1 1 = .int .i64 (par i : Int) ∧ QP r.2.2 q lv less c2 c3 n g' bl ∧ Fr W r.2.2 (Own n f bl) ∧ Up (bef ls) n g' (par i) ∧ (all n g').Perm (all n f)) := by
      intro i R W' g hi h0 h1 hQ hF hU hP
      unfold containerheap_up_L1
      have e1 := oBin_sub (P := Tryz.prog) (W := W') (t := 3) (c := false) (d := true) (a := (i : Int)) (b := 1) (by omega) (by omega)
      have e2 : oBin Tryz.prog .quo 3 false true (.int .i64 ((i : Int) - 1)) (.int .i64 2) W' = some (.int .i64 (par i : Int), W') := by
        rw [oBin_quo (by omega), td2, wrap_i64 (by omega) (by have := par_le i; omega)]
      by_cases hi0 : i = 0
      · subst hi0
        have e3 : ((par 0 : Nat) : Int) = ((0 : Nat) : Int) := rfl
        simp only [SX, h0, h1, e1, e2, e3, Ok_some]
        exact .inl ⟨trivial, g, hQ, hF, hU.done (.inl rfl), hP⟩
      · have hpi := par_lt (k := i) (by omega)
        have e3 : ¬ ((par i : Int) = (i : Int)) := by omega
        simp only [SX, h0, h1, e1, e2, e3, iLess, pLess_ok hl hQ hi (show par i < n by omega)]
        cases hb : bef ls (g i) (g (par i))
        · simp only [SX, Ok_some]
          exact .inl ⟨trivial, g, hQ, hF, hU.done (.inr hb), hP⟩
        · obtain ⟨W2, s1, s2, s3⟩ := pSwap_ok hQ (show par i < n by omega) hi
          simp only [SX, h0, h1, iSwap, s1, Ok_some]
          refine .inr ⟨trivial, by omega, _, h0, rfl, s2, hF.trans (s3.mono fun b hb => Own.perm hP hb), hU.step o (by omega) hi hb, (all_swp g (show par i < n by omega) hi).trans hP⟩
    refine Ok_loop j (by omega) (fun k R W' => ∃ i g, i + k ≤ j ∧ i < n ∧ R 0 = hpV q ∧ R 1 = .int .i64 (i : Int) ∧ QP W' q lv less c2 c3 n g bl ∧ Fr W W' (Own n f bl) ∧ Up (bef ls) n g i ∧ (all n g).Perm (all n f))
      (fun r => r.1 = .exit 0 ∧ ∃ g', QP r.2.2 q lv less c2 c3 n g' bl ∧ Fr W r.2.2 (Own n f bl) ∧ Heap (bef ls) n g' ∧ (all n g').Perm (all n f)) ⟨j, f, by omega, hj, rfl, rfl, h, .refl _ _, hup, .refl _⟩ ?_ ?_ ?_
    · rintro k R W' hk ⟨i, g, h1, h2, h3, h4, h5, h6, h7, h8⟩
      refine (key i R W' g h2 h3 h4 h5 h6 h7 h8).mono fun r hr => ?_
      rcases hr with hr | ⟨r1, r2, g', r3, r4, r5, r6, r7, r8⟩
      · exact .inr ⟨by rw [hr.1]; simp, hr⟩
      · have := par_lt r2
        exact .inl ⟨r1, par i, g', by omega, by omega, r3, r4, r5, r6, r7, r8⟩
    · rintro R W' ⟨i, g, h1, h2, h3, h4, h5, h6, h7, h8⟩
      refine (key i R W' g h2 h3 h4 h5 h6 h7 h8).mono fun r hr => ?_
      rcases hr with hr | ⟨r1, r2, -⟩
      · exact ⟨by rw [hr.1]; simp, hr⟩
      · omega
    · rintro ⟨x, R, W'⟩ ⟨hx, hq⟩
      simp only at hx hq
      subst hx
      simp only [SX, Ok_some]
      exact ⟨trivial, hq⟩
  obtain ⟨⟨r, W'⟩, h1, h2, g, h3⟩ := main
  simp only at h2 h3
  subst h2
  exact ⟨W', g, by rw [containerheap_up_om h1, gc_not rfl], h3⟩
end
end Go.Proofs.YtkpgmabebjmahaaGreat.Ho
/- container/heap over a queue's pile: down, push, pop. -/
namespace Go.Proofs.YtkpgmabebjmahaaGreat.Ho
open Go Go.Eng Go.Hp
set_option linter.unusedVariables false
set_option linter.unusedSimpArgs false
set_option linter.unusedSectionVars false
set_option maxRecDepth 100000
section
variable {W : AW} {q : Nat} {lv less c2 c3 : Value} {n : Nat} {f : Nat → En} {bl : Option Nat} {ls : Int × Int → Int × Int → Bool}
theorem QP.back {W W' : AW} (h : QP W' q lv less c2 c3 n f bl) (hn : W'.next = W.next) (hle : Le W W') : QP W q lv less c2 c3 n f bl := by
  obtain ⟨hqc, hql, ⟨hsl, hen, hinj⟩, hbq, heq⟩ := h
  rw [hn] at hql
  refine ⟨by rw [← hle.get q hql]; exact hqc, hql, ⟨hsl.keep (by omega) fun b hb => (hle.get b (by have := hsl.lt hb; omega)).symm, fun i hi => ?_, hinj⟩, hbq, heq⟩
  have := (hen i hi).2
  exact ⟨by rw [← hle.get _ (by omega)]; exact (hen i hi).1, by omega⟩
/-- beyond n nothing is turned -/
def Same (n : Nat) (f g : Nat → En) : Prop := ∀ i, n ≤ i → g i = f i
theorem Own.low {n N : Nat} {f g : Nat → En} {bl : Option Nat} (h : (all n g).Perm (all n f)) (hs : Same n f g) {b : Nat} (ho : Own N g bl b) (hN : n ≤ N) : Own N f bl b := by
  rcases ho with ho | ⟨i, hi, rfl⟩
  · exact .inl ho
  · by_cases hin : i < n
    · obtain ⟨k, hk, e⟩ := all_mem.1 (h.mem_iff.1 (all_mem.2 ⟨i, hin, rfl⟩))
      exact .inr ⟨k, by omega, by rw [e]⟩
    · exact .inr ⟨i, hi, by rw [hs i (by omega)]⟩
theorem down_ok (o : Ord (bef ls)) (hl : IsLess less ls) {N : Nat} (h : QP W q lv less c2 c3 N f bl) (hN : N ≤ 10001) (hn : n ≤ N) {i0 : Nat} (hi0 : i0 ≤ n) (hd : Dn (bef ls) n f i0) :
    ∃ W' g b, omS (.func (.func 79) #[] #[]) [hpV q, .int .i64 (i0 : Int), .int .i64 (n : Int)] W = some (.bool b, W') ∧ QP W' q lv less c2 c3 N g bl ∧ Fr W W' (Own N f bl) ∧ Heap (bef ls) n g ∧ (all n g).Perm (all n f) ∧ Same n f g := by
  have main : Ok (containerheap_down omS (hpV q) (.int .i64 (i0 : Int)) (.int .i64 (n : Int)) W) fun r => (∃ b, r.1 = .bool b) ∧ ∃ g, QP r.2 q lv less c2 c3 N g bl ∧ Fr W r.2 (Own N f bl) ∧ Heap (bef ls) n g ∧ (all n g).Perm (all n f) ∧ Same n f g := by
    unfold containerheap_down
    have key : ∀ (i : Nat) (R : PlanTab.Fr) (W' : AW) (g : Nat → En), i ≤ n → R 0 = hpV q → R 2 = .int .i64 (n : Int) → R 7 = .int .i64 (i : Int) → QP W' q lv less c2 c3 N g bl → Fr W W' (Own N f bl) → Dn (bef ls) n g i → (all n g).Perm (all n f) → Same n f g →
        Ok (containerheap_down_L1 omS R W') fun r => (r.1 = .exit 0 ∧ r.2.1 1 = R 1 ∧ r.2.1 7 = R 7 ∧ ∃ g', QP r.2.2 q lv less c2 c3 N g' bl ∧ Fr W r.2.2 (Own N f bl) ∧ Heap (bef ls) n g' ∧ (all n g').Perm (all n f) ∧ Same n f g') ∨ (r.1 = .normal ∧ i < n ∧ r.2.1 1 = R 1 ∧ ∃ g' j, i < j ∧ j < n ∧ r.2.1 0 = hpV q ∧ r.2.1 2 = .int .i64 (n : Int) ∧ r.2.1 7 = .int .i64 (j : Int) ∧ QP r.2.2 q lv less c2 c3 N g' bl ∧ Fr W r.2.2 (Own N f bl) ∧ Dn (bef ls) n g' j ∧ (all n g').Perm (all n f) ∧ Same n f g') := by
      intro i R W' g hi h0 h2 h7 hQ hF hD hP hS
      unfold containerheap_down_L1
      have e1 : oBin Tryz.prog .mul 3 true false (.int .i64 2) (.int .i64 (i : Int)) W' = some (.int .i64 (2 * (i : Int)), W') := oBin_mul (by omega) (by omega)
      have e2 := oBin_add (P := Tryz.prog) (W := W') (t := 3) (c := false) (d := true) (a := 2 * (i : Int)) (b := 1) (by omega) (by omega)
      have e3 := oBin_add (P := Tryz.prog) (W := W') (t := 3) (c := false) (d := true) (a := 2 * (i : Int) + 1) (b := 1) (by omega) (by omega)
      have e4 : ¬ (2 * (i : Int) + 1 < 0) := by omega
      by_cases hj : n ≤ 2 * i + 1
      · have e5 : (n : Int) ≤ 2 * (i : Int) + 1 := by omega
        simp only [SX, h0, h2, h7, e1, e2, e5, Ok_some]
        exact .inl ⟨trivial, rfl, h7, g, hQ, hF, hD.done o (fun k hk hkn => by omega), hP, hS⟩
      · have e5 : ¬ ((n : Int) ≤ 2 * (i : Int) + 1) := by omega
        have c1 : ((2 * i + 1 : Nat) : Int) = 2 * (i : Int) + 1 := by omega
        have c2' : ((2 * i + 2 : Nat) : Int) = 2 * (i : Int) + 1 + 1 := by omega
        have fin : ∀ j, (j = 2 * i + 1 ∨ j = 2 * i + 2) → j < n → (∀ k, (k = 2 * i + 1 ∨ k = 2 * i + 2) → k < n → bef ls (g k) (g j) = false) →
            (bef ls (g j) (g i) = false → Heap (bef ls) n g) ∧ (bef ls (g j) (g i) = true → ∃ W2, omS (.func (.func 120) #[] #[]) [.pointer (some ⟨q, 0, none⟩), .int .i64 (i : Int), .int .i64 (j : Int)] W' = some (.tuple #[], W2) ∧ QP W2 q lv less c2 c3 N (swp g i j) bl ∧ Fr W W2 (Own N f bl) ∧ Dn (bef ls) n (swp g i j) j ∧ (all n (swp g i j)).Perm (all n f) ∧ Same n f (swp g i j)) := by
          intro j hj1 hj2 hmin
          refine ⟨fun hb => hD.done o fun k hk hkn => o.neg _ _ _ hb (hmin k hk hkn), fun hb => ?_⟩
          obtain ⟨W2, s1, s2, s3⟩ := pSwap_ok hQ (show i < N by omega) (show j < N by omega)
          refine ⟨W2, s1, s2, hF.trans (s3.mono fun b hb => Own.low hP hS hb hn), hD.step o hj1 hj2 hb hmin, (all_swp g (by omega) hj2).trans hP, fun k hk => ?_⟩
          rw [swp_ne _ (by omega) (by omega)]
          exact hS k hk
        by_cases hj2 : 2 * i + 2 < n
        · have e6 : (2 * (i : Int) + 1 + 1 < (n : Int)) := by omega
          have l1 := pLess_ok hl hQ (show 2 * i + 2 < N by omega) (show 2 * i + 1 < N by omega)
          rw [c1, c2'] at l1
          simp only [SX, h0, h2, h7, e1, e2, e3, e4, e5, e6, iLess, l1]
          cases hb : bef ls (g (2 * i + 2)) (g (2 * i + 1))
          · obtain ⟨f1, f2⟩ := fin (2 * i + 1) (.inl rfl) (by omega) fun k hk hkn => by
              rcases hk with rfl | rfl
              · exact ord_irr o _
              · exact hb
            have l2 := pLess_ok hl hQ (show 2 * i + 1 < N by omega) (show i < N by omega)
            rw [c1] at l2 f2
            simp only [SX, h0, h7, iLess, l2]
            cases hb2 : bef ls (g (2 * i + 1)) (g i)
            · simp only [SX, Ok_some]
              exact .inl ⟨trivial, rfl, h7, g, hQ, hF, f1 hb2, hP, hS⟩
            · obtain ⟨W2, s1, s2, s3, s4, s5, s6⟩ := f2 hb2
              simp only [SX, h0, h7, iSwap, s1, Ok_some]
              exact .inr ⟨trivial, by omega, rfl, _, 2 * i + 1, by omega, by omega, h0, h2, by rw [c1]; rfl, s2, s3, s4, s5, s6⟩
          · obtain ⟨f1, f2⟩ := fin (2 * i + 2) (.inr rfl) (by omega) fun k hk hkn => by
              rcases hk with rfl | rfl
              · exact o.asym _ _ hb
              · exact ord_irr o _
            have l2 := pLess_ok hl hQ (show 2 * i + 2 < N by omega) (show i < N by omega)
            rw [c2'] at l2 f2
            simp only [SX, h0, h7, iLess, l2]
            cases hb2 : bef ls (g (2 * i + 2)) (g i)
            · simp only [SX, Ok_some]
              exact .inl ⟨trivial, rfl, h7, g, hQ, hF, f1 hb2, hP, hS⟩
            · obtain ⟨W2, s1, s2, s3, s4, s5, s6⟩ := f2 hb2
              simp only [SX, h0, h7, iSwap, s1, Ok_some]
              exact .inr ⟨trivial, by omega, rfl, _, 2 * i + 2, by omega, by omega, h0, h2, by rw [c2']; rfl, s2, s3, s4, s5, s6⟩
        · have e6 : ¬ (2 * (i : Int) + 1 + 1 < (n : Int)) := by omega
          obtain ⟨f1, f2⟩ := fin (2 * i + 1) (.inl rfl) (by omega) fun k hk hkn => by
            rcases hk with rfl | rfl
            · exact ord_irr o _
            · omega
          have l2 := pLess_ok hl hQ (show 2 * i + 1 < N by omega) (show i < N by omega)
          rw [c1] at l2 f2
          simp only [SX, h0, h2, h7, e1, e2, e3, e4, e5, e6, iLess, l2]
          cases hb2 : bef ls (g (2 * i + 1)) (g i)
          · simp only [SX, Ok_some]
            exact .inl ⟨trivial, rfl, h7, g, hQ, hF, f1 hb2, hP, hS⟩
          · obtain ⟨W2, s1, s2, s3, s4, s5, s6⟩ := f2 hb2
            simp only [SX, h0, h7, iSwap, s1, Ok_some]
            exact .inr ⟨trivial, by omega, rfl, _, 2 * i + 1, by omega, by omega, h0, h2, by rw [c1]; rfl, s2, s3, s4, s5, s6⟩
    simp only [SX]
    refine Ok_loop n (by omega) (fun k R W' => ∃ i g, k ≤ i ∧ i ≤ n ∧ R 0 = hpV q ∧ R 1 = .int .i64 (i0 : Int) ∧ R 2 = .int .i64 (n : Int) ∧ R 7 = .int .i64 (i : Int) ∧ QP W' q lv less c2 c3 N g bl ∧ Fr W W' (Own N f bl) ∧ Dn (bef ls) n g i ∧ (all n g).Perm (all n f) ∧ Same n f g)
      (fun r => r.1 = .exit 0 ∧ (∃ i : Nat, r.2.1 7 = .int .i64 (i : Int)) ∧ r.2.1 1 = .int .i64 (i0 : Int) ∧ ∃ g', QP r.2.2 q lv less c2 c3 N g' bl ∧ Fr W r.2.2 (Own N f bl) ∧ Heap (bef ls) n g' ∧ (all n g').Perm (all n f) ∧ Same n f g') ⟨i0, f, by omega, hi0, rfl, rfl, rfl, rfl, h, .refl _ _, hd, .refl _, fun _ _ => rfl⟩ ?_ ?_ ?_
    · rintro k R W' hk ⟨i, g, h1, h2, h3, h3', h4, h5, h6, h7, h8, h9, h10⟩
      refine (key i R W' g h2 h3 h4 h5 h6 h7 h8 h9 h10).mono fun r hr => ?_
      rcases hr with ⟨r1, r2, r3, r4⟩ | ⟨r1, r2, r3, g', j, j1, j2, r5, r6, r7, r8⟩
      · exact .inr ⟨by rw [r1]; simp, r1, ⟨i, by rw [r3, h5]⟩, by rw [r2, h3'], r4⟩
      · exact .inl ⟨r1, j, g', by omega, by omega, r5, by rw [r3, h3'], r6, r7, r8⟩
    · rintro R W' ⟨i, g, h1, h2, h3, h3', h4, h5, h6, h7, h8, h9, h10⟩
      refine (key i R W' g h2 h3 h4 h5 h6 h7 h8 h9 h10).mono fun r hr => ?_
      rcases hr with ⟨r1, r2, r3, r4⟩ | ⟨r1, r2, -⟩
      · exact ⟨by rw [r1]; simp, r1, ⟨i, by rw [r3, h5]⟩, by rw [r2, h3'], r4⟩
      · omega
    · rintro ⟨x, R, W'⟩ ⟨hx, ⟨i, h7⟩, h1, hq⟩
      simp only at hx h7 h1 hq
      subst hx
      simp only [SX, h7, h1, Ok_some]
      exact ⟨⟨_, rfl⟩, hq⟩
  obtain ⟨⟨r, W'⟩, h1, ⟨b, h2⟩, g, h3⟩ := main
  simp only at h2 h3
  subst h2
  rcases gc_two (W := W) (W' := W') (.bool b) with hg | ⟨hg, hle⟩
  · exact ⟨W', g, b, by rw [containerheap_down_om h1, hg], h3⟩
  · exact ⟨W, g, b, by rw [containerheap_down_om h1, hg], h3.1.back h3.2.1.next hle, .refl _ _, h3.2.2⟩
end
end Go.Proofs.YtkpgmabebjmahaaGreat.Ho
/- container/heap over a queue's pile: push, pop. -/
namespace Go.Proofs.YtkpgmabebjmahaaGreat.Ho
open Go Go.Eng Go.Hp
set_option linter.unusedVariables false
set_option linter.unusedSimpArgs false
set_option linter.unusedSectionVars false
set_option maxRecDepth 100000
section
variable {W : AW} {q : Nat} {lv less c2 c3 : Value} {n : Nat} {f : Nat → En} {bl : Option Nat} {ls : Int × Int → Int × Int → Bool}
theorem heap_up {lt : En → En → Bool} {e : En} (h : Heap lt n f) : Up lt (n + 1) (snoc n f e) n := by
  refine ⟨fun k h0 h1 h2 => ?_, fun k h0 h1 h2 h3 => ?_⟩
  · have := par_lt h0
    rw [snoc_lt (by omega), snoc_lt (by omega)]
    exact h k h0 (by omega)
  · have := par_lt h0
    omega
theorem hPush_ok (o : Ord (bef ls)) (hl : IsLess less ls) (h : QP W q lv less c2 c3 n f bl) (hh : Heap (bef ls) n f) (hn : n ≤ 10000) {e : En} {p : Value} (he : W.get e.b = some (.cells [.int .i64 e.h, .int .i64 e.v.1, .int .i64 e.v.2, p])) (hlt : e.b < W.next) (hq : e.b ≠ q) (hbl : bl ≠ some e.b) (hne : ∀ i, i < n → (f i).b ≠ e.b) :
    ∃ W' lv' b' g, omS (.func (.func 57) #[] #[]) [hpV q, .iface 106 (enP e)] W = some (.tuple #[], W') ∧ QP W' q lv' less c2 c3 (n + 1) g (some b') ∧ Heap (bef ls) (n + 1) g ∧ (all (n + 1) g).Perm (e :: all n f) ∧ W.next ≤ b' ∧ W.next ≤ W'.next ∧ ∀ b, b < W.next → b ≠ q → b ≠ e.b → ¬ Own n f bl b → W'.get b = W.get b := by
  obtain ⟨W1, lv', b', p1, p2, p3, p4, p5⟩ := pPush_ok h hn he hlt hq hbl hne
  obtain ⟨W2, g, u1, u2, u3, u4, u5⟩ := up_ok o hl p2 (by omega) (Nat.lt_succ_self n) (heap_up hh)
  have main : Ok (containerheap_Push omS (hpV q) (.iface 106 (enP e)) W) fun r => r.1 = .tuple #[] ∧ r.2 = W2 := by
    unfold containerheap_Push
    simp only [SX, iPush, p1, iLen, pLen_ok p2, sub1 n (by omega), u1, Ok_some]
    exact ⟨trivial, trivial⟩
  obtain ⟨⟨r, W'⟩, h1, h2, h3⟩ := main
  simp only at h2 h3
  subst h2; subst h3
  refine ⟨_, lv', b', g, by rw [containerheap_Push_om h1, gc_not rfl], u2, u4, u5.trans (by rw [all_snoc]; exact List.perm_append_singleton _ _), p3, by rw [u3.next]; exact p4, fun b hb hbq hbe ho => ?_⟩
  rw [u3.get b fun ho2 => ?_, p5 b hb hbq hbe fun hx => ho (.inl hx)]
  rcases ho2 with ho2 | ⟨i, hi, ho2⟩
  · injection ho2 with ho2; omega
  · by_cases hin : i < n
    · rw [snoc_lt hin] at ho2
      exact ho (.inr ⟨i, hin, ho2⟩)
    · have : i = n := by omega
      subst this
      rw [snoc_n] at ho2
      exact hbe ho2.symm
theorem heap_dn {lt : En → En → Bool} (h : Heap lt (n + 1) f) : Dn lt n (swp f 0 n) 0 := by
  refine ⟨fun k h0 h1 h2 => ?_, fun k h0 h1 h2 h3 => by omega⟩
  have := par_lt h0
  rw [swp_ne _ (by omega) (by omega), swp_ne _ h2 (by omega)]
  exact h k h0 (by omega)
theorem hPop_ok (o : Ord (bef ls)) (hl : IsLess less ls) (h : QP W q lv less c2 c3 (n + 1) f bl) (hh : Heap (bef ls) (n + 1) f) (hn : n ≤ 10000) :
    ∃ W' lv' g, omS (.func (.func 61) #[] #[]) [hpV q] W = some (.iface 106 (enP (f 0)), W') ∧ QP W' q lv' less c2 c3 n g bl ∧ Heap (bef ls) n g ∧ (f 0 :: all n g).Perm (all (n + 1) f) ∧ W'.next = W.next ∧ ∀ b, b ≠ q → ¬ Own (n + 1) f bl b → W'.get b = W.get b := by
  obtain ⟨W1, s1, s2, s3⟩ := pSwap_ok h (show 0 < n + 1 by omega) (show n < n + 1 by omega)
  obtain ⟨W2, g, b, d1, d2, d3, d4, d5, d6⟩ := down_ok o hl s2 (by omega) (show n ≤ n + 1 by omega) (Nat.zero_le n) (heap_dn hh)
  have hg : g n = f 0 := by rw [d6 n (Nat.le_refl n), swp_r]
  obtain ⟨W3, lv', p1, p2, p3, p4⟩ := pPop_ok d2 hn
  rw [hg] at p1
  have main : Ok (containerheap_Pop omS (hpV q) W) fun r => r.1 = .iface 106 (enP (f 0)) ∧ r.2 = W3 := by
    unfold containerheap_Pop
    have e0 : (Value.int .i64 (0 : Int)) = .int .i64 ((0 : Nat) : Int) := rfl
    simp only [SX, iLen, pLen_ok h, sub1 n (by omega), iSwap, e0, s1, d1, iPop, p1, Ok_some]
    exact ⟨trivial, trivial⟩
  obtain ⟨⟨r, W'⟩, h1, h2, h3⟩ := main
  simp only at h2 h3
  subst h2; subst h3
  have hp1 : (all (n + 1) (swp f 0 n)).Perm (all (n + 1) f) := all_swp f (by omega) (by omega)
  refine ⟨_, lv', g, by rw [containerheap_Pop_om h1, gc_not rfl], p2, d4, ?_, by rw [p3, d3.next, s3.next], fun b hb ho => ?_⟩
  · refine .trans ?_ hp1
    rw [all_succ, swp_r]
    exact (List.perm_append_singleton _ _).symm.trans (d5.append (.refl _))
  · rw [p4 b hb fun hx => ho (.inl hx), d3.get b fun ho2 => ho (Own.perm hp1 ho2), s3.get b ho]
end
end Go.Proofs.YtkpgmabebjmahaaGreat.Ho
/- container/heap over a queue's pile: up and down of one that may go either way. -/
namespace Go.Proofs.YtkpgmabebjmahaaGreat.Ho
open Go Go.Eng Go.Hp
set_option linter.unusedVariables false
set_option linter.unusedSimpArgs false
set_option linter.unusedSectionVars false
set_option maxRecDepth 100000
section
variable {W : AW} {q : Nat} {lv less c2 c3 : Value} {n : Nat} {f : Nat → En} {bl : Option Nat} {ls : Int × Int → Int × Int → Bool}
theorem down2_ok (o : Ord (bef ls)) (hl : IsLess less ls) {N : Nat} (h : QP W q lv less c2 c3 N f bl) (hN : N ≤ 10001) (hn : n ≤ N) {i0 : Nat} (hi0 : i0 ≤ n) (hd : Odd (bef ls) n f i0) :
    ∃ W' g b, omS (.func (.func 79) #[] #[]) [hpV q, .int .i64 (i0 : Int), .int .i64 (n : Int)] W = some (.bool b, W') ∧ QP W' q lv less c2 c3 N g bl ∧ Fr W W' (Own N f bl) ∧ ((b = true ∧ Heap (bef ls) n g) ∨ (b = false ∧ g = f ∧ Up (bef ls) n f i0)) ∧ (all n g).Perm (all n f) ∧ Same n f g := by
  have main : Ok (containerheap_down omS (hpV q) (.int .i64 (i0 : Int)) (.int .i64 (n : Int)) W) fun r => ∃ b, r.1 = .bool b ∧ ∃ g, QP r.2 q lv less c2 c3 N g bl ∧ Fr W r.2 (Own N f bl) ∧ ((b = true ∧ Heap (bef ls) n g) ∨ (b = false ∧ g = f ∧ Up (bef ls) n f i0)) ∧ (all n g).Perm (all n f) ∧ Same n f g := by
    unfold containerheap_down
    have key : ∀ (i : Nat) (R : PlanTab.Fr) (W' : AW) (g : Nat → En), i ≤ n → R 0 = hpV q → R 2 = .int .i64 (n : Int) → R 7 = .int .i64 (i : Int) → QP W' q lv less c2 c3 N g bl → Fr W W' (Own N f bl) → St (bef ls) i0 n f g i → (all n g).Perm (all n f) → Same n f g →
        Ok (containerheap_down_L1 omS R W') fun r => (r.1 = .exit 0 ∧ r.2.1 1 = R 1 ∧ r.2.1 7 = R 7 ∧ ∃ g', QP r.2.2 q lv less c2 c3 N g' bl ∧ Fr W r.2.2 (Own N f bl) ∧ Fin (bef ls) i0 n f g' i ∧ (all n g').Perm (all n f) ∧ Same n f g') ∨ (r.1 = .normal ∧ i < n ∧ r.2.1 1 = R 1 ∧ ∃ g' j, i < j ∧ j < n ∧ r.2.1 0 = hpV q ∧ r.2.1 2 = .int .i64 (n : Int) ∧ r.2.1 7 = .int .i64 (j : Int) ∧ QP r.2.2 q lv less c2 c3 N g' bl ∧ Fr W r.2.2 (Own N f bl) ∧ St (bef ls) i0 n f g' j ∧ (all n g').Perm (all n f) ∧ Same n f g') := by
      intro i R W' g hi h0 h2 h7 hQ hF hD hP hS
      unfold containerheap_down_L1
      have e1 : oBin Tryz.prog .mul 3 true false (.int .i64 2) (.int .i64 (i : Int)) W' = some (.int .i64 (2 * (i : Int)), W') := oBin_mul (by omega) (by omega)
      have e2 := oBin_add (P := Tryz.prog) (W := W') (t := 3) (c := false) (d := true) (a := 2 * (i : Int)) (b := 1) (by omega) (by omega)
      have e3 := oBin_add (P := Tryz.prog) (W := W') (t := 3) (c := false) (d := true) (a := 2 * (i : Int) + 1) (b := 1) (by omega) (by omega)
      have e4 : ¬ (2 * (i : Int) + 1 < 0) := by omega
      by_cases hj : n ≤ 2 * i + 1
      · have e5 : (n : Int) ≤ 2 * (i : Int) + 1 := by omega
        simp only [SX, h0, h2, h7, e1, e2, e5, Ok_some]
        exact .inl ⟨trivial, rfl, h7, g, hQ, hF, hD.done o (fun k hk hkn => by omega), hP, hS⟩
      · have e5 : ¬ ((n : Int) ≤ 2 * (i : Int) + 1) := by omega
        have c1 : ((2 * i + 1 : Nat) : Int) = 2 * (i : Int) + 1 := by omega
        have c2' : ((2 * i + 2 : Nat) : Int) = 2 * (i : Int) + 1 + 1 := by omega
        have fin : ∀ j, (j = 2 * i + 1 ∨ j = 2 * i + 2) → j < n → (∀ k, (k = 2 * i + 1 ∨ k = 2 * i + 2) → k < n → bef ls (g k) (g j) = false) →
            (bef ls (g j) (g i) = false → Fin (bef ls) i0 n f g i) ∧ (bef ls (g j) (g i) = true → ∃ W2, omS (.func (.func 120) #[] #[]) [.pointer (some ⟨q, 0, none⟩), .int .i64 (i : Int), .int .i64 (j : Int)] W' = some (.tuple #[], W2) ∧ QP W2 q lv less c2 c3 N (swp g i j) bl ∧ Fr W W2 (Own N f bl) ∧ St (bef ls) i0 n f (swp g i j) j ∧ (all n (swp g i j)).Perm (all n f) ∧ Same n f (swp g i j)) := by
          intro j hj1 hj2 hmin
          refine ⟨fun hb => hD.done o fun k hk hkn => o.neg _ _ _ hb (hmin k hk hkn), fun hb => ?_⟩
          obtain ⟨W2, s1, s2, s3⟩ := pSwap_ok hQ (show i < N by omega) (show j < N by omega)
          refine ⟨W2, s1, s2, hF.trans (s3.mono fun b hb => Own.low hP hS hb hn), hD.step o hj1 hj2 hb hmin, (all_swp g (by omega) hj2).trans hP, fun k hk => ?_⟩
          rw [swp_ne _ (by omega) (by omega)]
          exact hS k hk
        by_cases hj2 : 2 * i + 2 < n
        · have e6 : (2 * (i : Int) + 1 + 1 < (n : Int)) := by omega
          have l1 := pLess_ok hl hQ (show 2 * i + 2 < N by omega) (show 2 * i + 1 < N by omega)
          rw [c1, c2'] at l1
          simp only [SX, h0, h2, h7, e1, e2, e3, e4, e5, e6, iLess, l1]
          cases hb : bef ls (g (2 * i + 2)) (g (2 * i + 1))
          · obtain ⟨f1, f2⟩ := fin (2 * i + 1) (.inl rfl) (by omega) fun k hk hkn => by
              rcases hk with rfl | rfl
              · exact ord_irr o _
              · exact hb
            have l2 := pLess_ok hl hQ (show 2 * i + 1 < N by omega) (show i < N by omega)
            rw [c1] at l2 f2
            simp only [SX, h0, h7, iLess, l2]
            cases hb2 : bef ls (g (2 * i + 1)) (g i)
            · simp only [SX, Ok_some]
              exact .inl ⟨trivial, rfl, h7, g, hQ, hF, f1 hb2, hP, hS⟩
            · obtain ⟨W2, s1, s2, s3, s4, s5, s6⟩ := f2 hb2
              simp only [SX, h0, h7, iSwap, s1, Ok_some]
              exact .inr ⟨trivial, by omega, rfl, _, 2 * i + 1, by omega, by omega, h0, h2, by rw [c1]; rfl, s2, s3, s4, s5, s6⟩
          · obtain ⟨f1, f2⟩ := fin (2 * i + 2) (.inr rfl) (by omega) fun k hk hkn => by
              rcases hk with rfl | rfl
              · exact o.asym _ _ hb
              · exact ord_irr o _
            have l2 := pLess_ok hl hQ (show 2 * i + 2 < N by omega) (show i < N by omega)
            rw [c2'] at l2 f2
            simp only [SX, h0, h7, iLess, l2]
            cases hb2 : bef ls (g (2 * i + 2)) (g i)
            · simp only [SX, Ok_some]
              exact .inl ⟨trivial, rfl, h7, g, hQ, hF, f1 hb2, hP, hS⟩
            · obtain ⟨W2, s1, s2, s3, s4, s5, s6⟩ := f2 hb2
              simp only [SX, h0, h7, iSwap, s1, Ok_some]
              exact .inr ⟨trivial, by omega, rfl, _, 2 * i + 2, by omega, by omega, h0, h2, by rw [c2']; rfl, s2, s3, s4, s5, s6⟩
        · have e6 : ¬ (2 * (i : Int) + 1 + 1 < (n : Int)) := by omega
          obtain ⟨f1, f2⟩ := fin (2 * i + 1) (.inl rfl) (by omega) fun k hk hkn => by
            rcases hk with rfl | rfl
            · exact ord_irr o _
            · omega
          have l2 := pLess_ok hl hQ (show 2 * i + 1 < N by omega) (show i < N by omega)
          rw [c1] at l2 f2
          simp only [SX, h0, h2, h7, e1, e2, e3, e4, e5, e6, iLess, l2]
          cases hb2 : bef ls (g (2 * i + 1)) (g i)
          · simp only [SX, Ok_some]
            exact .inl ⟨trivial, rfl, h7, g, hQ, hF, f1 hb2, hP, hS⟩
          · obtain ⟨W2, s1, s2, s3, s4, s5, s6⟩ := f2 hb2
            simp only [SX, h0, h7, iSwap, s1, Ok_some]
            exact .inr ⟨trivial, by omega, rfl, _, 2 * i + 1, by omega, by omega, h0, h2, by rw [c1]; rfl, s2, s3, s4, s5, s6⟩
    simp only [SX]
    refine Ok_loop n (by omega) (fun k R W' => ∃ i g, k ≤ i ∧ i ≤ n ∧ R 0 = hpV q ∧ R 1 = .int .i64 (i0 : Int) ∧ R 2 = .int .i64 (n : Int) ∧ R 7 = .int .i64 (i : Int) ∧ QP W' q lv less c2 c3 N g bl ∧ Fr W W' (Own N f bl) ∧ St (bef ls) i0 n f g i ∧ (all n g).Perm (all n f) ∧ Same n f g)
      (fun r => r.1 = .exit 0 ∧ ∃ i : Nat, r.2.1 7 = .int .i64 (i : Int) ∧ r.2.1 1 = .int .i64 (i0 : Int) ∧ ∃ g', QP r.2.2 q lv less c2 c3 N g' bl ∧ Fr W r.2.2 (Own N f bl) ∧ Fin (bef ls) i0 n f g' i ∧ (all n g').Perm (all n f) ∧ Same n f g') ⟨i0, f, by omega, hi0, rfl, rfl, rfl, rfl, h, .refl _ _, .inl ⟨rfl, rfl, hd⟩, .refl _, fun _ _ => rfl⟩ ?_ ?_ ?_
    · rintro k R W' hk ⟨i, g, h1, h2, h3, h3', h4, h5, h6, h7, h8, h9, h10⟩
      refine (key i R W' g h2 h3 h4 h5 h6 h7 h8 h9 h10).mono fun r hr => ?_
      rcases hr with ⟨r1, r2, r3, r4⟩ | ⟨r1, r2, r3, g', j, j1, j2, r5, r6, r7, r8⟩
      · exact .inr ⟨by rw [r1]; simp, r1, i, by rw [r3, h5], by rw [r2, h3'], r4⟩
      · exact .inl ⟨r1, j, g', by omega, by omega, r5, by rw [r3, h3'], r6, r7, r8⟩
    · rintro R W' ⟨i, g, h1, h2, h3, h3', h4, h5, h6, h7, h8, h9, h10⟩
      refine (key i R W' g h2 h3 h4 h5 h6 h7 h8 h9 h10).mono fun r hr => ?_
      rcases hr with ⟨r1, r2, r3, r4⟩ | ⟨r1, r2, -⟩
      · exact ⟨by rw [r1]; simp, r1, i, by rw [r3, h5], by rw [r2, h3'], r4⟩
      · omega
    · rintro ⟨x, R, W'⟩ ⟨hx, i, h7, h1, g', q1, q2, q3, q4⟩
      simp only at hx h7 h1 q1 q2 q3 q4
      subst hx
      simp only [SX, h7, h1, Ok_some]
      refine ⟨_, rfl, g', q1, q2, ?_, q4⟩
      rcases q3 with ⟨rfl, rfl, q3⟩ | ⟨q3, q5⟩
      · exact .inr ⟨by simp, rfl, q3⟩
      · exact .inl ⟨by simp; omega, q5⟩
  obtain ⟨⟨r, W'⟩, h1, b, h2, g, h3⟩ := main
  simp only at h2 h3
  subst h2
  rcases gc_two (W := W) (W' := W') (.bool b) with hg | ⟨hg, hle⟩
  · exact ⟨W', g, b, by rw [containerheap_down_om h1, hg], h3⟩
  · exact ⟨W, g, b, by rw [containerheap_down_om h1, hg], h3.1.back h3.2.1.next hle, .refl _ _, h3.2.2⟩
theorem up2_ok (o : Ord (bef ls)) (hl : IsLess less ls) {N : Nat} (h : QP W q lv less c2 c3 N f bl) (hN : N ≤ 10001) (hn : n ≤ N) {j : Nat} (hj : j < n) (hup : Up (bef ls) n f j) :
    ∃ W' g, omS (.func (.func 78) #[] #[]) [hpV q, .int .i64 (j : Int)] W = some (.tuple #[], W') ∧ QP W' q lv less c2 c3 N g bl ∧ Fr W W' (Own N f bl) ∧ Heap (bef ls) n g ∧ (all n g).Perm (all n f) ∧ Same n f g := by
  have main : Ok (containerheap_up omS (hpV q) (.int .i64 (j : Int)) W) fun r => r.1 = .tuple #[] ∧ ∃ g, QP r.2 q lv less c2 c3 N g bl ∧ Fr W r.2 (Own N f bl) ∧ Heap (bef ls) n g ∧ (all n g).Perm (all n f) ∧ Same n f g := by
    unfold containerheap_up
    have key : ∀ (i : Nat) (R : PlanTab.Fr) (W' : AW) (g : Nat → En), i < n → R 0 = hpV q → R 1 = .int .i64 (i : Int) → QP W' q lv less c2 c3 N g bl → Fr W W' (Own N f bl) → Up (bef ls) n g i → (all n g).Perm (all n f) → Same n f g →
        Ok (containerheap_up_L1 omS R W') fun r => (r.1 = .exit 0 ∧ ∃ g', QP r.2.2 q lv less c2 c3 N g' bl ∧ Fr W r.2.2 (Own N f bl) ∧ Heap (bef ls) n g' ∧ (all n g').Perm (all n f) ∧ Same n f g') ∨ (r.1 = .normal ∧ 0 < i ∧ ∃ g', r.2.1 0 = hpV q ∧ r.2.1 1 = .int .i64 (par i : Int) ∧ QP r.2.2 q lv less c2 c3 N g' bl ∧ Fr W r.2.2 (Own N f bl) ∧ Up (bef ls) n g' (par i) ∧ (all n g').Perm (all n f) ∧ Same n f g') := by
      intro i R W' g hi h0 h1 hQ hF hU hP hS
      unfold containerheap_up_L1
      have e1 := oBin_sub (P := Tryz.prog) (W := W') (t := 3) (c := false) (d := true) (a := (i : Int)) (b := 1) (by omega) (by omega)
      have e2 : oBin Tryz.prog .quo 3 false true (.int .i64 ((i : Int) - 1)) (.int .i64 2) W' = some (.int .i64 (par i : Int), W') := by
        rw [oBin_quo (by omega), td2, wrap_i64 (by omega) (by have := par_le i; omega)]
      by_cases hi0 : i = 0
      · subst hi0
        have e3 : ((par 0 : Nat) : Int) = ((0 : Nat) : Int) := rfl
        simp only [SX, h0, h1, e1, e2, e3, Ok_some]
        exact .inl ⟨trivial, g, hQ, hF, hU.done (.inl rfl), hP, hS⟩
      · have hpi := par_lt (k := i) (by omega)
        have e3 : ¬ ((par i : Int) = (i : Int)) := by omega
        simp only [SX, h0, h1, e1, e2, e3, iLess, pLess_ok hl hQ (Nat.lt_of_lt_of_le hi hn) (show par i < N by omega)]
        cases hb : bef ls (g i) (g (par i))
        · simp only [SX, Ok_some]
          exact .inl ⟨trivial, g, hQ, hF, hU.done (.inr hb), hP, hS⟩
        · obtain ⟨W2, s1, s2, s3⟩ := pSwap_ok hQ (show par i < N by omega) (Nat.lt_of_lt_of_le hi hn)
          simp only [SX, h0, h1, iSwap, s1, Ok_some]
          refine .inr ⟨trivial, by omega, _, h0, rfl, s2, hF.trans (s3.mono fun b hb => Own.low hP hS hb hn), hU.step o (by omega) hi hb, (all_swp g (show par i < n by omega) hi).trans hP, fun k hk => by rw [swp_ne _ (by omega) (by omega)]; exact hS k hk⟩
    refine Ok_loop j (by omega) (fun k R W' => ∃ i g, i + k ≤ j ∧ i < n ∧ R 0 = hpV q ∧ R 1 = .int .i64 (i : Int) ∧ QP W' q lv less c2 c3 N g bl ∧ Fr W W' (Own N f bl) ∧ Up (bef ls) n g i ∧ (all n g).Perm (all n f) ∧ Same n f g)
      (fun r => r.1 = .exit 0 ∧ ∃ g', QP r.2.2 q lv less c2 c3 N g' bl ∧ Fr W r.2.2 (Own N f bl) ∧ Heap (bef ls) n g' ∧ (all n g').Perm (all n f) ∧ Same n f g') ⟨j, f, by omega, hj, rfl, rfl, h, .refl _ _, hup, .refl _, fun _ _ => rfl⟩ ?_ ?_ ?_
    · rintro k R W' hk ⟨i, g, h1, h2, h3, h4, h5, h6, h7, h8, h9⟩
      refine (key i R W' g h2 h3 h4 h5 h6 h7 h8 h9).mono fun r hr => ?_
      rcases hr with hr | ⟨r1, r2, g', r3, r4, r5, r6, r7, r8⟩
      · exact .inr ⟨by rw [hr.1]; simp, hr⟩
      · have := par_lt r2
        exact .inl ⟨r1, par i, g', by omega, by omega, r3, r4, r5, r6, r7, r8⟩
    · rintro R W' ⟨i, g, h1, h2, h3, h4, h5, h6, h7, h8, h9⟩
      refine (key i R W' g h2 h3 h4 h5 h6 h7 h8 h9).mono fun r hr => ?_
      rcases hr with hr | ⟨r1, r2, -⟩
      · exact ⟨by rw [hr.1]; simp, hr⟩
      · omega
    · rintro ⟨x, R, W'⟩ ⟨hx, hq⟩
      simp only at hx hq
      subst hx
      simp only [SX, Ok_some]
      exact ⟨trivial, hq⟩
  obtain ⟨⟨r, W'⟩, h1, h2, g, h3⟩ := main
  simp only at h2 h3
  subst h2
  exact ⟨W', g, by rw [containerheap_up_om h1, gc_not rfl], h3⟩
end
end Go.Proofs.YtkpgmabebjmahaaGreat.Ho
/- container/heap over a queue's pile: up and down of one that may go either way. -/
namespace Go.Proofs.YtkpgmabebjmahaaGreat
open Go Go.Eng Go.Hp
set_option linter.unusedVariables false
set_option linter.unusedSimpArgs false
set_option linter.unusedSectionVars false
set_option maxRecDepth 100000
section
variable {W : AW} {q : Nat} {lv less c2 c3 : Value} {n : Nat} {f : Nat → En} {bl : Option Nat} {ls : Int → Int → Bool}
end
end Go.Proofs.YtkpgmabebjmahaaGreat
/- container/heap over a queue's pile: Fix and Remove. -/
namespace Go.Proofs.YtkpgmabebjmahaaGreat
open Go Go.Eng Go.Hp
set_option linter.unusedVariables false
set_option linter.unusedSimpArgs false
set_option linter.unusedSectionVars false
set_option maxRecDepth 100000
section
variable {W : AW} {q : Nat} {lv less c2 c3 : Value} {n : Nat} {f : Nat → En} {bl : Option Nat} {ls : Int → Int → Bool}
end
end Go.Proofs.YtkpgmabebjmahaaGreat
/- container/heap over a queue's pile: Fix and Remove. -/
namespace Go.Proofs.YtkpgmabebjmahaaGreat.Ho
open Go Go.Eng Go.Hp
set_option linter.unusedVariables false
set_option linter.unusedSimpArgs false
set_option linter.unusedSectionVars false
set_option maxRecDepth 100000
section
variable {W : AW} {q : Nat} {lv less c2 c3 : Value} {n : Nat} {f : Nat → En} {bl : Option Nat} {ls : Int × Int → Int × Int → Bool}
theorem hFix_ok (o : Ord (bef ls)) (hl : IsLess less ls) (h : QP W q lv less c2 c3 n f bl) (hn : n ≤ 10001) {i : Nat} (hi : i < n) (ho : Odd (bef ls) n f i) :
    ∃ W' g, omS (.func (.func 59) #[] #[]) [hpV q, .int .i64 (i : Int)] W = some (.tuple #[], W') ∧ QP W' q lv less c2 c3 n g bl ∧ Fr W W' (Own n f bl) ∧ Heap (bef ls) n g ∧ (all n g).Perm (all n f) := by
  obtain ⟨W1, g, b, d1, d2, d3, d4, d5, d6⟩ := down2_ok o hl h hn (Nat.le_refl n) (Nat.le_of_lt hi) ho
  have main : Ok (containerheap_Fix omS (hpV q) (.int .i64 (i : Int)) W) fun r => r.1 = .tuple #[] ∧ ∃ g, QP r.2 q lv less c2 c3 n g bl ∧ Fr W r.2 (Own n f bl) ∧ Heap (bef ls) n g ∧ (all n g).Perm (all n f) := by
    unfold containerheap_Fix
    rcases d4 with ⟨rfl, d4⟩ | ⟨rfl, rfl, d4⟩
    · simp only [SX, iLen, pLen_ok h, d1, Ok_some]
      exact ⟨trivial, g, d2, d3, d4, d5⟩
    · obtain ⟨W2, g2, u1, u2, u3, u4, u5, -⟩ := up2_ok o hl d2 hn (Nat.le_refl n) hi d4
      simp only [SX, iLen, pLen_ok h, d1, u1, Ok_some]
      exact ⟨trivial, g2, u2, d3.trans u3, u4, u5⟩
  obtain ⟨⟨r, W'⟩, h1, h2, g, h3⟩ := main
  simp only at h2 h3
  subst h2
  exact ⟨W', g, by rw [containerheap_Fix_om h1, gc_not rfl], h3⟩
theorem hRemove_ok (o : Ord (bef ls)) (hl : IsLess less ls) (h : QP W q lv less c2 c3 (n + 1) f bl) (hh : Heap (bef ls) (n + 1) f) (hn : n ≤ 10000) {i : Nat} (hi : i < n + 1) :
    ∃ W' lv' g, omS (.func (.func 76) #[] #[]) [hpV q, .int .i64 (i : Int)] W = some (.iface 106 (enP (f i)), W') ∧ QP W' q lv' less c2 c3 n g bl ∧ Heap (bef ls) n g ∧ (f i :: all n g).Perm (all (n + 1) f) ∧ (∃ p, W'.get (f i).b = some (.cells [.int .i64 (f i).h, .int .i64 (f i).v.1, .int .i64 (f i).v.2, p])) ∧ W'.next = W.next ∧ ∀ b, b ≠ q → ¬ Own (n + 1) f bl b → W'.get b = W.get b := by
  have main : Ok (containerheap_Remove omS (hpV q) (.int .i64 (i : Int)) W) fun r => r.1 = .iface 106 (enP (f i)) ∧ ∃ lv' g, QP r.2 q lv' less c2 c3 n g bl ∧ Heap (bef ls) n g ∧ (f i :: all n g).Perm (all (n + 1) f) ∧ (∃ p, r.2.get (f i).b = some (.cells [.int .i64 (f i).h, .int .i64 (f i).v.1, .int .i64 (f i).v.2, p])) ∧ r.2.next = W.next ∧ ∀ b, b ≠ q → ¬ Own (n + 1) f bl b → r.2.get b = W.get b := by
    unfold containerheap_Remove
    by_cases hin : i = n
    · subst hin
      obtain ⟨W3, lv', p1, p2, p3, p4⟩ := pPop_ok h hn
      simp only [SX, iLen, pLen_ok h, sub1 i (by omega), iPop, p1, Ok_some]
      refine ⟨trivial, lv', f, p2, hh.less (by omega), ?_, ⟨_, by rw [p4 _ (h.eq i hi) (h.pile.sl.ne hi)]; exact (h.pile.en i hi).1⟩, p3, fun b hb ho => p4 b hb fun e => ho (.inl e)⟩
      rw [all_succ]
      exact (List.perm_append_singleton _ _).symm
    · have e1 : ¬ ((n : Int) = (i : Int)) := by omega
      obtain ⟨W1, s1, s2, s3⟩ := pSwap_ok h hi (show n < n + 1 by omega)
      have hodd : Odd (bef ls) n (swp f i n) i := (hh.less (Nat.le_succ n)).change o fun j hj hji => swp_ne _ hji (by omega)
      obtain ⟨W2, g, b, d1, d2, d3, d4, d5, d6⟩ := down2_ok o hl s2 (by omega) (Nat.le_succ n) (show i ≤ n by omega) hodd
      have hp1 : (all (n + 1) (swp f i n)).Perm (all (n + 1) f) := all_swp f hi (by omega)
      have fin : ∀ W3 g3, QP W3 q lv less c2 c3 (n + 1) g3 bl → Fr W2 W3 (Own (n + 1) (swp f i n) bl) → Heap (bef ls) n g3 → (all n g3).Perm (all n (swp f i n)) → Same n (swp f i n) g3 →
          ∃ W4 lv', omS (.func (.func 118) #[] #[]) [.pointer (some ⟨q, 0, none⟩)] W3 = some (.iface 106 (enP (f i)), W4) ∧ QP W4 q lv' less c2 c3 n g3 bl ∧ (f i :: all n g3).Perm (all (n + 1) f) ∧ (∃ p, W4.get (f i).b = some (.cells [.int .i64 (f i).h, .int .i64 (f i).v.1, .int .i64 (f i).v.2, p])) ∧ W4.next = W.next ∧ ∀ b, b ≠ q → ¬ Own (n + 1) f bl b → W4.get b = W.get b := by
        intro W3 g3 a1 a2 a3 a4 a5
        have hg : g3 n = f i := by rw [a5 n (Nat.le_refl n), swp_r]
        obtain ⟨W4, lv', p1, p2, p3, p4⟩ := pPop_ok a1 hn
        rw [hg] at p1
        refine ⟨W4, lv', p1, p2, ?_, ⟨_, by have x := (a1.pile.en n (Nat.lt_succ_self n)).1; have y := a1.pile.sl.ne (Nat.lt_succ_self n); have z := a1.eq n (Nat.lt_succ_self n); rw [hg] at x y z; rw [p4 _ z y]; exact x⟩, by rw [p3, a2.next, d3.next, s3.next], fun b hb ho => ?_⟩
        · refine .trans ?_ hp1
          rw [all_succ, swp_r]
          exact (List.perm_append_singleton _ _).symm.trans (a4.append (.refl _))
        · have ho2 : ¬ Own (n + 1) (swp f i n) bl b := fun x => ho (Own.perm hp1 x)
          rw [p4 b hb fun hx => ho (.inl hx), a2.get b ho2, d3.get b ho2, s3.get b ho]
      rcases d4 with ⟨rfl, d4⟩ | ⟨rfl, rfl, d4⟩
      · obtain ⟨W4, lv', p1, p2, p3, p4, p5⟩ := fin W2 g d2 (.refl _ _) d4 d5 d6
        simp only [SX, iLen, pLen_ok h, sub1 n (by omega), e1, iSwap, s1, d1, iPop, p1, Ok_some]
        exact ⟨trivial, lv', g, p2, d4, p3, p4, p5⟩
      · obtain ⟨W3, g3, u1, u2, u3, u4, u5, u6⟩ := up2_ok o hl d2 (by omega) (Nat.le_succ n) (show i < n by omega) d4
        obtain ⟨W4, lv', p1, p2, p3, p4, p5⟩ := fin W3 g3 u2 u3 u4 u5 u6
        simp only [SX, iLen, pLen_ok h, sub1 n (by omega), e1, iSwap, s1, d1, u1, iPop, p1, Ok_some]
        exact ⟨trivial, lv', g3, p2, u4, p3, p4, p5⟩
  obtain ⟨⟨r, W'⟩, h1, h2, lv', g, h3⟩ := main
  simp only at h2 h3
  subst h2
  exact ⟨W', lv', g, by rw [containerheap_Remove_om h1, gc_not rfl], h3⟩
end
end Go.Proofs.YtkpgmabebjmahaaGreat.Ho
/- A queue and its methods. -/
namespace Go.Proofs.YtkpgmabebjmahaaGreat.Ho
open Go Go.Eng Go.Hp
set_option linter.unusedVariables false
set_option linter.unusedSimpArgs false
set_option linter.unusedSectionVars false
set_option maxRecDepth 100000
theorem u24 : Tryz.prog.underlying 56 = some (.pointer 104) := by kernel_rfl
theorem u107 : Tryz.prog.underlying 102 = some (.map 2 106) := by kernel_rfl
theorem u2 : Tryz.prog.underlying 2 = some (.int .i64) := by kernel_rfl
theorem pNe (a : Addr) (c d : Bool) (W : AW) : oBin Tryz.prog .neq 56 c d (.pointer (some a)) (.pointer none) W = some (.bool true, W) := by
  unfold oBin aBin aEql; simp only [u24]; rfl
theorem mNe (m : Nat) (c d : Bool) (W : AW) : oBin Tryz.prog .neq 102 c d (.map (some m)) (.map none) W = some (.bool true, W) := by
  unfold oBin aBin aEql; simp only [u107]; rfl
theorem bd189 (h : Int) (v : Int × Int) (W : AW) : oBuild Tryz.prog 108 [(0, .int .i64 h), (1, hoV v)] W = some (.agg #[.int .i64 h, .int .i64 v.1, .int .i64 v.2, .int .i64 0], W) := Eq.trans (by kernel_rfl) rfl
theorem al43 (W : AW) : oAlloc Tryz.prog 43 W = some (.pointer (some ⟨W.next, 0, none⟩), W.add (.cells [.int .i64 0, .int .i64 0])) := Eq.trans (by kernel_rfl) rfl
theorem oL43 (x : Value) (W : AW) : oLoad Tryz.prog 43 x W = ldA 2 x W := by kernel_rfl
theorem oRes_NL {P : Program} {W : AW} {t : TypeId} {x y u : Value} : oRes P [(x, none), (y, some t), (u, none)] W = (oLoad P t y W).bind fun r => some (.tuple #[x, r.1, u], W) := by
  unfold oRes oLoad; simp only [oResL]; cases aLoad P W t y <;> rfl
theorem st43 {W : AW} {b : Nat} {x y : Value} (v : Int × Int) (h : W.get b = some (.cells [x, y])) : stV 2 (.pointer (some ⟨b, 0, none⟩)) (hoV v) W = some (undef, W.put b (.cells [.int .i64 v.1, .int .i64 v.2])) := by
  rw [stV_agg, rwOf h, Option.bind_some, if_pos ⟨rfl, by simp, rfl⟩]
  rfl
theorem ld43 {W : AW} {b : Nat} {v : Int × Int} (h : W.get b = some (.cells [.int .i64 v.1, .int .i64 v.2])) : ldA 2 (.pointer (some ⟨b, 0, none⟩)) W = some (hoV v, W) := ldA_all (cellsAt_of h) rfl
theorem vs_ho (v : Int × Int) : vsame (hoV v) (hoV v) = true := vsame_agg (by simp [vsL, vs1_int])
theorem SlAt.ne_succ {W W' : AW} {n : Nat} {f g : Nat → En} {lv lv' : Value} {bl bl' : Option Nat} (h : SlAt W (n + 1) f lv bl) (h' : SlAt W' n g lv' bl') : lv' ≠ lv := by
  cases h with
  | nil h0 => omega
  | row b junk h1 h2 h3 =>
    cases h' with
    | nil h0 => simp
    | row b' junk' h1' h2' h3' =>
      intro e
      injection e with _ e
      omega
section
variable {W : AW} {q : Nat} {lv less c2 c3 : Value} {n : Nat} {f : Nat → En} {bl : Option Nat} {ls : Int × Int → Int × Int → Bool}
theorem QP.keep {W W' : AW} (h : QP W q lv less c2 c3 n f bl) (hn : W.next ≤ W'.next) (hg : ∀ b, b < W.next → b = q ∨ Own n f bl b → W'.get b = W.get b) : QP W' q lv less c2 c3 n f bl := by
  obtain ⟨hqc, hql, ⟨hsl, hen, hinj⟩, hbq, heq⟩ := h
  refine ⟨by rw [hg q hql (.inl rfl)]; exact hqc, by omega, ⟨hsl.keep hn fun b hb => hg b (hsl.lt hb) (.inr (.inl hb)), fun i hi => ?_, hinj⟩, hbq, heq⟩
  have := (hen i hi).2
  exact ⟨by rw [hg _ this (.inr (.inr ⟨i, hi, rfl⟩))]; exact (hen i hi).1, by omega⟩
theorem QP.turn {c3' : Value} (h : QP W q lv less c2 c3 n f bl) : QP (W.put q (.cells [lv, less, c2, c3'])) q lv less c2 c3' n f bl := by
  obtain ⟨hqc, hql, ⟨hsl, hen, hinj⟩, hbq, heq⟩ := h
  refine ⟨AW.get_put _ _ _, by rw [AW.put_next]; exact hql, ⟨hsl.keep (by rw [AW.put_next]; omega) fun b hb => AW.get_put_ne _ _ (fun e => hbq (by rw [hb, e])), fun i hi => ?_, hinj⟩, hbq, heq⟩
  rw [AW.get_put_ne _ _ (Ne.symm (heq i hi)), AW.put_next]
  exact hen i hi
end
/-- a queue of n entries -/
structure QS (W : AW) (In : Nat → Prop) (q mh : Nat) (less : Value) (ls : Int × Int → Int × Int → Bool) (nx : Int) (n : Nat) (f : Nat → En) : Prop where
  ex : ∃ lv bl, QP W q lv less (.map (some mh)) (.int .i64 nx) n f bl ∧ bl ≠ some mh ∧ ∀ b, Own n f bl b → In b
  ml : mh < W.next
  mq : mh ≠ q
  me : ∀ i, i < n → (f i).b ≠ mh
  iq : In q
  im : In mh
  hp : Heap (bef ls) n f
  mp : ∃ m, MapV W mh m n ∧ (∀ i, i < n → m (f i).h = some (enP (f i))) ∧ ∀ k v, m k = some v → ∃ i, i < n ∧ (f i).h = k ∧ v = enP (f i)
  hd : ∀ i, i < n → 1 ≤ (f i).h ∧ (f i).h < nx
  nx1 : 1 ≤ nx
/-- what changes lies in In -/
structure Gr (W W' : AW) (In : Nat → Prop) : Prop where
  next : W.next ≤ W'.next
  get : ∀ b, b < W.next → ¬ In b → W'.get b = W.get b
theorem Gr.refl (W : AW) (In : Nat → Prop) : Gr W W In := ⟨Nat.le_refl _, fun _ _ _ => rfl⟩
theorem Gr.trans {A B C : AW} {In : Nat → Prop} (h : Gr A B In) (k : Gr B C In) : Gr A C In := ⟨Nat.le_trans h.next k.next, fun b hb hi => (k.get b (Nat.lt_of_lt_of_le hb h.next) hi).trans (h.get b hb hi)⟩
section
variable {W : AW} {In : Nat → Prop} {q mh : Nat} {less : Value} {ls : Int × Int → Int × Int → Bool} {nx : Int} {n : Nat} {f : Nat → En}
theorem QS.keep {W W' : AW} {In' : Nat → Prop} (h : QS W In q mh less ls nx n f) (hn : W.next ≤ W'.next) (hg : ∀ b, b < W.next → In b → W'.get b = W.get b) (hi : ∀ b, b < W.next → In b → In' b) : QS W' In' q mh less ls nx n f := by
  obtain ⟨⟨lv, bl, h1, h2, h3⟩, ml, mq, me, iq, im, hp, ⟨m, m1, m2⟩, hd, nx1⟩ := h
  refine ⟨⟨lv, bl, h1.keep hn fun b hb ho => hg b hb ?_, h2, fun b hb => hi b ?_ (h3 b hb)⟩, by omega, mq, me, hi q h1.lt iq, hi mh ml im, hp, ⟨m, m1.keep (hg mh ml im), m2⟩, hd, nx1⟩
  · rcases ho with rfl | ho
    · exact iq
    · exact h3 b ho
  · rcases hb with hb | ⟨i, hi', rfl⟩
    · exact h1.pile.sl.lt hb
    · exact (h1.pile.en i hi').2
theorem QS.back {W W' : AW} (h : QS W' In q mh less ls nx n f) (hn : W'.next = W.next) (hle : Le W W') : QS W In q mh less ls nx n f :=
  h.keep (by omega) (fun b hb _ => (hle.get b (by omega)).symm) fun _ _ hb => hb
abbrev qV (q : Nat) : Value := .pointer (some ⟨q, 0, none⟩)
theorem made_ok (h : QS W In q mh less ls nx n f) : omS (.func (.func 46) #[] #[]) [qV q] W = some (.bool true, W) := by
  obtain ⟨⟨lv, bl, h1, h2, h3⟩, -⟩ := h
  refine om_drop rfl ?_ heaps_Queueapi_HoEntry_made_om
  unfold heaps_Queueapi_HoEntry_made
  simp only [SX, pNe, oNilCheck_ptr, Nat.zero_add, h1.l2, mNe, Ok_some]
  exact ⟨trivial, .refl _⟩
theorem qLen_ok (h : QS W In q mh less ls nx n f) : omS (.func (.func 43) #[] #[]) [qV q] W = some (.int .i64 (n : Int), W) := by
  have hm := made_ok h
  obtain ⟨⟨lv, bl, h1, h2, h3⟩, -⟩ := h
  refine om_drop rfl ?_ heaps_Queueapi_HoEntry_Len_om
  unfold heaps_Queueapi_HoEntry_Len
  simp only [SX, hm, oNilCheck_ptr, Nat.zero_add, h1.l0, h1.pile.len, Ok_some]
  exact ⟨trivial, .refl _⟩
theorem peek0_ok (h : QS W In q mh less ls nx 0 f) : omS (.func (.func 39) #[] #[]) [qV q] W = some (.tuple #[.int .i64 0, hoV (0, 0), .int .i64 4], W) := by
  refine om_drop rfl ?_ heaps_Queueapi_HoEntry_Peek_om
  unfold heaps_Queueapi_HoEntry_Peek
  generalize hW1 : W.add (.cells [.int .i64 0, .int .i64 0]) = W1
  have n1 : W1.next = W.next + 1 := by rw [← hW1, AW.add_next]
  have l1 : Le W W1 := by rw [← hW1]; exact (Le.refl _).add _
  have x1 : W1.get W.next = some (.cells [.int .i64 (0, 0).1, .int .i64 (0, 0).2]) := by rw [← hW1]; exact AW.get_add _ _
  have h1 : QS W1 In q mh less ls nx 0 f := h.keep l1.next (fun b hb _ => l1.get b hb) (fun b _ hi => hi)
  have hm := made_ok h1
  obtain ⟨⟨lv, bl, k1, k2, k3⟩, -⟩ := h1
  have e0 : (((0 : Nat) : Int) = 0) := rfl
  have x2 : (W1.put W.next (.cells [.int .i64 (0, 0).1, .int .i64 (0, 0).2])).get W.next = some (.cells [.int .i64 (0, 0).1, .int .i64 (0, 0).2]) := AW.get_put _ _ _
  simp only [SX, al43, hW1, hm, oNilCheck_ptr, Nat.zero_add, k1.l0, k1.pile.len, e0, ld43 (v := (0, 0)) x1, st43 (0, 0) x1, oRes_NL, oL43, ld43 (v := (0, 0)) x2, Option.bind_some, Ok_some]
  exact ⟨trivial, l1.put (Nat.le_refl _) _⟩
theorem peek_ok (h : QS W In q mh less ls nx n f) (hn : 0 < n) : omS (.func (.func 39) #[] #[]) [qV q] W = some (.tuple #[.int .i64 (f 0).h, hoV (f 0).v, .int .i64 0], W) := by
  refine om_drop rfl ?_ heaps_Queueapi_HoEntry_Peek_om
  unfold heaps_Queueapi_HoEntry_Peek
  generalize hW1 : W.add (.cells [.int .i64 0, .int .i64 0]) = W1
  have n1 : W1.next = W.next + 1 := by rw [← hW1, AW.add_next]
  have l1 : Le W W1 := by rw [← hW1]; exact (Le.refl _).add _
  have x1 : W1.get W.next = some (.cells [.int .i64 0, .int .i64 0]) := by rw [← hW1]; exact AW.get_add _ _
  have h1 : QS W1 In q mh less ls nx n f := h.keep l1.next (fun b hb _ => l1.get b hb) (fun b _ hi => hi)
  have hm := made_ok h1
  obtain ⟨⟨lv, bl, k1, k2, k3⟩, -⟩ := h1
  have e0 : ¬ ((n : Int) = 0) := by omega
  obtain ⟨b, -, g1, g2⟩ := k1.pile.get hn
  have g1' : ∀ W' k, ixS 1 lv (.int k 0) W' = some (.pointer (some ⟨b, 0, none⟩), W') := g1
  obtain ⟨c1, c2⟩ := k1.pile.cell hn
  have x2 : (W1.put W.next (.cells [.int .i64 (f 0).v.1, .int .i64 (f 0).v.2])).get W.next = some (.cells [.int .i64 (f 0).v.1, .int .i64 (f 0).v.2]) := AW.get_put _ _ _
  simp only [SX, al43, hW1, hm, oNilCheck_ptr, Nat.zero_add, k1.l0, k1.pile.len, e0, g1', g2, c1, c2, st43 _ x1, oRes_NL, oL43, ld43 x2, Option.bind_some, Ok_some]
  exact ⟨trivial, l1.put (Nat.le_refl _) _⟩
theorem qPop_ok (o : Ord (bef ls)) (hl : IsLess less ls) (h : QS W In q mh less ls nx (n + 1) f) (hn : n ≤ 10000) :
    ∃ W' g, omS (.func (.func 42) #[] #[]) [qV q] W = some (.tuple #[.int .i64 (f 0).h, hoV (f 0).v, .int .i64 0], W') ∧ QS W' In q mh less ls nx n g ∧ (f 0 :: all n g).Perm (all (n + 1) f) ∧ Gr W W' In := by
  generalize hV : (W.add (.cells [.int .i64 0, .int .i64 0])).put W.next (.cells [.int .i64 (f 0).v.1, .int .i64 (f 0).v.2]) = V
  generalize hV0 : W.add (.cells [.int .i64 0, .int .i64 0]) = V0 at hV
  have l0 : Le W V0 := by rw [← hV0]; exact (Le.refl _).add _
  have lV : Le W V := by rw [← hV]; exact l0.put (Nat.le_refl _) _
  have nV : V.next = W.next + 1 := by rw [← hV, AW.put_next, ← hV0, AW.add_next]
  have x0 : V0.get W.next = some (.cells [.int .i64 0, .int .i64 0]) := by rw [← hV0]; exact AW.get_add _ _
  have xV : V.get W.next = some (.cells [.int .i64 (f 0).v.1, .int .i64 (f 0).v.2]) := by rw [← hV]; exact AW.get_put _ _ _
  have h0 : QS V0 In q mh less ls nx (n + 1) f := h.keep l0.next (fun b hb _ => l0.get b hb) (fun b _ hi => hi)
  have hs := h
  have hW := h
  have hpk := peek_ok h0 (by omega)
  have h : QS V In q mh less ls nx (n + 1) f := h.keep lV.next (fun b hb _ => lV.get b hb) (fun b _ hi => hi)
  have main : Ok (heaps_Queueapi_HoEntry_Pop omS (qV q) W) fun r => r.1 = .tuple #[.int .i64 (f 0).h, hoV (f 0).v, .int .i64 0] ∧ (∃ g, QS r.2 In q mh less ls nx n g ∧ (f 0 :: all n g).Perm (all (n + 1) f) ∧ Gr W r.2 In) ∧ r.2.get q ≠ W.get q ∧ q < W.next := by
    obtain ⟨⟨lw, bw, w1, w2, w3⟩, wm, -⟩ := hW
    obtain ⟨⟨lv, bl, h1, h2, h3⟩, ml, mq, me, iq, im, hp, ⟨m, m1, m2, m3⟩, hd, nx1⟩ := h
    obtain ⟨W1, lv', g, p1, p2, p3, p4, p5, p6⟩ := hPop_ok o hl h1 hp hn
    have hmem : ∀ i, i < n → ∃ k, k < n + 1 ∧ f k = g i := fun i hi => all_mem.1 (p4.mem_iff.1 (List.mem_cons_of_mem _ (all_mem.2 ⟨i, hi, rfl⟩)))
    have hown : ∀ b, Own n g bl b → Own (n + 1) f bl b := fun b hb => by
      rcases hb with hb | ⟨i, hi, rfl⟩
      · exact .inl hb
      · obtain ⟨k, hk, e⟩ := hmem i hi
        exact .inr ⟨k, hk, by rw [e]⟩
    have hmo : ¬ Own (n + 1) f bl mh := fun ho => by
      rcases ho with ho | ⟨i, hi, ho⟩
      · exact h2 ho
      · exact me i hi ho
    have m1' := m1.keep (p6 mh mq hmo)
    obtain ⟨es, c, d1, d2⟩ := mapV_del m1' u107 u2 [2] (f 0).h
    rw [m2 0 (by omega)] at d2
    simp only [Option.isSome_some, if_true, Nat.add_sub_cancel] at d2
    have dd : oBuiltin Tryz.prog .delete #[102, 2] 0 #[false, false] [.map (some mh), .int .i64 (f 0).h] W1 = some (.tuple #[], W1.put mh (.map es c)) := by
      show (aDelete Tryz.prog W1 #[102, 2] (.map (some mh)) (.int .i64 (f 0).h)).map _ = _
      have : (#[102, 2] : Array TypeId) = (102 :: [2]).toArray := rfl
      rw [this, d1]; rfl
    have hqn : W.next ≠ q := by have := w1.lt; omega
    have hmn : W.next ≠ mh := by omega
    have hwo : ¬ Own (n + 1) f bl W.next := fun ho => by
      rcases ho with ho | ⟨i, hi, ho⟩
      · have x := h1.qc
        rw [lV.get q w1.lt, w1.qc] at x
        injection x with x; injection x with x
        injection x with x _
        have y := w1.pile.sl
        rw [x] at y
        have z := h1.pile.sl
        rw [ho] at z
        cases z with
        | row b junk z1 z2 z3 =>
          cases y with
          | row b' junk' y1 y2 y3 => omega
      · have x := (w1.pile.en i hi).2
        omega
    have xW1 : W1.get W.next = some (.cells [.int .i64 (f 0).v.1, .int .i64 (f 0).v.2]) := (p6 _ hqn hwo).trans xV
    have xW2 : (W1.put mh (.map es c)).get W.next = some (.cells [.int .i64 (f 0).v.1, .int .i64 (f 0).v.2]) := by rw [AW.get_put_ne _ _ (Ne.symm hmn)]; exact xW1
    generalize hW2 : W1.put mh (.map es c) = W2 at d2 dd xW2
    have g2 : ∀ b, b ≠ mh → W2.get b = W1.get b := fun b hb => by rw [← hW2]; exact AW.get_put_ne _ _ (Ne.symm hb)
    have n2 : W2.next = W.next + 1 := by rw [← hW2, AW.put_next, p5, nV]
    have st := st43 (f 0).v xW2
    have xW3 : (W2.put W.next (.cells [.int .i64 (f 0).v.1, .int .i64 (f 0).v.2])).get W.next = some (.cells [.int .i64 (f 0).v.1, .int .i64 (f 0).v.2]) := AW.get_put _ _ _
    generalize hW3 : W2.put W.next (.cells [.int .i64 (f 0).v.1, .int .i64 (f 0).v.2]) = W3 at st xW3
    have g3 : ∀ b, b ≠ W.next → W3.get b = W2.get b := fun b hb => by rw [← hW3]; exact AW.get_put_ne _ _ (Ne.symm hb)
    have n3 : W3.next = W.next + 1 := by rw [← hW3, AW.put_next, n2]
    have st0 : stV 2 (.pointer (some ⟨W.next, 0, none⟩)) (hoV (f 0).v) V0 = some (undef, V) := by rw [st43 _ x0, hV]
    have hbw : ∀ b, Own n g bl b → b ≠ W.next := fun b hb e => hwo (by rw [← e]; exact hown b hb)
    unfold heaps_Queueapi_HoEntry_Pop
    simp only [SX, al43, hV0, hpk, st0, oNilCheck_ptr, Nat.zero_add, ki103, p1, p2.l2, dd, ld43 xW2, agV_some, vs_ho, Bool.and_self, st, oRes_NL, oL43, ld43 xW3, Option.bind_some, Ok_some]
    have q3 : QP W3 q lv' less (.map (some mh)) (.int .i64 nx) n g bl := p2.keep (by omega) fun b hb ho => by
      have e1 : b ≠ W.next := by
        rcases ho with rfl | ho
        · exact Ne.symm hqn
        · exact hbw b ho
      rw [g3 b e1, g2 b]
      intro e
      subst e
      rcases ho with ho | ho
      · exact mq ho
      · exact hmo (hown _ ho)
    refine ⟨trivial, ⟨g, ⟨⟨lv', bl, q3, h2, fun b hb => h3 b (hown b hb)⟩, by omega, mq, fun i hi => ?_, iq, im, p3, ⟨_, d2.keep (g3 mh (Ne.symm hmn)), fun i hi => ?_, fun k v hk => ?_⟩, fun i hi => ?_, nx1⟩, p4, by omega, fun b hb hi => ?_⟩, ?_, w1.lt⟩
    · obtain ⟨k, hk, e⟩ := hmem i hi
      rw [← e]; exact me k hk
    · have hne : ¬ (g i).h = (f 0).h := fun e => by
        obtain ⟨k, hk, ek⟩ := hmem i hi
        have a1 := m2 k hk
        rw [ek, e, m2 0 (by omega)] at a1
        injection a1 with a1
        have a2 : (f 0).b = (g i).b := by injection a1 with a1; injection a1 with a1; injection a1
        have hnd : ((f 0).b :: (all n g).map (·.b)).Nodup := by
          have := (p4.map (·.b)).nodup_iff.2 ?_
          · exact this
          · unfold all
            rw [List.map_map, List.nodup_iff_pairwise_ne, List.pairwise_map]
            refine List.nodup_range.imp_of_mem fun {a b} ha hb hab e => hab (h1.pile.inj a b (List.mem_range.1 ha) (List.mem_range.1 hb) e)
        exact (List.nodup_cons.1 hnd).1 (List.mem_map.2 ⟨g i, all_mem.2 ⟨i, hi, rfl⟩, a2.symm⟩)
      obtain ⟨k, hk, ek⟩ := hmem i hi
      rw [if_neg hne, ← ek]
      exact m2 k hk
    · by_cases hk0 : k = (f 0).h
      · rw [if_pos hk0] at hk; cases hk
      · rw [if_neg hk0] at hk
        obtain ⟨i, hi, e1, e2⟩ := m3 k v hk
        have := p4.mem_iff.2 (all_mem.2 ⟨i, hi, rfl⟩)
        rcases List.mem_cons.1 this with e | hm
        · rw [e] at e1; exact absurd e1.symm hk0
        · obtain ⟨j, hj, e⟩ := all_mem.1 hm
          exact ⟨j, hj, by rw [e]; exact e1, by rw [e]; exact e2⟩
    · obtain ⟨k, hk, e⟩ := hmem i hi
      rw [← e]; exact hd k hk
    · rw [g3 b (by omega), g2 b (fun e => hi (by rw [e]; exact im)), p6 b (fun e => hi (by rw [e]; exact iq)) fun ho => hi (h3 b ho)]
      exact lV.get b hb
    · rw [q3.qc, w1.qc]
      intro e
      injection e with e; injection e with e; injection e with e _
      exact SlAt.ne_succ w1.pile.sl p2.pile.sl e
  obtain ⟨⟨r, W'⟩, h1, h2, ⟨g, h3⟩, h4, h5⟩ := main
  simp only at h2 h3 h4 h5
  subst h2
  rcases gc_two (W := W) (W' := W') (.tuple #[.int .i64 (f 0).h, hoV (f 0).v, .int .i64 0]) with hg | ⟨hg, hle⟩
  · exact ⟨W', g, by rw [heaps_Queueapi_HoEntry_Pop_om h1, hg], h3⟩
  · exact absurd (hle.get q h5) h4
end
end Go.Proofs.YtkpgmabebjmahaaGreat.Ho
/- A queue: New and Push. -/
namespace Go.Proofs.YtkpgmabebjmahaaGreat.Ho
open Go Go.Eng Go.Hp
set_option linter.unusedVariables false
set_option linter.unusedSimpArgs false
set_option linter.unusedSectionVars false
set_option maxRecDepth 100000
theorem u26b : (match Tryz.prog.underlying 75 with | some (.func _ _ _) => true | _ => false) = true := by kernel_rfl
theorem u26 : ∃ a b c, Tryz.prog.underlying 75 = some (.func a b c) := by
  have h := u26b
  split at h
  · rename_i a b c e; exact ⟨a, b, c, e⟩
  · cases h
theorem fNil (k : Nat) (W : AW) : oBin Tryz.prog .eql 75 false true (.func (.func k) #[] #[]) .nilFunc W = some (.bool false, W) := by
  obtain ⟨a, b, c, h⟩ := u26
  unfold oBin aBin aEql; simp only [h]
theorem bd106 (k : Nat) (W : AW) : oBuild Tryz.prog 101 [(1, .func (.func k) #[] #[])] W = some (.agg #[.slice none 0 0, .func (.func k) #[] #[]], W) := Eq.trans (by kernel_rfl) rfl
theorem bd109 (k m : Nat) (W : AW) : oBuild Tryz.prog 104 [(0, .agg #[.slice none 0 0, .func (.func k) #[] #[]]), (1, .map (some m)), (2, .int .i64 1)] W = some (.agg #[.slice none 0 0, .func (.func k) #[] #[], .map (some m), .int .i64 1], W) := Eq.trans (by kernel_rfl) rfl
theorem oBox4 (a b c d : Value) (W : AW) : oBox (.agg #[a, b, c, d]) W = some (.pointer (some ⟨W.next, 0, none⟩), W.add (.cells [a, b, c, d])) := oBox_agg _
theorem mkM (W : AW) : oMkMap Tryz.prog 102 none W = some (.map (some W.next), W.add (.map [] 0)) := rfl
theorem new_ok {In : Nat → Prop} {W : AW} (hi : ∀ b, W.next ≤ b → In b) (k : Nat) (ls : Int × Int → Int × Int → Bool) (f : Nat → En) : ∃ W' q mh, omS (.func (.func 36) #[] #[]) [.func (.func k) #[] #[]] W = some (qV q, W') ∧ QS W' In q mh (.func (.func k) #[] #[]) ls 1 0 f ∧ Gr W W' In := by
  have main : heaps_Newapi_HoEntry omS (.func (.func k) #[] #[]) W = some (qV (W.next + 1), (W.add (.map [] 0)).add (.cells [.slice none 0 0, .func (.func k) #[] #[], .map (some W.next), .int .i64 1])) := by
    unfold heaps_Newapi_HoEntry
    simp only [SX, fNil, bd106, mkM, bd109, oBox4]
    rfl
  have e := heaps_Newapi_HoEntry_om main
  rw [gc_not rfl] at e
  refine ⟨_, W.next + 1, W.next, e, ⟨⟨.slice none 0 0, none, ⟨by rw [← AW.add_next W (.map [] 0)]; exact AW.get_add _ _, by simp only [AW.add_next]; omega, ⟨.nil rfl, fun i hi => by omega, fun i j hi => by omega⟩, by simp, fun i hi => by omega⟩, by simp, fun b hb => ?_⟩, by simp only [AW.add_next]; omega, by omega, fun i hi => by omega, hi _ (by omega), hi _ (by omega), fun k _ hk => by omega, ⟨_, mapV_new.keep (AW.get_add_ne _ _ (by rw [AW.add_next]; omega)), fun i hi => by omega, fun k v hk => by cases hk⟩, fun i hi => by omega, by omega⟩, by simp only [AW.add_next]; omega, fun b hb _ => ?_⟩
  · rcases hb with hb | ⟨i, hi, -⟩
    · cases hb
    · omega
  · rw [AW.get_add_ne _ _ (by rw [AW.add_next]; omega), AW.get_add_ne _ _ (by omega)]
section
variable {W : AW} {In : Nat → Prop} {q mh : Nat} {less : Value} {ls : Int × Int → Int × Int → Bool} {nx : Int} {n : Nat} {f : Nat → En}
theorem qPush_ok (o : Ord (bef ls)) (hl : IsLess less ls) (h : QS W In q mh less ls nx n f) (hn : n < 5000) (hnx : nx < 1000000000000000) (hi : ∀ b, W.next ≤ b → In b) (v : Int × Int) :
    ∃ W' g, omS (.func (.func 38) #[] #[]) [qV q, hoV v] W = some (.tuple #[.int .i64 nx, .int .i64 0], W') ∧ QS W' In q mh less ls (nx + 1) (n + 1) g ∧ (all (n + 1) g).Perm (⟨W.next + 1, nx, v⟩ :: all n f) ∧ Gr W W' In := by
  generalize hV : W.add (.cells [.int .i64 v.1, .int .i64 v.2]) = V
  have lV : Le W V := by rw [← hV]; exact (Le.refl _).add _
  have nV : V.next = W.next + 1 := by rw [← hV, AW.add_next]
  have xV : V.get W.next = some (.cells [.int .i64 v.1, .int .i64 v.2]) := by rw [← hV]; exact AW.get_add _ _
  have oBh : oBox (hoV v) W = some (.pointer (some ⟨W.next, 0, none⟩), V) := by rw [← hV]; exact oBox_agg _
  have hW := h
  replace h : QS V In q mh less ls nx n f := h.keep lV.next (fun b hb _ => lV.get b hb) (fun b _ hi => hi)
  replace hi : ∀ b, V.next ≤ b → In b := fun b hb => hi b (by omega)
  rw [← nV]
  have hm := made_ok h
  have main : Ok (heaps_Queueapi_HoEntry_Push omS (qV q) (hoV v) W) fun r => r.1 = .tuple #[.int .i64 nx, .int .i64 0] ∧ (∃ g, QS r.2 In q mh less ls (nx + 1) (n + 1) g ∧ (all (n + 1) g).Perm (⟨V.next, nx, v⟩ :: all n f) ∧ Gr V r.2 In) ∧ r.2.get q ≠ V.get q ∧ q < V.next := by
    obtain ⟨⟨lv, bl, h1, h2, h3⟩, ml, mq, me, iq, im, hp, ⟨m, m1, m2, m3⟩, hd, nx1⟩ := h
    have e1 : ¬ (5000 ≤ (n : Int)) := by omega
    have e2 : ¬ (1000000000000000 ≤ nx) := by omega
    have e3 := fun W' => oBin_add (P := Tryz.prog) (W := W') (t := 2) (c := false) (d := true) (a := nx) (b := 1) (by omega) (by omega)
    unfold heaps_Queueapi_HoEntry_Push
    generalize hW1 : V.add (.cells [.int .i64 nx, .int .i64 v.1, .int .i64 v.2, .int .i64 0]) = W1
    have g1 : ∀ b, b < V.next → W1.get b = V.get b := fun b hb => by rw [← hW1]; exact AW.get_add_ne _ _ (by omega)
    have n1 : W1.next = V.next + 1 := by rw [← hW1, AW.add_next]
    have ge1 : W1.get V.next = some (.cells [.int .i64 nx, .int .i64 v.1, .int .i64 v.2, .int .i64 0]) := by rw [← hW1]; exact AW.get_add _ _
    have q1 : QP W1 q lv less (.map (some mh)) (.int .i64 nx) n f bl := h1.keep (by omega) fun b hb _ => g1 b hb
    have s1 := stA (v := .int .i64 (nx + 1)) (o := 3) q1.qc (by simp) rfl rfl
    rw [show ([lv, less, .map (some mh), .int .i64 nx] : List Value).set 3 (.int .i64 (nx + 1)) = [lv, less, .map (some mh), .int .i64 (nx + 1)] from rfl] at s1
    have q2 := q1.turn (c3' := .int .i64 (nx + 1))
    generalize hW2 : W1.put q (.cells [lv, less, .map (some mh), .int .i64 (nx + 1)]) = W2 at s1 q2
    have g2 : ∀ b, b ≠ q → W2.get b = W1.get b := fun b hb => by rw [← hW2]; exact AW.get_put_ne _ _ (Ne.symm hb)
    have n2 : W2.next = V.next + 1 := by rw [← hW2, AW.put_next, n1]
    have hqn : V.next ≠ q := by have := h1.lt; omega
    have ge2 : W2.get V.next = some (.cells [.int .i64 nx, .int .i64 v.1, .int .i64 v.2, .int .i64 0]) := (g2 _ hqn).trans ge1
    have m1' : MapV W2 mh m n := m1.keep (by rw [g2 _ mq, g1 _ ml])
    obtain ⟨es, c, d1, d2⟩ := mapV_set m1' u107 u2 nx (.pointer (some ⟨V.next, 0, none⟩))
    have hmn : m nx = none := by
      cases hx : m nx with
      | none => rfl
      | some v =>
        obtain ⟨i, hi, e, -⟩ := m3 nx v hx
        have := (hd i hi).2
        omega
    rw [hmn] at d2
    simp only [Option.isSome_none, Bool.false_eq_true, if_false] at d2
    generalize hW3 : W2.put mh (.map es c) = W3 at d1 d2
    have g3 : ∀ b, b ≠ mh → W3.get b = W2.get b := fun b hb => by rw [← hW3]; exact AW.get_put_ne _ _ (Ne.symm hb)
    have n3 : W3.next = V.next + 1 := by rw [← hW3, AW.put_next, n2]
    have hown : ∀ b, Own n f bl b → b < V.next := fun b hb => by
      rcases hb with hb | ⟨i, hi, rfl⟩
      · exact h1.pile.sl.lt hb
      · exact (h1.pile.en i hi).2
    have q3 : QP W3 q lv less (.map (some mh)) (.int .i64 (nx + 1)) n f bl := q2.keep (by omega) fun b hb ho => g3 b fun e => by
      subst e
      rcases ho with ho | ho | ⟨i, hi, ho⟩
      · exact mq ho
      · exact h2 ho
      · exact me i hi ho
    have ge3 : W3.get V.next = some (.cells [.int .i64 nx, .int .i64 v.1, .int .i64 v.2, .int .i64 0]) := (g3 _ (by omega)).trans ge2
    obtain ⟨W4, lv', b', g, p1, p2, p3, p4, p5, p6, p7⟩ := hPush_ok (e := ⟨V.next, nx, v⟩) o hl q3 hp (by omega) ge3 (by rw [n3]; exact Nat.lt_succ_self _) hqn (fun e => by have := hown _ (.inl e); simp at this) (fun i hi e => by have := (h1.pile.en i hi).2; simp only at e; omega)
    obtain ⟨j, hj, ej⟩ := all_mem.1 (p4.mem_iff.2 (List.mem_cons_self ..))
    have l4 : ldC (.pointer (some ⟨V.next, 0, none⟩)) W4 = some (.int .i64 nx, W4) := by
      have := (p2.pile.cell hj).1
      rw [ej] at this; exact this
    simp only [SX, hm, oNilCheck_ptr, Nat.zero_add, h1.l0, h1.l3, h1.pile.len, e1, e2, oBh, ld43 xV, bd189, oBox4, hW1, q1.l3, e3, s1, q2.l2, ldR (o := 0) (rwOf ge2) rfl, d1, ki103, ki127, p1, l4, Ok_some]
    have hmem : ∀ i, i < n + 1 → g i = ⟨V.next, nx, v⟩ ∨ ∃ k, k < n ∧ f k = g i := fun i hi => by
      rcases List.mem_cons.1 (p4.mem_iff.1 (all_mem.2 ⟨i, hi, rfl⟩)) with e | e
      · exact .inl e
      · exact .inr (all_mem.1 e)
    have q4 : W4.get q = some (.cells [lv', less, .map (some mh), .int .i64 (nx + 1)]) := p2.qc
    refine ⟨trivial, ⟨g, ⟨⟨lv', some b', p2, fun e => by injection e with e; omega, fun b hb => ?_⟩, by omega, mq, fun i hi' => ?_, iq, im, p3, ⟨_, d2.keep (p7 mh (by omega) mq (by simp only; omega) fun ho => ?_), fun i hi' => ?_, fun k v' hk => ?_⟩, fun i hi' => ?_, by omega⟩, p4, by omega, fun b hb hni => ?_⟩, ?_, h1.lt⟩
    · rcases hb with hb | ⟨i, hi', rfl⟩
      · injection hb with hb
        exact hi b (by omega)
      · rcases hmem i hi' with e | ⟨k, hk, e⟩
        · rw [e]; exact hi _ (Nat.le_refl _)
        · rw [← e]; exact h3 _ (.inr ⟨k, hk, rfl⟩)
    · rcases hmem i hi' with e | ⟨k, hk, e⟩
      · rw [e]; simp only; omega
      · rw [← e]; exact me k hk
    · rcases ho with ho | ⟨i, hi', ho⟩
      · exact h2 ho
      · exact me i hi' ho
    · rcases hmem i hi' with e | ⟨k, hk, e⟩
      · rw [e, if_pos rfl]
      · have := (hd k hk).2
        rw [← e, if_neg (by omega)]
        exact m2 k hk
    · by_cases hk0 : k = nx
      · rw [if_pos hk0] at hk
        injection hk with hk
        exact ⟨j, hj, by rw [ej, hk0], by rw [ej, ← hk]⟩
      · rw [if_neg hk0] at hk
        obtain ⟨i, hi', x1, x2⟩ := m3 k v' hk
        obtain ⟨i2, hi2, x3⟩ := all_mem.1 (p4.mem_iff.2 (List.mem_cons_of_mem _ (all_mem.2 ⟨i, hi', rfl⟩)))
        exact ⟨i2, hi2, by rw [x3]; exact x1, by rw [x3]; exact x2⟩
    · rcases hmem i hi' with e | ⟨k, hk, e⟩
      · rw [e]; simp only; omega
      · have := hd k hk
        rw [← e]; omega
    · rw [p7 b (by omega) (fun e => hni (by rw [e]; exact iq)) (by simp only; omega) (fun ho => hni (h3 b ho)), g3 b (fun e => hni (by rw [e]; exact im)), g2 b (fun e => hni (by rw [e]; exact iq)), g1 b hb]
    · rw [q4, h1.qc]
      intro e
      injection e with e; injection e with e
      injection e with _ e; injection e with _ e; injection e with _ e; injection e with e _; injection e with _ e
      omega
  obtain ⟨⟨r, W'⟩, h1, h2, ⟨g, h3, h3', h3''⟩, h4, h5⟩ := main
  simp only at h2 h3 h3' h3'' h4 h5
  subst h2
  have hql : q < W.next := by obtain ⟨⟨lv, bl, k1, -⟩, -⟩ := hW; exact k1.lt
  have hG : Gr W W' In := ⟨Nat.le_trans lV.next h3''.next, fun b hb hn => (h3''.get b (by omega) hn).trans (lV.get b hb)⟩
  rcases gc_two (W := W) (W' := W') (.tuple #[.int .i64 nx, .int .i64 0]) with hg | ⟨hg, hle⟩
  · exact ⟨W', g, by rw [heaps_Queueapi_HoEntry_Push_om h1, hg], h3, h3', hG⟩
  · exact absurd ((hle.get q hql).trans (lV.get q hql).symm) h4
end
end Go.Proofs.YtkpgmabebjmahaaGreat.Ho
/- What a queue of api.HoEntry holds. -/
namespace Go.Proofs.YtkpgmabebjmahaaGreat.Ho
open Go Go.Eng Go.Hp
set_option linter.unusedVariables false
set_option linter.unusedSimpArgs false
set_option linter.unusedSectionVars false
set_option maxRecDepth 100000
theorem QS.fresh {W : AW} {In : Nat → Prop} {q mh : Nat} {less : Value} {ls : Int × Int → Int × Int → Bool} {nx : Int} {n : Nat} {f : Nat → En} (h : QS W In q mh less ls nx n f) {i j : Nat} (hi : i < n) (hj : j < n) (e : (f i).h = (f j).h) : i = j := by
  obtain ⟨⟨lv, bl, h1, h2, h3⟩, ml, mq, me, iq, im, hp, ⟨m, m1, m2, m3⟩, hd, nx1⟩ := h
  have a1 := m2 i hi
  rw [e, m2 j hj] at a1
  injection a1 with a1
  injection a1 with a1; injection a1 with a1; injection a1 with a1
  exact h1.pile.inj i j hi hj a1.symm
def hv (e : En) : Int × (Int × Int) := (e.h, e.v)
end Go.Proofs.YtkpgmabebjmahaaGreat.Ho
/- A queue: find, Get, Set, Remove. -/
namespace Go.Proofs.YtkpgmabebjmahaaGreat
open Go Go.Eng Go.Hp
set_option linter.unusedVariables false
set_option linter.unusedSimpArgs false
set_option linter.unusedSectionVars false
set_option maxRecDepth 100000
section
variable {W : AW} {In : Nat → Prop} {q mh : Nat} {less : Value} {ls : Int → Int → Bool} {nx : Int} {n : Nat} {f : Nat → En}
theorem gc_same (v : Value) (W : AW) : gc W (v, W) = (v, W) := by
  rcases gc_two (W := W) (W' := W) v with h | ⟨h, -⟩ <;> exact h
end
end Go.Proofs.YtkpgmabebjmahaaGreat
/- A queue: find, Get, Set, Remove. -/
namespace Go.Proofs.YtkpgmabebjmahaaGreat.Ho
open Go Go.Eng Go.Hp
set_option linter.unusedVariables false
set_option linter.unusedSimpArgs false
set_option linter.unusedSectionVars false
set_option maxRecDepth 100000
theorem z127 : tZero Tryz.prog 106 = some (.pointer none) := by kernel_rfl
def upd (f : Nat → En) (i : Nat) (v : Int × Int) : Nat → En := fun j => if j = i then ⟨(f i).b, (f i).h, v⟩ else f j
theorem upd_b (f : Nat → En) (i : Nat) (v : Int × Int) (j : Nat) : (upd f i v j).b = (f j).b := by
  unfold upd
  split
  · rename_i h; rw [h]
  · rfl
theorem upd_h (f : Nat → En) (i : Nat) (v : Int × Int) (j : Nat) : (upd f i v j).h = (f j).h := by
  unfold upd
  split
  · rename_i h; rw [h]
  · rfl
theorem upd_i (f : Nat → En) (i : Nat) (v : Int × Int) : upd f i v i = ⟨(f i).b, (f i).h, v⟩ := if_pos rfl
theorem upd_ne (f : Nat → En) {i j : Nat} (v : Int × Int) (h : j ≠ i) : upd f i v j = f j := if_neg h
theorem enP_b {a b : En} (h : a.b = b.b) : enP a = enP b := by unfold enP; rw [h]
theorem rowE_b {n : Nat} {f g : Nat → En} (h : ∀ i, i < n → (f i).b = (g i).b) : rowE n f = rowE n g := by
  unfold rowE
  exact List.map_congr_left fun i hi => enP_b (h i (List.mem_range.1 hi))
section
variable {W : AW} {In : Nat → Prop} {q mh : Nat} {less : Value} {ls : Int × Int → Int × Int → Bool} {nx : Int} {n : Nat} {f : Nat → En}
theorem find_ok (h : QS W In q mh less ls nx n f) {i : Nat} (hi : i < n) : omS (.func (.func 58) #[] #[]) [qV q, .int .i64 (f i).h] W = some (.tuple #[enP (f i), .int .i64 0], W) := by
  have hm := made_ok h
  obtain ⟨⟨lv, bl, h1, h2, h3⟩, ml, mq, me, iq, im, hp, ⟨m, m1, m2, m3⟩, hd, nx1⟩ := h
  have g := mapV_get2 m1 u107 u2 z127 (f i).h
  rw [m2 i hi] at g
  have main : heaps_Queueapi_HoEntry_find omS (qV q) (.int .i64 (f i).h) W = some (.tuple #[enP (f i), .int .i64 0], W) := by
    unfold heaps_Queueapi_HoEntry_find
    simp only [SX, hm, oNilCheck_ptr, Nat.zero_add, h1.l2, g, Option.getD_some, Option.isSome_some]
  rw [heaps_Queueapi_HoEntry_find_om main, gc_same]
theorem boxed (W : AW) : ∃ V, oAlloc Tryz.prog 43 W = some (.pointer (some ⟨W.next, 0, none⟩), V) ∧ Le W V ∧ V.next = W.next + 1 ∧ V.get W.next = some (.cells [.int .i64 0, .int .i64 0]) := ⟨_, al43 W, (Le.refl _).add _, AW.add_next _ _, AW.get_add _ _⟩
theorem qGet_ok (h : QS W In q mh less ls nx n f) {i : Nat} (hi : i < n) : omS (.func (.func 53) #[] #[]) [qV q, .int .i64 (f i).h] W = some (.tuple #[hoV (f i).v, .int .i64 0], W) := by
  refine om_drop rfl ?_ heaps_Queueapi_HoEntry_Get_om
  unfold heaps_Queueapi_HoEntry_Get
  obtain ⟨V, a1, a2, a3, a4⟩ := boxed W
  have h1 : QS V In q mh less ls nx n f := h.keep a2.next (fun b hb _ => a2.get b hb) (fun b _ hi => hi)
  have hf := find_ok h1 hi
  obtain ⟨⟨lv, bl, k1, k2, k3⟩, -⟩ := h1
  have x2 : (V.put W.next (.cells [.int .i64 (f i).v.1, .int .i64 (f i).v.2])).get W.next = some (.cells [.int .i64 (f i).v.1, .int .i64 (f i).v.2]) := AW.get_put _ _ _
  simp only [SX, a1, hf, oNilCheck_ptr, Nat.zero_add, (k1.pile.cell hi).2, st43 _ a4, oRes_L1n, oL43, ld43 x2, Option.bind_some, Ok_some]
  exact ⟨trivial, a2.put (Nat.le_refl _) _⟩
/-- an entry's value is stored -/
theorem QP.upd {W : AW} {lv c2 c3 : Value} {bl : Option Nat} (h : QP W q lv less c2 c3 n f bl) {i : Nat} (hi : i < n) (v : Int × Int) :
    QP (W.put (f i).b (.cells (enC ⟨(f i).b, (f i).h, v⟩ i))) q lv less c2 c3 n (upd f i v) bl := by
  obtain ⟨hqc, hql, ⟨hsl, hen, hinj⟩, hbq, heq⟩ := h
  refine ⟨by rw [AW.get_put_ne _ _ (heq i hi)]; exact hqc, by rw [AW.put_next]; exact hql, ⟨?_, fun j hj => ?_, fun j k hj hk e => ?_⟩, hbq, fun j hj => by rw [upd_b]; exact heq j hj⟩
  · have hne := hsl.ne hi
    cases hsl with
    | nil h0 => exact .nil h0
    | row b junk h1 h2 h3 =>
      refine .row b junk ?_ (by rw [AW.put_next]; exact h2) fun j hj => by rw [upd_b]; exact h3 j hj
      rw [AW.get_put_ne _ _ (fun e => hne (by rw [e])), rowE_b (g := f) fun j _ => upd_b f i v j]
      exact h1
  · rw [AW.put_next, upd_b]
    refine ⟨?_, (hen j hj).2⟩
    by_cases hji : j = i
    · subst hji
      rw [upd_i]; exact AW.get_put _ _ _
    · rw [upd_ne f v hji, AW.get_put_ne _ _ (fun e => hji (hinj j i hj hi e.symm))]
      exact (hen j hj).1
  · rw [upd_b, upd_b] at e
    exact hinj j k hj hk e
theorem QP.back2 {W W' : AW} {lv c2 c3 : Value} {bl : Option Nat} (h : QP W' q lv less c2 c3 n f bl) (hle : Le W W') (hq : q < W.next) (ho : ∀ b, Own n f bl b → b < W.next) : QP W q lv less c2 c3 n f bl := by
  obtain ⟨hqc, hql, ⟨hsl, hen, hinj⟩, hbq, heq⟩ := h
  refine ⟨by rw [← hle.get q hq]; exact hqc, hq, ⟨?_, fun i hi => ?_, hinj⟩, hbq, heq⟩
  · cases hsl with
    | nil h0 => exact .nil h0
    | row b junk h1 h2 h3 =>
      have := ho b (.inl rfl)
      exact .row b junk (by rw [← hle.get b this]; exact h1) this h3
  · have := ho _ (.inr ⟨i, hi, rfl⟩)
    exact ⟨by rw [← hle.get _ this]; exact (hen i hi).1, this⟩
theorem qSet_ok (o : Ord (bef ls)) (hl : IsLess less ls) (h : QS W In q mh less ls nx n f) (hn : n ≤ 10000) {i : Nat} (hi : i < n) (v : Int × Int) :
    ∃ W' g, omS (.func (.func 40) #[] #[]) [qV q, .int .i64 (f i).h, hoV v] W = some (.int .i64 0, W') ∧ QS W' In q mh less ls nx n g ∧ (all n g).Perm (all n (upd f i v)) ∧ Gr W W' In := by
  generalize hV : W.add (.cells [.int .i64 v.1, .int .i64 v.2]) = V
  have lV : Le W V := by rw [← hV]; exact (Le.refl _).add _
  have nV : V.next = W.next + 1 := by rw [← hV, AW.add_next]
  have xV : V.get W.next = some (.cells [.int .i64 v.1, .int .i64 v.2]) := by rw [← hV]; exact AW.get_add _ _
  have oBh : oBox (hoV v) W = some (.pointer (some ⟨W.next, 0, none⟩), V) := by rw [← hV]; exact oBox_agg _
  have hW := h
  replace h : QS V In q mh less ls nx n f := h.keep lV.next (fun b hb _ => lV.get b hb) (fun b _ hi => hi)
  have hf := find_ok h hi
  have main : Ok (heaps_Queueapi_HoEntry_Set omS (qV q) (.int .i64 (f i).h) (hoV v) W) fun r => r.1 = .int .i64 0 ∧ ∃ g, QS r.2 In q mh less ls nx n g ∧ (all n g).Perm (all n (upd f i v)) ∧ Gr W r.2 In ∧ (Le W r.2 → QS W In q mh less ls nx n g) := by
    obtain ⟨⟨lw, bw, w1, w2, w3⟩, wm, -⟩ := hW
    obtain ⟨⟨lv, bl, h1, h2, h3⟩, ml, mq, me, iq, im, hp, ⟨m, m1, m2, m3⟩, hd, nx1⟩ := h
    have s1 : stV 2 (.pointer (some ⟨(f i).b, 1, none⟩)) (hoV v) V = some (undef, V.put (f i).b (.cells (enC ⟨(f i).b, (f i).h, v⟩ i))) := by
      rw [stV_agg, rwOf (h1.pile.en i hi).1, Option.bind_some, if_pos ⟨rfl, by simp, rfl⟩]
      rfl
    have q1 := h1.upd hi v
    generalize hW1 : V.put (f i).b (.cells (enC ⟨(f i).b, (f i).h, v⟩ i)) = W1 at s1 q1
    have hc : W1.get (f i).b = some (.cells (enC ⟨(f i).b, (f i).h, v⟩ i)) := by rw [← hW1]; exact AW.get_put _ _ _
    obtain ⟨W2, g, p1, p2, p3, p4, p5⟩ := hFix_ok o hl q1 (by omega) hi (hp.change o fun j _ hji => upd_ne f v hji)
    have hown : ∀ b, Own n (upd f i v) bl b → Own n f bl b := fun b hb => by
      rcases hb with hb | ⟨k, hk, rfl⟩
      · exact .inl hb
      · exact .inr ⟨k, hk, (upd_b f i v k).symm⟩
    have hmem : ∀ j, j < n → ∃ k, k < n ∧ (f k).b = (g j).b ∧ (f k).h = (g j).h := fun j hj => by
      obtain ⟨k, hk, e⟩ := all_mem.1 (p5.mem_iff.1 (all_mem.2 ⟨j, hj, rfl⟩))
      exact ⟨k, hk, by rw [← e, upd_b], by rw [← e, upd_h]⟩
    have hmo : ¬ Own n f bl mh := fun ho => by
      rcases ho with ho | ⟨i, hi, ho⟩
      · exact h2 ho
      · exact me i hi ho
    unfold heaps_Queueapi_HoEntry_Set
    simp only [SX, oBh, hf, ld43 xV, oNilCheck_ptr, Nat.zero_add, s1, ki103, ldR (o := 3) (rwOf hc) rfl, p1, Ok_some]
    have hget : ∀ b, ¬ Own n f bl b → W2.get b = V.get b := fun b hb => by
      rw [p3.get b fun x => hb (hown b x), ← hW1, AW.get_put_ne _ _ fun e => hb (.inr ⟨i, hi, e⟩)]
    have hnx : W2.next = V.next := by rw [p3.next, ← hW1, AW.put_next]
    have lvE : lw = lv ∧ bw = bl := by
      have x := h1.qc
      rw [lV.get q w1.lt, w1.qc] at x
      injection x with x; injection x with x; injection x with x _
      refine ⟨x, ?_⟩
      subst x
      have y := w1.pile.sl
      have z := h1.pile.sl
      cases z with
      | nil z0 => cases y; rfl
      | row b junk z1 z2 z3 => cases y; rfl
    obtain ⟨rfl, rfl⟩ := lvE
    have hown2 : ∀ b, Own n g bw b → Own n f bw b := fun b hb => by
      rcases hb with hb | ⟨j, hj, rfl⟩
      · exact .inl hb
      · obtain ⟨k, hk, e, -⟩ := hmem j hj
        exact .inr ⟨k, hk, e⟩
    have hlt : ∀ b, Own n f bw b → b < W.next := fun b hb => by
      rcases hb with hb | ⟨k, hk, rfl⟩
      · exact w1.pile.sl.lt hb
      · exact (w1.pile.en k hk).2
    have mkQS : ∀ U, QP U q lw less (.map (some mh)) (.int .i64 nx) n g bw → mh < U.next → MapV U mh m n → QS U In q mh less ls nx n g := fun U u1 u2 u3 => ?_
    · refine ⟨trivial, g, mkQS W2 p2 (by omega) (m1.keep (hget mh hmo)), p5, ⟨by omega, fun b hb hni => (hget b fun ho => hni (h3 b ho)).trans (lV.get b hb)⟩, fun hle => mkQS W (p2.back2 hle w1.lt fun b hb => hlt b (hown2 b hb)) wm ?_⟩
      exact (m1.keep (hget mh hmo)).keep (hle.get mh wm).symm
    refine ⟨⟨lw, bw, u1, h2, fun b hb => h3 b (hown2 b hb)⟩, u2, mq, fun j hj => ?_, iq, im, p4, ⟨m, u3, fun j hj => ?_, fun k v' hk => ?_⟩, fun j hj => ?_, nx1⟩
    · obtain ⟨k, hk, e, -⟩ := hmem j hj
      rw [← e]; exact me k hk
    · obtain ⟨k, hk, e1, e2⟩ := hmem j hj
      rw [← e2, m2 k hk, enP_b e1]
    · obtain ⟨j, hj, e1, e2⟩ := m3 k v' hk
      obtain ⟨k2, hk2, e3⟩ := all_mem.1 (p5.mem_iff.2 (all_mem.2 ⟨j, hj, rfl⟩))
      exact ⟨k2, hk2, by rw [e3, upd_h]; exact e1, by rw [e2]; exact (enP_b (by rw [e3, upd_b])).symm⟩
    · obtain ⟨k, hk, e1, e2⟩ := hmem j hj
      rw [← e2]; exact hd k hk
  obtain ⟨⟨r, W'⟩, h1, h2, g, h3, h4, h5, h6⟩ := main
  simp only at h2 h3 h4 h5 h6
  subst h2
  rcases gc_two (W := W) (W' := W') (.int .i64 0) with hg | ⟨hg, hle⟩
  · exact ⟨W', g, by rw [heaps_Queueapi_HoEntry_Set_om h1, hg], h3, h4, h5⟩
  · exact ⟨W, g, by rw [heaps_Queueapi_HoEntry_Set_om h1, hg], h6 hle, h4, .refl _ _⟩
theorem qRemove_ok (o : Ord (bef ls)) (hl : IsLess less ls) (h : QS W In q mh less ls nx (n + 1) f) (hn : n ≤ 10000) {i : Nat} (hi : i < n + 1) :
    ∃ W' g, omS (.func (.func 52) #[] #[]) [qV q, .int .i64 (f i).h] W = some (.tuple #[hoV (f i).v, .int .i64 0], W') ∧ QS W' In q mh less ls nx n g ∧ (f i :: all n g).Perm (all (n + 1) f) ∧ Gr W W' In := by
  obtain ⟨V, a1, lV, nV, xV⟩ := boxed W
  have hW := h
  replace h : QS V In q mh less ls nx (n + 1) f := h.keep lV.next (fun b hb _ => lV.get b hb) (fun b _ hi => hi)
  have hf := find_ok h hi
  have main : Ok (heaps_Queueapi_HoEntry_Remove omS (qV q) (.int .i64 (f i).h) W) fun r => r.1 = .tuple #[hoV (f i).v, .int .i64 0] ∧ (∃ g, QS r.2 In q mh less ls nx n g ∧ (f i :: all n g).Perm (all (n + 1) f) ∧ Gr W r.2 In) ∧ r.2.get q ≠ W.get q ∧ q < W.next := by
    obtain ⟨⟨lw, bw, w1, w2, w3⟩, wm, -⟩ := hW
    obtain ⟨⟨lv, bl, h1, h2, h3⟩, ml, mq, me, iq, im, hp, ⟨m, m1, m2, m3⟩, hd, nx1⟩ := h
    obtain ⟨W1, lv', g, p1, p2, p3, p4, ⟨pp, p0⟩, p5, p6⟩ := hRemove_ok o hl h1 hp hn hi
    have hmem : ∀ j, j < n → ∃ k, k < n + 1 ∧ f k = g j := fun j hj => all_mem.1 (p4.mem_iff.1 (List.mem_cons_of_mem _ (all_mem.2 ⟨j, hj, rfl⟩)))
    have hown : ∀ b, Own n g bl b → Own (n + 1) f bl b := fun b hb => by
      rcases hb with hb | ⟨i, hi, rfl⟩
      · exact .inl hb
      · obtain ⟨k, hk, e⟩ := hmem i hi
        exact .inr ⟨k, hk, by rw [e]⟩
    have hmo : ¬ Own (n + 1) f bl mh := fun ho => by
      rcases ho with ho | ⟨i, hi, ho⟩
      · exact h2 ho
      · exact me i hi ho
    have m1' := m1.keep (p6 mh mq hmo)
    obtain ⟨es, c, d1, d2⟩ := mapV_del m1' u107 u2 [2] (f i).h
    rw [m2 i hi] at d2
    simp only [Option.isSome_some, if_true, Nat.add_sub_cancel] at d2
    have dd : oBuiltin Tryz.prog .delete #[102, 2] 0 #[false, false] [.map (some mh), .int .i64 (f i).h] W1 = some (.tuple #[], W1.put mh (.map es c)) := by
      show (aDelete Tryz.prog W1 #[102, 2] (.map (some mh)) (.int .i64 (f i).h)).map _ = _
      have : (#[102, 2] : Array TypeId) = (102 :: [2]).toArray := rfl
      rw [this, d1]; rfl
    have p0' : (W1.put mh (.map es c)).get (f i).b = some (.cells [.int .i64 (f i).h, .int .i64 (f i).v.1, .int .i64 (f i).v.2, pp]) := by
      rw [AW.get_put_ne _ _ (fun e => me i hi e.symm)]; exact p0
    have hqn : W.next ≠ q := by have := w1.lt; omega
    have hmn : W.next ≠ mh := by omega
    have hwo : ¬ Own (n + 1) f bl W.next := fun ho => by
      rcases ho with ho | ⟨i, hi, ho⟩
      · have x := h1.qc
        rw [lV.get q w1.lt, w1.qc] at x
        injection x with x; injection x with x
        injection x with x _
        have y := w1.pile.sl
        rw [x] at y
        have z := h1.pile.sl
        rw [ho] at z
        cases z with
        | row b junk z1 z2 z3 =>
          cases y with
          | row b' junk' y1 y2 y3 => omega
      · have x := (w1.pile.en i hi).2
        omega
    have xW1 : W1.get W.next = some (.cells [.int .i64 0, .int .i64 0]) := (p6 _ hqn hwo).trans xV
    have xW2 : (W1.put mh (.map es c)).get W.next = some (.cells [.int .i64 0, .int .i64 0]) := by rw [AW.get_put_ne _ _ (Ne.symm hmn)]; exact xW1
    generalize hW2 : W1.put mh (.map es c) = W2 at d2 dd xW2 p0'
    have g2 : ∀ b, b ≠ mh → W2.get b = W1.get b := fun b hb => by rw [← hW2]; exact AW.get_put_ne _ _ (Ne.symm hb)
    have n2 : W2.next = W.next + 1 := by rw [← hW2, AW.put_next, p5, nV]
    have st := st43 (f i).v xW2
    have xW3 : (W2.put W.next (.cells [.int .i64 (f i).v.1, .int .i64 (f i).v.2])).get W.next = some (.cells [.int .i64 (f i).v.1, .int .i64 (f i).v.2]) := AW.get_put _ _ _
    generalize hW3 : W2.put W.next (.cells [.int .i64 (f i).v.1, .int .i64 (f i).v.2]) = W3 at st xW3
    have g3 : ∀ b, b ≠ W.next → W3.get b = W2.get b := fun b hb => by rw [← hW3]; exact AW.get_put_ne _ _ (Ne.symm hb)
    have n3 : W3.next = W.next + 1 := by rw [← hW3, AW.put_next, n2]
    have hbw : ∀ b, Own n g bl b → b ≠ W.next := fun b hb e => hwo (by rw [← e]; exact hown b hb)
    have ldp : ldA 2 (.pointer (some ⟨(f i).b, 1, none⟩)) W2 = some (hoV (f i).v, W2) := ldA_ok (rwCells_cellsAt (rwOf p0')) rfl
    unfold heaps_Queueapi_HoEntry_Remove
    simp only [SX, a1, hf, oNilCheck_ptr, Nat.zero_add, ki103, ldR (o := 3) (rwOf (h1.pile.en i hi).1) rfl, p1, p2.l2, dd, ldp, st, oRes_L1n, oL43, ld43 xW3, Option.bind_some, Ok_some]
    have q3 : QP W3 q lv' less (.map (some mh)) (.int .i64 nx) n g bl := p2.keep (by omega) fun b hb ho => by
      have e1 : b ≠ W.next := by
        rcases ho with rfl | ho
        · exact Ne.symm hqn
        · exact hbw b ho
      rw [g3 b e1, g2 b]
      intro e
      subst e
      rcases ho with ho | ho
      · exact mq ho
      · exact hmo (hown _ ho)
    refine ⟨trivial, ⟨g, ⟨⟨lv', bl, q3, h2, fun b hb => h3 b (hown b hb)⟩, by omega, mq, fun i hi => ?_, iq, im, p3, ⟨_, d2.keep (g3 mh (Ne.symm hmn)), fun j hj => ?_, fun k v hk => ?_⟩, fun i hi => ?_, nx1⟩, p4, by omega, fun b hb hi => ?_⟩, ?_, w1.lt⟩
    · obtain ⟨k, hk, e⟩ := hmem i hi
      rw [← e]; exact me k hk
    · have hne : ¬ (g j).h = (f i).h := fun e => by
        obtain ⟨k, hk, ek⟩ := hmem j hj
        have a1 := m2 k hk
        rw [ek, e, m2 i hi] at a1
        injection a1 with a1
        have a2 : (f i).b = (g j).b := by injection a1 with a1; injection a1 with a1; injection a1
        have hnd : ((f i).b :: (all n g).map (·.b)).Nodup := by
          have := (p4.map (·.b)).nodup_iff.2 ?_
          · exact this
          · unfold all
            rw [List.map_map, List.nodup_iff_pairwise_ne, List.pairwise_map]
            refine List.nodup_range.imp_of_mem fun {a b} ha hb hab e => hab (h1.pile.inj a b (List.mem_range.1 ha) (List.mem_range.1 hb) e)
        exact (List.nodup_cons.1 hnd).1 (List.mem_map.2 ⟨g j, all_mem.2 ⟨j, hj, rfl⟩, a2.symm⟩)
      obtain ⟨k, hk, ek⟩ := hmem j hj
      rw [if_neg hne, ← ek]
      exact m2 k hk
    · by_cases hk0 : k = (f i).h
      · rw [if_pos hk0] at hk; cases hk
      · rw [if_neg hk0] at hk
        obtain ⟨i', hi', e1, e2⟩ := m3 k v hk
        have := p4.mem_iff.2 (all_mem.2 ⟨i', hi', rfl⟩)
        rcases List.mem_cons.1 this with e | hm
        · rw [e] at e1; exact absurd e1.symm hk0
        · obtain ⟨j, hj, e⟩ := all_mem.1 hm
          exact ⟨j, hj, by rw [e]; exact e1, by rw [e]; exact e2⟩
    · obtain ⟨k, hk, e⟩ := hmem i hi
      rw [← e]; exact hd k hk
    · rw [g3 b (by omega), g2 b (fun e => hi (by rw [e]; exact im)), p6 b (fun e => hi (by rw [e]; exact iq)) fun ho => hi (h3 b ho)]
      exact lV.get b hb
    · rw [q3.qc, w1.qc]
      intro e
      injection e with e; injection e with e; injection e with e _
      exact SlAt.ne_succ w1.pile.sl p2.pile.sl e
  obtain ⟨⟨r, W'⟩, h1, h2, ⟨g, h3⟩, h4, h5⟩ := main
  simp only at h2 h3 h4 h5
  subst h2
  rcases gc_two (W := W) (W' := W') (.tuple #[hoV (f i).v, .int .i64 0]) with hg | ⟨hg, hle⟩
  · exact ⟨W', g, by rw [heaps_Queueapi_HoEntry_Remove_om h1, hg], h3⟩
  · exact absurd (hle.get q h5) h4
end
end Go.Proofs.YtkpgmabebjmahaaGreat.Ho
/- The law's orders, its queue, and what it has seen. -/
namespace Go.Proofs.YtkpgmabebjmahaaGreat
open Go Go.Eng Go.Hp
set_option linter.unusedVariables false
set_option linter.unusedSimpArgs false
set_option linter.unusedSectionVars false
set_option maxRecDepth 100000
def hv (e : En) : Int × Int := (e.h, e.v)
theorem lenI : ((#[97] : Array TypeId)[0]?).bind Tryz.prog.underlying = some (.slice 3) := by kernel_rfl
theorem s4 : tSz Tryz.prog 4 = some 1 := by kernel_rfl
theorem b4 : (Tryz.prog.info? 4).map (·.bytes) = some 1 := by kernel_rfl
end Go.Proofs.YtkpgmabebjmahaaGreat
/- A queue's entries, sorted. -/
namespace Go.Proofs.YtkpgmabebjmahaaGreat
open Go Go.Eng Go.Hp
set_option linter.unusedVariables false
set_option linter.unusedSimpArgs false
set_option linter.unusedSectionVars false
set_option maxRecDepth 100000
section
variable {P : Program} {W : AW}
end
end Go.Proofs.YtkpgmabebjmahaaGreat
/- A queue's entries, sorted. -/
namespace Go.Proofs.YtkpgmabebjmahaaGreat.Ho
open Go Go.Eng Go.Hp
set_option linter.unusedVariables false
set_option linter.unusedSimpArgs false
set_option linter.unusedSectionVars false
set_option maxRecDepth 100000
/-! ### the orders, without what sorts by them -/
def IsLess1 (less : Value) (ls : Int × Int → Int × Int → Bool) : Prop := ∀ a b W, om1 less [hoV a, hoV b] W = some (.bool (ls a b), W)
theorem IsLess1.up {less : Value} {ls : Int × Int → Int × Int → Bool} (h : IsLess1 less ls) : IsLess less ls := fun a b W => om1_le _ _ _ _ (h a b W)
theorem pBefore1_ok {V : AW} {q : Nat} {lv less : Value} {ls : Int × Int → Int × Int → Bool} {rq ra rb : List Value} (hl : IsLess1 less ls) {a b : En} (hq : cellsAt V q = some (lv :: less :: rq)) (ha : cellsAt V a.b = some (.int .i64 a.h :: .int .i64 a.v.1 :: .int .i64 a.v.2 :: ra)) (hb : cellsAt V b.b = some (.int .i64 b.h :: .int .i64 b.v.1 :: .int .i64 b.v.2 :: rb)) :
    om1 (.func (.func 65) #[] #[]) [.pointer (some ⟨q, 0, none⟩), enP a, enP b] V = some (.bool (bef ls a b), V) := by
  refine om_drop rfl ?_ heaps_pileapi_HoEntry_before_om1
  unfold heaps_pileapi_HoEntry_before bef
  have q1 : ldC (.pointer (some ⟨q, 1, none⟩)) V = some (less, V) := ldC_ok hq rfl
  have a1 : ldC (.pointer (some ⟨a.b, 0, none⟩)) V = some (.int .i64 a.h, V) := ldC_ok ha rfl
  have a2 : ldA 2 (.pointer (some ⟨a.b, 1, none⟩)) V = some (hoV a.v, V) := ldA_ok ha rfl
  have b1 : ldC (.pointer (some ⟨b.b, 0, none⟩)) V = some (.int .i64 b.h, V) := ldC_ok hb rfl
  have b2 : ldA 2 (.pointer (some ⟨b.b, 1, none⟩)) V = some (hoV b.v, V) := ldA_ok hb rfl
  simp only [SX, oNilCheck_ptr, Nat.zero_add, q1, a2, b2, hl a.v b.v]
  cases ls a.v b.v
  case true =>
    simp only [SX, Ok_some]
    exact ⟨by simp, .refl _⟩
  simp only [SX, oNilCheck_ptr, Nat.zero_add, q1, a2, b2, hl b.v a.v]
  cases ls b.v a.v
  case true =>
    simp only [SX, Ok_some]
    exact ⟨by simp, .refl _⟩
  simp only [SX, oNilCheck_ptr, Nat.zero_add, a1, b1, Ok_some]
  exact ⟨by simp, .refl _⟩
/-! ### the copy -/
theorem u104 : Tryz.prog.underlying 99 = some (.slice 106) := by kernel_rfl
theorem sNil (c d : Bool) (l k : Nat) (W : AW) : oBin Tryz.prog .eql 99 c d (.slice none l k) (.slice none 0 0) W = some (.bool true, W) := by
  unfold oBin aBin aEql; simp only [u104]; rfl
theorem sSome (c d : Bool) (a : Addr) (l k : Nat) (W : AW) : oBin Tryz.prog .eql 99 c d (.slice (some a) l k) (.slice none 0 0) W = some (.bool false, W) := by
  unfold oBin aBin aEql; simp only [u104]
theorem bs104_0 (W : AW) : oBuildSlice Tryz.prog 99 0 [] W = some (.slice (some ⟨W.next, 0, none⟩) 0 0, W.add (.cells [])) := Eq.trans (by kernel_rfl) rfl
section
variable {P : Program} {W : AW}
/-- append onto an empty literal -/
theorem app_lit0 {ts : Array TypeId} {z bytes : Nat} (hk : appOk P ts z bytes = true) {b o n c : Nat} {cs new : List Value} (hc : cellsAt W b = some cs) (hn : new = (cs.drop o).take (n * z)) (hl : new.length = n * z) (h0 : 0 < n) (h1 : new.all Eng.one = true)
    {a : Addr} (hb : n < 1099511627776) (hb2 : (2 * n + 192) * bytes ≤ 281474976710656) :
    aAppend P W ts (.slice (some a) 0 0) (.slice (some ⟨b, o, none⟩) n c) = some (.slice (some ⟨W.next, 0, none⟩) n (BIG + z), W.add (.cells new)) := by
  obtain ⟨t, e, zv, k1, k2, k3, k4, k5, k6⟩ := appOk_inv hk
  have hr : readN W b o (n * z) = some new := by rw [readN_def, hc]; simp only; rw [if_pos (by rw [← hn]; exact hl), hn]
  have hr1 : readSlice W (.slice (some ⟨b, o, none⟩) n c) (n * z) = some new := by
    unfold readSlice
    simp only
    rw [if_neg (by have := Nat.mul_pos h0 k5; omega), if_neg (by omega)]
    exact hr
  have hr2 : readSlice W (.slice (some a) 0 0) (0 * z) = some [] := by
    unfold readSlice
    simp
  have hB : 0 < BIG := by unfold BIG; omega
  have hB2 : ¬ 0 = BIG + z := by unfold BIG; omega
  unfold aAppend
  simp only [k1, k2, k3, k4, if_true, Nat.zero_add, if_pos (And.intro k5 (And.intro k6 (And.intro hb hb2))), if_neg (show ¬ n = 0 by omega), hr1, hr2, h1, if_neg hB2, if_pos hB, if_neg (show ¬ n ≤ 0 by omega), AW.new_eq, List.nil_append]
theorem app_none {ts : Array TypeId} {z bytes : Nat} (hk : appOk P ts z bytes = true) {a a2 : Option Addr} {l c c2 : Nat} (h : l ≤ c) (hb : l < 1099511627776) (hb2 : (2 * l + 192) * bytes ≤ 281474976710656) :
    aAppend P W ts (.slice a l c) (.slice a2 0 c2) = some (.slice a l c, W) := by
  obtain ⟨t, e, zv, k1, k2, k3, k4, k5, k6⟩ := appOk_inv hk
  unfold aAppend
  simp only [k1, k2, k3, k4, if_true, Nat.add_zero, if_pos (And.intro k5 (And.intro k6 (And.intro hb hb2))), if_pos h]
end
theorem rowE_one (n : Nat) (f : Nat → En) : (rowE n f).all Eng.one = true := by
  unfold rowE
  rw [List.all_map, List.all_eq_true]
  intro i _
  rfl
theorem clone_ok {W : AW} {n : Nat} {f : Nat → En} {lv : Value} {bl : Option Nat} (h : SlAt W n f lv bl) (hn : n ≤ 10000) :
    ∃ v W', omS (.func (.func 62) #[] #[]) [lv] W = some (v, W') ∧ Le W W' ∧ ((n = 0 ∧ ∃ a c, v = .slice a 0 c) ∨ (0 < n ∧ ∃ b, W.next ≤ b ∧ b < W'.next ∧ v = .slice (some ⟨b, 0, none⟩) n (BIG + 1) ∧ W'.get b = some (.cells (rowE n f)))) := by
  cases h with
  | nil h0 =>
    have main : slices_Cloneheaps_entryapi_HoEntryheaps_entryapi_HoEntry omS (.slice none 0 0) W = some (.slice none 0 0, W) := by
      unfold slices_Cloneheaps_entryapi_HoEntryheaps_entryapi_HoEntry
      simp only [SX, sNil]
    exact ⟨_, W, by rw [slices_Cloneheaps_entryapi_HoEntryheaps_entryapi_HoEntry_om main, gc_same], .refl _, .inl ⟨h0, _, _, rfl⟩⟩
  | row bl junk h1 h2 h3 =>
    have hc : cellsAt (W.add (.cells [])) bl = some (rowE n f ++ junk) := by rw [cellsAt_add _ h2]; exact cellsAt_of h1
    by_cases h0 : n = 0
    · subst h0
      have e := app_none (P := Tryz.prog) (W := W.add (.cells [])) (ts := #[99, 99]) ap104 (a := some ⟨W.next, 0, none⟩) (a2 := some ⟨bl, 0, none⟩) (l := 0) (c := 0) (c2 := BIG + 1) (by omega) (by omega) (by omega)
      have main : slices_Cloneheaps_entryapi_HoEntryheaps_entryapi_HoEntry omS (.slice (some ⟨bl, 0, none⟩) 0 (BIG + 1)) W = some (.slice (some ⟨W.next, 0, none⟩) 0 0, W.add (.cells [])) := by
        unfold slices_Cloneheaps_entryapi_HoEntryheaps_entryapi_HoEntry
        simp only [SX, sSome, bs104_0, e]
      refine ⟨_, W.add (.cells []), by rw [slices_Cloneheaps_entryapi_HoEntryheaps_entryapi_HoEntry_om main, gc_not rfl], (Le.refl _).add _, .inl ⟨rfl, _, _, rfl⟩⟩
    · have e := app_lit0 (P := Tryz.prog) (W := W.add (.cells [])) (ts := #[99, 99]) ap104 (b := bl) (o := 0) (n := n) (c := BIG + 1) (new := rowE n f) hc (by rw [List.drop_zero, Nat.mul_one, List.take_append_of_le_length (by rw [rowE_len]; omega), List.take_of_length_le (by rw [rowE_len]; omega)]) (by rw [rowE_len]; omega) (by omega) (rowE_one n f) (a := ⟨W.next, 0, none⟩) (by omega) (by omega)
      have main : slices_Cloneheaps_entryapi_HoEntryheaps_entryapi_HoEntry omS (.slice (some ⟨bl, 0, none⟩) n (BIG + 1)) W = some (.slice (some ⟨W.next + 1, 0, none⟩) n (BIG + 1), (W.add (.cells [])).add (.cells (rowE n f))) := by
        unfold slices_Cloneheaps_entryapi_HoEntryheaps_entryapi_HoEntry
        simp only [SX, sSome, bs104_0, e, AW.add_next]
      refine ⟨_, _, by rw [slices_Cloneheaps_entryapi_HoEntryheaps_entryapi_HoEntry_om main, gc_not rfl], ((Le.refl _).add _).add _, .inr ⟨by omega, W.next + 1, by omega, by simp only [AW.add_next]; omega, rfl, ?_⟩⟩
      have := (W.add (.cells [])).get_add (.cells (rowE n f))
      rw [AW.add_next] at this
      exact this
end Go.Proofs.YtkpgmabebjmahaaGreat.Ho
/- The order of ends, and whether a time has passed. -/
namespace Go.Proofs.YtkpgmabebjmahaaGreat.Ho
open Go Go.Eng Go.Hp
set_option linter.unusedVariables false
set_option linter.unusedSimpArgs false
set_option linter.unusedSectionVars false
set_option maxRecDepth 100000
def cmpI (a b : Int) : Int := if a < b then -1 else if b < a then 1 else 0
theorem nan64_ok (a : Int) (W : AW) : om1 (.func (.func 56) #[] #[]) [.int .i64 a] W = some (.bool false, W) := by
  refine om_drop rfl ?_ cmp_isNaNint64_om1
  unfold cmp_isNaNint64
  simp only [SX, decide_true, Bool.not_true, Ok_some]
  exact ⟨trivial, .refl _⟩
theorem nan_ok (a : Int) (W : AW) : om1 (.func (.func 44) #[] #[]) [.int .i64 a] W = some (.bool false, W) := by
  refine om_drop rfl ?_ cmp_isNaNint_om1
  unfold cmp_isNaNint
  simp only [SX, decide_true, Bool.not_true, Ok_some]
  exact ⟨trivial, .refl _⟩
theorem cmp64_ok (a b : Int) (W : AW) : om1 (.func (.func 35) #[] #[]) [.int .i64 a, .int .i64 b] W = some (.int .i64 (cmpI a b), W) := by
  refine om_drop rfl ?_ cmp_Compareint64_om1
  unfold cmp_Compareint64 cmpI
  by_cases h1 : a < b
  · simp only [SX, nan64_ok, h1, if_true, Ok_some]
    exact ⟨trivial, .refl _⟩
  · by_cases h2 : b < a
    · simp only [SX, nan64_ok, h1, h2, if_true, if_false, Ok_some]
      exact ⟨trivial, .refl _⟩
    · simp only [SX, nan64_ok, h1, h2, if_false, Ok_some]
      exact ⟨trivial, .refl _⟩
theorem cmp_ok (a b : Int) (W : AW) : om1 (.func (.func 19) #[] #[]) [.int .i64 a, .int .i64 b] W = some (.int .i64 (cmpI a b), W) := by
  refine om_drop rfl ?_ cmp_Compareint_om1
  unfold cmp_Compareint cmpI
  by_cases h1 : a < b
  · simp only [SX, nan_ok, h1, if_true, Ok_some]
    exact ⟨trivial, .refl _⟩
  · by_cases h2 : b < a
    · simp only [SX, nan_ok, h1, h2, if_true, if_false, Ok_some]
      exact ⟨trivial, .refl _⟩
    · simp only [SX, nan_ok, h1, h2, if_false, Ok_some]
      exact ⟨trivial, .refl _⟩
theorem or_ok {W : AW} {v : Value} {a b : Int} (h : Ints W v [a, b]) : om1 (.func (.func 34) #[] #[]) [v] W = some (.int .i64 (if a = 0 then b else a), W) := by
  refine om_drop rfl ?_ cmp_Orint_om1
  unfold cmp_Orint
  simp only [SX, h.len lenI]
  refine Ok_loop 2 (by omega) (fun k R W' => W' = W ∧ R 6 = v ∧ R 7 = .int .i64 2 ∧ R 8 = .int .i64 (k : Int) ∧ R 3 = .int .i64 0 ∧ (0 < k → a = 0) ∧ (1 < k → b = 0))
    (fun r => (r.1 = .exit 0 ∧ r.2.2 = W ∧ r.2.1 3 = .int .i64 0 ∧ a = 0 ∧ b = 0) ∨ (r.1 = .ret ∧ r.2.2 = W ∧ r.2.1 2 = .int .i64 (if a = 0 then b else a))) ⟨rfl, rfl, rfl, rfl, rfl, by omega, by omega⟩ ?_ ?_ ?_
  · rintro k R W' hk ⟨rfl, r6, r7, r8, r3, h0, h1⟩
    unfold cmp_Orint_L1
    obtain ⟨p, i1, i2⟩ := h.get (i := k) (by simpa using hk)
    have t1 : ((k : Int) < 2) := by omega
    have t2 := fun W' => oBin_add (P := Tryz.prog) (W := W') (t := 3) (c := false) (d := true) (a := (k : Int)) (b := 1) (by omega) (by omega)
    have e3 : ((k + 1 : Nat) : Int) = (k : Int) + 1 := by omega
    have hk2 : k = 0 ∨ k = 1 := by omega
    have hel : ([a, b] : List Int)[k]'(by simpa using hk) = if k = 0 then a else b := by
      rcases hk2 with rfl | rfl <;> rfl
    rw [hel] at i2
    by_cases hz : (if k = 0 then a else b) = 0
    · simp only [SX, r6, r7, r8, r3, t1, i1, i2 _ (.refl _), hz, t2, Ok_some]
      refine .inl ⟨trivial, trivial, r6, r7, by rw [e3]; rfl, r3, fun _ => ?_, fun _ => ?_⟩
      · rcases hk2 with rfl | rfl
        · simpa using hz
        · exact h0 (by omega)
      · have : k = 1 := by omega
        subst this
        simpa using hz
    · simp only [SX, r6, r7, r8, r3, t1, i1, i2 _ (.refl _), hz, Ok_some]
      refine .inr ⟨by simp, .inr ⟨trivial, trivial, ?_⟩⟩
      show Value.int .i64 (if k = 0 then a else b) = _
      rcases hk2 with rfl | rfl
      · have hz' : ¬ a = 0 := by simpa using hz
        rw [if_pos rfl, if_neg hz']
      · rw [if_neg (by omega), if_pos (h0 (by omega))]
  · rintro R W' ⟨rfl, r6, r7, r8, r3, h0, h1⟩
    unfold cmp_Orint_L1
    have t1 : ¬ (((2 : Nat) : Int) < 2) := by omega
    simp only [SX, r6, r7, r8, t1, decide_false, Ok_some]
    exact ⟨by simp, .inl ⟨trivial, trivial, r3, h0 (by omega), h1 (by omega)⟩⟩
  · rintro ⟨x, R, W'⟩ hq
    simp only at hq
    rcases hq with ⟨rfl, rfl, r3, rfl, rfl⟩ | ⟨rfl, rfl, r2⟩
    · simp only [SX, r3, Ok_some]
      exact ⟨by simp, .refl _⟩
    · simp only [SX, r2, Ok_some]
      exact ⟨trivial, .refl _⟩
/-- the order of ends: by deadlines, then by seats -/
def hoLs (a b : Int × Int) : Bool := decide (a.2 < b.2) || (decide (a.2 = b.2) && decide (a.1 < b.1))
theorem hoLs_ord : Ord (bef hoLs) := by
  refine ⟨fun a b h => ?_, fun a b c h1 h2 => ?_⟩
  · simp only [bef, hoLs, Bool.or_eq_true, Bool.and_eq_true, Bool.not_eq_true', decide_eq_true_eq, decide_eq_false_iff_not, Bool.or_eq_false_iff, Bool.and_eq_false_imp] at *
    omega
  · simp only [bef, hoLs, Bool.or_eq_true, Bool.and_eq_true, Bool.not_eq_true', decide_eq_true_eq, decide_eq_false_iff_not, Bool.or_eq_false_iff, Bool.and_eq_false_imp] at *
    omega
theorem bs22 (a b : Int) (W : AW) : oBuildSlice Tryz.prog 97 2 [(0, .int .i64 a), (1, .int .i64 b)] W = some (.slice (some ⟨W.next, 0, none⟩) 2 2, W.add (.cells [.int .i64 a, .int .i64 b])) := Eq.trans (by kernel_rfl) rfl
theorem hoLess1_ok : IsLess1 (.func (.func 33) #[] #[]) hoLs := fun a b W => by
  refine om_drop rfl ?_ holds_New_1_om1
  unfold holds_New_1
  have oB : ∀ (v : Int × Int) W, oBox (hoV v) W = some (.pointer (some ⟨W.next, 0, none⟩), W.add (.cells [.int .i64 v.1, .int .i64 v.2])) := fun v W => oBox_agg _
  generalize hW2 : (W.add (.cells [.int .i64 a.1, .int .i64 a.2])).add (.cells [.int .i64 b.1, .int .i64 b.2]) = W2
  have n1 : (W.add (.cells [.int .i64 a.1, .int .i64 a.2])).next = W.next + 1 := AW.add_next _ _
  have xa : W2.get W.next = some (.cells [.int .i64 a.1, .int .i64 a.2]) := by rw [← hW2, AW.get_add_ne _ _ (by rw [n1]; omega)]; exact AW.get_add _ _
  have xb : W2.get (W.next + 1) = some (.cells [.int .i64 b.1, .int .i64 b.2]) := by
    rw [← hW2]
    have := (W.add (.cells [.int .i64 a.1, .int .i64 a.2])).get_add (.cells [.int .i64 b.1, .int .i64 b.2])
    rwa [n1] at this
  have l2 : Le W W2 := by rw [← hW2]; exact ((Le.refl _).add _).add _
  have hI : ∀ x y : Int, Ints (W2.add (.cells [.int .i64 x, .int .i64 y])) (.slice (some ⟨W2.next, 0, none⟩) 2 2) [x, y] := fun x y => ints_new [x, y] 2 W2
  have ho := or_ok (hI (cmpI a.2 b.2) (cmpI a.1 b.1))
  simp only [SX, oB, n1, hW2, Nat.zero_add, ldR (o := 1) (rwOf xa) rfl, ldR (o := 1) (rwOf xb) rfl, ldR (o := 0) (rwOf xa) rfl, ldR (o := 0) (rwOf xb) rfl, cmp64_ok, agV_some, vsame_int, Bool.and_self, cmp_ok, bs22, ho, Ok_some]
  refine ⟨?_, l2.add _⟩
  congr 1
  unfold hoLs cmpI
  rw [Bool.eq_iff_iff]
  simp only [decide_eq_true_eq, Bool.or_eq_true, Bool.and_eq_true]
  repeat' split
  all_goals omega
theorem hoLess_ok : IsLess (.func (.func 33) #[] #[]) hoLs := hoLess1_ok.up
/-! ### whether a time has passed -/
theorem len34 : ((#[139] : Array TypeId)[0]?).bind Tryz.prog.underlying = some (.slice 2) := by kernel_rfl
theorem bs34 (a b : Int) (W : AW) : oBuildSlice Tryz.prog 139 2 [(0, .int .i64 a), (1, .int .i64 b)] W = some (.slice (some ⟨W.next, 0, none⟩) 2 2, W.add (.cells [.int .i64 a, .int .i64 b])) := Eq.trans (by kernel_rfl) rfl
theorem min_ok (a b : Int) (W : AW) : oBuiltin Tryz.prog .min #[2, 2] 2 #[false, false] [.int .i64 a, .int .i64 b] W = some (.int .i64 (min a b), W) := by
  have e : oBuiltin Tryz.prog .min #[2, 2] 2 #[false, false] [.int .i64 a, .int .i64 b] W = (pureS Tryz.prog ([Value.int .i64 a, .int .i64 b].all plain) (builtin .min #[2, 2] 2 #[false, false] #[.int .i64 a, .int .i64 b])).map fun v => (v, W) := by
    unfold oBuiltin
    rfl
  rw [e]
  have e2 : builtin .min #[2, 2] 2 #[false, false] #[.int .i64 a, .int .i64 b] = (do pure (.value (← Builtin.min_ #[2, 2] 2 #[.int .i64 a, .int .i64 b]))) := rfl
  rw [e2]
  refine pureV ?_ rfl _ rfl
  unfold Builtin.min_
  simp only [List.foldlM_cons, List.foldlM_nil, pureRun_bind, Builtin.min2, pureRun_pure, Option.bind_some]
  congr 2
  split <;> omega
theorem mins_ok {W : AW} {v : Value} {a b : Int} (h : Ints W v [a, b]) : omS (.func (.func 80) #[] #[]) [v] W = some (.int .i64 (min a b), W) := by
  refine om_drop rfl ?_ slices_Minint64int64_om
  unfold slices_Minint64int64
  obtain ⟨p0, i1, i2⟩ := h.get (i := 0) (by simp)
  have i1' : ∀ W' k, ixS 1 v (.int k 0) W' = some (p0, W') := i1
  have i2' : ∀ W', Le W W' → ldC p0 W' = some (.int .i64 a, W') := i2
  obtain ⟨p1, j1, j2⟩ := h.get (i := 1) (by simp)
  have j1' : ∀ W' k, ixS 1 v (.int k 1) W' = some (p1, W') := j1
  have j2' : ∀ W', Le W W' → ldC p1 W' = some (.int .i64 b, W') := j2
  have t0 : ¬ ((([a, b] : List Int).length : Int) < 1) := by simp
  have tl : (([a, b] : List Int).length : Int) = 2 := by simp
  simp only [SX, h.len len34, t0, decide_false, i1', i2' _ (.refl _)]
  refine Ok_loop 1 (by omega) (fun k R W' => W' = W ∧ R 0 = v ∧ R 4 = .int .i64 (1 + (k : Int)) ∧ R 3 = .int .i64 (if k = 0 then a else min a b))
    (fun r => r.1 = .exit 0 ∧ r.2.2 = W ∧ r.2.1 3 = .int .i64 (min a b)) ⟨rfl, rfl, rfl, rfl⟩ ?_ ?_ ?_
  · rintro k R W' hk ⟨rfl, r0, r4, r3⟩
    obtain rfl : k = 0 := by omega
    unfold slices_Minint64int64_L2
    have r4' : R 4 = .int .i64 1 := r4
    have r3' : R 3 = .int .i64 a := r3
    have t1 : ((1 : Int) < 2) := by omega
    have t2 := fun W' => oBin_add (P := Tryz.prog) (W := W') (t := 3) (c := false) (d := true) (a := 1) (b := 1) (by omega) (by omega)
    simp only [SX, r0, r4', r3', h.len len34, tl, t1, j1', j2' _ (.refl _), min_ok, t2, Ok_some]
    exact .inl ⟨trivial, trivial, r0, rfl, rfl⟩
  · rintro R W' ⟨rfl, r0, r4, r3⟩
    unfold slices_Minint64int64_L2
    have t1 : ¬ (1 + ((1 : Nat) : Int) < 2) := by omega
    simp only [SX, r0, r4, h.len len34, tl, t1, decide_false, Ok_some]
    exact ⟨by simp, trivial, trivial, r3⟩
  · rintro ⟨x, R, W'⟩ ⟨hx, rfl, r3⟩
    simp only at hx r3
    subst hx
    simp only [SX, r3, Ok_some]
    exact ⟨trivial, .refl _⟩
theorem tnone_ok {W : AW} {v : Value} {a b : Int} (h : Ints W v [a, b]) : omS (.func (.func 60) #[] #[]) [v] W = some (.bool (decide (min a b < 0)), W) := by
  refine om_drop rfl ?_ times_none_om
  unfold times_none
  simp only [SX, mins_ok h, Ok_some]
  exact ⟨trivial, .refl _⟩
theorem passed_ok {a b : Int} (ha : 0 ≤ a) (hb : 0 ≤ b) (W : AW) : omS (.func (.func 41) #[] #[]) [.int .i64 a, .int .i64 b] W = some (.tuple #[.bool (decide (a ≤ b)), .int .i64 0], W) := by
  refine om_drop rfl ?_ times_Passed_om
  unfold times_Passed
  have hI : Ints (W.add (.cells [.int .i64 a, .int .i64 b])) (.slice (some ⟨W.next, 0, none⟩) 2 2) [a, b] := ints_new [a, b] 2 W
  have hm := tnone_ok hI
  rw [decide_eq_false (show ¬ min a b < 0 by omega)] at hm
  simp only [SX, bs34, hm, Ok_some]
  exact ⟨trivial, (Le.refl _).add _⟩
end Go.Proofs.YtkpgmabebjmahaaGreat.Ho
/- Holds: New, find, Put, Next, Len. -/
namespace Go.Proofs.YtkpgmabebjmahaaGreat.Ho
open Go Go.Eng Go.Hp
set_option linter.unusedVariables false
set_option linter.unusedSimpArgs false
set_option linter.unusedSectionVars false
set_option maxRecDepth 100000
theorem u35 : Tryz.prog.underlying 25 = some (.pointer 59) := by kernel_rfl
theorem pEq35 (a : Addr) (c d : Bool) (W : AW) : oBin Tryz.prog .eql 25 c d (.pointer (some a)) (.pointer none) W = some (.bool false, W) := by
  unfold oBin aBin aEql; simp only [u35]
theorem u116 : Tryz.prog.underlying 57 = some (.map 3 2) := by kernel_rfl
theorem u3 : Tryz.prog.underlying 3 = some (.int .i64) := by kernel_rfl
theorem z2 : tZero Tryz.prog 2 = some (.int .i64 0) := by kernel_rfl
theorem mk116 (W : AW) : oMkMap Tryz.prog 57 none W = some (.map (some W.next), W.add (.map [] 0)) := rfl
theorem bd118 (s : Int) (q m : Nat) (W : AW) : oBuild Tryz.prog 59 [(0, .int .i64 s), (1, qV q), (2, .map (some m))] W = some (.agg #[.int .i64 s, qV q, .map (some m)], W) := Eq.trans (by kernel_rfl) rfl
theorem bd43 (s d : Int) (W : AW) : oBuild Tryz.prog 43 [(0, .int .i64 s), (1, .int .i64 d)] W = some (hoV (s, d), W) := Eq.trans (by kernel_rfl) rfl
abbrev hF : Value := .func (.func 33) #[] #[]
/-- the holds that are in force -/
structure HS (W : AW) (In : Nat → Prop) (H q mh hm : Nat) (seats : Int) (nx : Int) (n : Nat) (f : Nat → En) : Prop where
  hc : W.get H = some (.cells [.int .i64 seats, qV q, .map (some hm)])
  hl : H < W.next
  ml : hm < W.next
  ne : H ≠ hm
  iH : In H
  iM : In hm
  qs : QS W (fun b => In b ∧ b ≠ H ∧ b ≠ hm) q mh hF hoLs nx n f
  mp : ∃ m, MapV W hm m n ∧ (∀ i, i < n → m (f i).v.1 = some (.int .i64 (f i).h)) ∧ ∀ k v, m k = some v → ∃ i, i < n ∧ (f i).v.1 = k ∧ v = .int .i64 (f i).h
  ok : ∀ i, i < n → 0 ≤ (f i).v.1 ∧ (f i).v.1 < seats ∧ 0 ≤ (f i).v.2
  sz : 1 ≤ seats ∧ seats ≤ 4096
abbrev hP (H : Nat) : Value := .pointer (some ⟨H, 0, none⟩)
/-- the entries of a queue -/
def ents (n : Nat) (f : Nat → En) : List (Int × Int) := (all n f).map (·.v)
theorem ents_mem {n : Nat} {f : Nat → En} {x : Int × Int} : x ∈ ents n f ↔ ∃ i, i < n ∧ (f i).v = x := by
  unfold ents
  constructor
  · intro h
    obtain ⟨e, he, rfl⟩ := List.mem_map.1 h
    obtain ⟨i, hi, rfl⟩ := all_mem.1 he
    exact ⟨i, hi, rfl⟩
  · rintro ⟨i, hi, rfl⟩
    exact List.mem_map.2 ⟨f i, all_mem.2 ⟨i, hi, rfl⟩, rfl⟩
theorem ents_len (n : Nat) (f : Nat → En) : (ents n f).length = n := by unfold ents; rw [List.length_map, all_len]
theorem QS.grown {W W' : AW} {In In' : Nat → Prop} {q mh mh' : Nat} {less less' : Value} {ls ls' : Int × Int → Int × Int → Bool} {nx nx' : Int} {n : Nat} {f g : Nat → En} (h : QS W In q mh less ls nx n f) (h' : QS W' In' q mh' less' ls' nx' (n + 1) g) : W'.get q ≠ W.get q := by
  obtain ⟨⟨lv, bl, k1, -⟩, -⟩ := h
  obtain ⟨⟨lv', bl', k1', -⟩, -⟩ := h'
  rw [k1.qc, k1'.qc]
  intro e
  injection e with e; injection e with e; injection e with e _
  exact SlAt.ne_succ k1'.pile.sl k1.pile.sl e.symm
section
variable {W : AW} {In : Nat → Prop} {H q mh hm : Nat} {seats nx : Int} {n : Nat} {f : Nat → En}
theorem HS.keep {W' : AW} {In' : Nat → Prop} (h : HS W In H q mh hm seats nx n f) (hn : W.next ≤ W'.next) (hg : ∀ b, b < W.next → In b → W'.get b = W.get b) (hi : ∀ b, b < W.next → In b → In' b) : HS W' In' H q mh hm seats nx n f := by
  obtain ⟨hc, hl, ml, ne, iH, iM, qs, ⟨m, m1, m2⟩, ok, sz⟩ := h
  exact ⟨(hg H hl iH).trans hc, by omega, by omega, ne, hi H hl iH, hi hm ml iM, qs.keep hn (fun b hb x => hg b hb x.1) fun b hb x => ⟨hi b hb x.1, x.2⟩, ⟨m, m1.keep (hg hm ml iM), m2⟩, ok, sz⟩
theorem HS.l0 (h : HS W In H q mh hm seats nx n f) : ldC (.pointer (some ⟨H, 0, none⟩)) W = some (.int .i64 seats, W) := ldR (rwOf h.hc) rfl
theorem HS.l1 (h : HS W In H q mh hm seats nx n f) : ldC (.pointer (some ⟨H, 1, none⟩)) W = some (qV q, W) := ldR (rwOf h.hc) rfl
theorem HS.l2 (h : HS W In H q mh hm seats nx n f) : ldC (.pointer (some ⟨H, 2, none⟩)) W = some (.map (some hm), W) := ldR (rwOf h.hc) rfl
/-- one entry a seat -/
theorem HS.seat (h : HS W In H q mh hm seats nx n f) {i j : Nat} (hi : i < n) (hj : j < n) (e : (f i).v.1 = (f j).v.1) : i = j := by
  obtain ⟨m, m1, m2, m3⟩ := h.mp
  have a := m2 i hi
  rw [e, m2 j hj] at a
  injection a with a; injection a with _ a
  exact h.qs.fresh hi hj a.symm
theorem new7_ok {s : Int} (hs : ¬ (1 ≤ s ∧ s ≤ 4096)) (W : AW) : omS (.func (.func 10) #[] #[]) [.int .i64 s] W = some (.tuple #[.pointer none, .int .i64 7], W) := by
  have main : holds_New omS (.int .i64 s) W = some (.tuple #[.pointer none, .int .i64 7], W) := by
    unfold holds_New
    by_cases h : s < 1
    · simp only [SX, decide_eq_true h]
    · have h2 : 4096 < s := by omega
      simp only [SX, decide_eq_false h, decide_eq_true h2]
  rw [holds_New_om main, gc_same]
theorem hNew_ok {s : Int} (hs : 1 ≤ s ∧ s ≤ 4096) (hi : ∀ b, W.next ≤ b → In b) : ∃ W' H q mh hm g, omS (.func (.func 10) #[] #[]) [.int .i64 s] W = some (.tuple #[hP H, .int .i64 0], W') ∧ HS W' In H q mh hm s 1 0 g ∧ Gr W W' In := by
  obtain ⟨W1, q, mh, e1, e2, e3⟩ := new_ok (In := fun b => W.next ≤ b) (W := W) (fun b hb => hb) 33 hoLs (fun _ => ⟨0, 0, (0, 0)⟩)
  have n1 := e3.next
  generalize hW2 : W1.add (.map [] 0) = W2
  have n2 : W2.next = W1.next + 1 := by rw [← hW2, AW.add_next]
  have m2 : MapV W2 W1.next (fun _ => none) 0 := by rw [← hW2]; exact mapV_new
  have oB : oBox (.agg #[.int .i64 s, qV q, .map (some W1.next)]) W2 = some (.pointer (some ⟨W2.next, 0, none⟩), W2.add (.cells [.int .i64 s, qV q, .map (some W1.next)])) := oBox_agg _
  have t1 : ¬ s < 1 := by omega
  have t2 : ¬ 4096 < s := by omega
  have main : holds_New omS (.int .i64 s) W = some (.tuple #[hP W2.next, .int .i64 0], W2.add (.cells [.int .i64 s, qV q, .map (some W1.next)])) := by
    unfold holds_New
    simp only [SX, t1, t2, decide_false, e1, mk116, hW2, bd118, oB]
  have g3 : ∀ b, b < W1.next → (W2.add (.cells [.int .i64 s, qV q, .map (some W1.next)])).get b = W1.get b := fun b hb => by rw [AW.get_add_ne _ _ (by omega), ← hW2, AW.get_add_ne _ _ (by omega)]
  refine ⟨_, W2.next, q, mh, W1.next, fun _ => ⟨0, 0, (0, 0)⟩, by rw [holds_New_om main, gc_not rfl], ⟨AW.get_add _ _, by rw [AW.add_next]; omega, by rw [AW.add_next]; omega, by omega, hi _ (by omega), hi _ (by omega), e2.keep (by rw [AW.add_next]; omega) (fun b hb _ => g3 b hb) fun b hb h => ⟨hi b h, by omega, by omega⟩, ⟨_, m2.keep (AW.get_add_ne _ _ (by omega)), fun i hi => by omega, fun k v hk => by cases hk⟩, fun i hi => by omega, hs⟩, by rw [AW.add_next]; omega, fun b hb _ => ?_⟩
  rw [g3 b (by omega)]
  exact e3.get b hb (by omega)
/-- no such seat, or no time -/
def hbad (seats s t : Int) : Bool := decide (s < 0) || decide (seats ≤ s) || decide (t < 0)
theorem bad_ok (h : HS W In H q mh hm seats nx n f) (s t : Int) : omS (.func (.func 16) #[] #[]) [hP H, .int .i64 s, .int .i64 t] W = some (.bool (hbad seats s t), W) := by
  refine om_drop rfl ?_ holds_Holds_bad_om
  unfold holds_Holds_bad hbad
  by_cases h1 : s < 0
  · simp only [SX, h1, decide_true, Bool.true_or, Ok_some]
    exact ⟨trivial, .refl _⟩
  · by_cases h2 : seats ≤ s
    · simp only [SX, h1, h2, oNilCheck_ptr, Nat.zero_add, h.l0, decide_true, decide_false, Bool.false_or, Bool.true_or, Ok_some]
      exact ⟨trivial, .refl _⟩
    · simp only [SX, h1, h2, oNilCheck_ptr, Nat.zero_add, h.l0, decide_false, Bool.false_or, Ok_some]
      exact ⟨trivial, .refl _⟩
theorem find7_ok (h : HS W In H q mh hm seats nx n f) {s t : Int} (hb : hbad seats s t = true) : omS (.func (.func 37) #[] #[]) [hP H, .int .i64 s, .int .i64 t] W = some (.tuple #[.int .i64 0, .int .i64 7], W) := by
  refine om_drop rfl ?_ holds_Holds_find_om
  unfold holds_Holds_find
  have e0 : ¬ seats = 0 := by have := h.sz; omega
  simp only [SX, pEq35, oNilCheck_ptr, Nat.zero_add, h.l0, e0, decide_false, bad_ok h, hb, Ok_some]
  exact ⟨trivial, .refl _⟩
theorem find4_ok (h : HS W In H q mh hm seats nx n f) {s t : Int} (hb : hbad seats s t = false) (hs : ∀ i, i < n → (f i).v.1 ≠ s) : omS (.func (.func 37) #[] #[]) [hP H, .int .i64 s, .int .i64 t] W = some (.tuple #[.int .i64 0, .int .i64 4], W) := by
  refine om_drop rfl ?_ holds_Holds_find_om
  unfold holds_Holds_find
  have e0 : ¬ seats = 0 := by have := h.sz; omega
  obtain ⟨m, m1, m2, m3⟩ := h.mp
  have hn : m s = none := by
    cases hx : m s with
    | none => rfl
    | some v => obtain ⟨i, hi, e, -⟩ := m3 s v hx; exact absurd e (hs i hi)
  have g := mapV_get2 m1 u116 u3 z2 s
  rw [hn] at g
  simp only [SX, pEq35, oNilCheck_ptr, Nat.zero_add, h.l0, e0, decide_false, bad_ok h, hb, h.l2, g, Option.getD_none, Option.isSome_none, Ok_some]
  exact ⟨trivial, .refl _⟩
theorem hfind_ok (h : HS W In H q mh hm seats nx n f) {i : Nat} (hi : i < n) {t : Int} (hb : hbad seats (f i).v.1 t = false) : omS (.func (.func 37) #[] #[]) [hP H, .int .i64 (f i).v.1, .int .i64 t] W = some (.tuple #[.int .i64 (f i).h, .int .i64 0], W) := by
  refine om_drop rfl ?_ holds_Holds_find_om
  unfold holds_Holds_find
  have e0 : ¬ seats = 0 := by have := h.sz; omega
  obtain ⟨m, m1, m2, m3⟩ := h.mp
  have g := mapV_get2 m1 u116 u3 z2 (f i).v.1
  rw [m2 i hi] at g
  simp only [SX, pEq35, oNilCheck_ptr, Nat.zero_add, h.l0, e0, decide_false, bad_ok h, hb, h.l2, g, Option.getD_some, Option.isSome_some, Ok_some]
  exact ⟨trivial, .refl _⟩
theorem put7_ok (h : HS W In H q mh hm seats nx n f) {s t : Int} (hb : hbad seats s t = true) : omS (.func (.func 11) #[] #[]) [hP H, .int .i64 s, .int .i64 t] W = some (.int .i64 7, W) := by
  refine om_drop rfl ?_ holds_Holds_Put_om
  unfold holds_Holds_Put
  have e0 : ¬ (7 : Int) = 0 := by omega
  have e1 : ¬ (7 : Int) = 4 := by omega
  simp only [SX, find7_ok h hb, e0, e1, decide_false, Ok_some]
  exact ⟨trivial, .refl _⟩
theorem put8_ok (h : HS W In H q mh hm seats nx n f) {i : Nat} (hi : i < n) {t : Int} (hb : hbad seats (f i).v.1 t = false) : omS (.func (.func 11) #[] #[]) [hP H, .int .i64 (f i).v.1, .int .i64 t] W = some (.int .i64 8, W) := by
  refine om_drop rfl ?_ holds_Holds_Put_om
  unfold holds_Holds_Put
  simp only [SX, hfind_ok h hi hb, Ok_some]
  exact ⟨trivial, .refl _⟩
theorem hPut_ok (h : HS W In H q mh hm seats nx n f) {s t : Int} (hb : hbad seats s t = false) (hs : ∀ i, i < n → (f i).v.1 ≠ s) (hn : n < 5000) (hnx : nx < 1000000000000000) (hi : ∀ b, W.next ≤ b → In b) :
    ∃ W' g, omS (.func (.func 11) #[] #[]) [hP H, .int .i64 s, .int .i64 t] W = some (.int .i64 0, W') ∧ HS W' In H q mh hm seats (nx + 1) (n + 1) g ∧ (ents (n + 1) g).Perm ((s, t) :: ents n f) ∧ Gr W W' In := by
  have main : Ok (holds_Holds_Put omS (hP H) (.int .i64 s) (.int .i64 t) W) fun r => r.1 = .int .i64 0 ∧ (∃ g, HS r.2 In H q mh hm seats (nx + 1) (n + 1) g ∧ (ents (n + 1) g).Perm ((s, t) :: ents n f) ∧ Gr W r.2 In) := by
    have hW := h
    obtain ⟨hc, hl, ml, ne, iH, iM, qs, ⟨m, m1, m2, m3⟩, ok, sz⟩ := h
    obtain ⟨W1, g, p1, p2, p3, p4⟩ := qPush_ok hoLs_ord hoLess_ok qs hn hnx (fun b hb => ⟨hi b hb, by omega, by omega⟩) (s, t)
    have n1 := p4.next
    have hc1 : W1.get H = some (.cells [.int .i64 seats, qV q, .map (some hm)]) := (p4.get H hl (by simp)).trans hc
    have m1' : MapV W1 hm m n := m1.keep (p4.get hm ml (by simp))
    obtain ⟨es, c, d1, d2⟩ := mapV_set m1' u116 u3 s (.int .i64 nx)
    have hmn : m s = none := by
      cases hx : m s with
      | none => rfl
      | some v => obtain ⟨i, hi, e, -⟩ := m3 s v hx; exact absurd e (hs i hi)
    rw [hmn] at d2
    simp only [Option.isSome_none, Bool.false_eq_true, if_false] at d2
    generalize hW2 : W1.put hm (.map es c) = W2 at d1 d2
    have g2 : ∀ b, b ≠ hm → W2.get b = W1.get b := fun b hb => by rw [← hW2]; exact AW.get_put_ne _ _ (Ne.symm hb)
    have n2 : W2.next = W1.next := by rw [← hW2, AW.put_next]
    have hmem : ∀ i, i < n + 1 → g i = ⟨W.next + 1, nx, (s, t)⟩ ∨ ∃ k, k < n ∧ f k = g i := fun i hi => by
      rcases List.mem_cons.1 (p3.mem_iff.1 (all_mem.2 ⟨i, hi, rfl⟩)) with e | e
      · exact .inl e
      · exact .inr (all_mem.1 e)
    have hbb : 0 ≤ s ∧ s < seats ∧ 0 ≤ t := by
      unfold hbad at hb
      simp only [Bool.or_eq_false_iff, decide_eq_false_iff_not] at hb
      omega
    unfold holds_Holds_Put
    have e0 : ¬ (4 : Int) = 0 := by omega
    simp only [SX, find4_ok hW hb hs, e0, decide_false, oNilCheck_ptr, Nat.zero_add, hW.l1, bd43, p1, ldR (o := 2) (rwOf hc1) rfl, d1, Ok_some]
    refine ⟨trivial, g, ⟨(g2 H ne).trans hc1, by omega, by omega, ne, iH, iM, p2.keep (by omega) (fun b hb hx => g2 b hx.2.2) fun b _ hx => hx, ⟨_, d2, fun i hi' => ?_, fun k v hk => ?_⟩, fun i hi' => ?_, sz⟩, ?_, by omega, fun b hb' hni => ?_⟩
    · rcases hmem i hi' with e | ⟨k, hk, e⟩
      · rw [e, if_pos rfl]
      · rw [← e, if_neg (hs k hk)]
        exact m2 k hk
    · by_cases hk0 : k = s
      · rw [if_pos hk0] at hk
        injection hk with hk
        obtain ⟨j, hj, ej⟩ := all_mem.1 (p3.mem_iff.2 (List.mem_cons_self ..))
        exact ⟨j, hj, by rw [ej, hk0], by rw [ej, ← hk]⟩
      · rw [if_neg hk0] at hk
        obtain ⟨i, hi', x1, x2⟩ := m3 k v hk
        obtain ⟨i2, hi2, x3⟩ := all_mem.1 (p3.mem_iff.2 (List.mem_cons_of_mem _ (all_mem.2 ⟨i, hi', rfl⟩)))
        exact ⟨i2, hi2, by rw [x3]; exact x1, by rw [x3]; exact x2⟩
    · rcases hmem i hi' with e | ⟨k, hk, e⟩
      · rw [e]; exact hbb
      · rw [← e]; exact ok k hk
    · exact p3.map (·.v)
    · rw [g2 b (fun e => hni (by rw [e]; exact iM))]
      exact p4.get b hb' fun x => hni x.1
  obtain ⟨⟨r, W'⟩, h1, h2, g, h3, h4, h5⟩ := main
  simp only at h2 h3 h4 h5
  subst h2
  rcases gc_two (W := W) (W' := W') (.int .i64 0) with hg | ⟨hg, hle⟩
  · exact ⟨W', g, by rw [holds_Holds_Put_om h1, hg], h3, h4, h5⟩
  · have hql : q < W.next := by obtain ⟨⟨lv, bl, k1, -⟩, -⟩ := h.qs; exact k1.lt
    exact absurd (hle.get q hql) (QS.grown h.qs h3.qs)
theorem hLen_ok (h : HS W In H q mh hm seats nx n f) : omS (.func (.func 15) #[] #[]) [hP H] W = some (.int .i64 (n : Int), W) := by
  refine om_drop rfl ?_ holds_Holds_Len_om
  unfold holds_Holds_Len
  have e0 : ¬ seats = 0 := by have := h.sz; omega
  simp only [SX, pEq35, oNilCheck_ptr, Nat.zero_add, h.l0, e0, decide_false, h.l1, qLen_ok h.qs, Ok_some]
  exact ⟨trivial, .refl _⟩
/-- what Next answers -/
def nextE (n : Nat) (f : Nat → En) : Int × Int := if n = 0 then (0, 0) else (f 0).v
theorem peekE_ok (h : HS W In H q mh hm seats nx n f) : ∃ k : Int, omS (.func (.func 39) #[] #[]) [qV q] W = some (.tuple #[.int .i64 k, hoV (nextE n f), .int .i64 (if n = 0 then 4 else 0)], W) := by
  unfold nextE
  by_cases hn : n = 0
  · subst hn
    exact ⟨0, peek0_ok h.qs⟩
  · rw [if_neg hn, if_neg hn]
    exact ⟨_, peek_ok h.qs (by omega)⟩
theorem hNext_ok (h : HS W In H q mh hm seats nx n f) : omS (.func (.func 12) #[] #[]) [hP H] W = some (.tuple #[hoV (nextE n f), .int .i64 (if n = 0 then 4 else 0)], W) := by
  refine om_drop rfl ?_ holds_Holds_Next_om
  unfold holds_Holds_Next
  have e0 : ¬ seats = 0 := by have := h.sz; omega
  obtain ⟨V, a1, a2, a3, a4⟩ := boxed W
  have hV : HS V In H q mh hm seats nx n f := h.keep a2.next (fun b hb _ => a2.get b hb) (fun b _ hi => hi)
  obtain ⟨k, hp⟩ := peekE_ok hV
  obtain ⟨V2, b1, b2, b3, b4⟩ := boxed V
  generalize hv : nextE n f = v at *
  generalize (if n = 0 then (4 : Int) else 0) = e at *
  have x2 : (V2.put V.next (.cells [.int .i64 v.1, .int .i64 v.2])).get V.next = some (.cells [.int .i64 v.1, .int .i64 v.2]) := AW.get_put _ _ _
  have x3 : (V2.put V.next (.cells [.int .i64 v.1, .int .i64 v.2])).get W.next = some (.cells [.int .i64 0, .int .i64 0]) := by rw [AW.get_put_ne _ _ (by omega), b2.get _ (by omega)]; exact a4
  have x4 : ((V2.put V.next (.cells [.int .i64 v.1, .int .i64 v.2])).put W.next (.cells [.int .i64 v.1, .int .i64 v.2])).get W.next = some (.cells [.int .i64 v.1, .int .i64 v.2]) := AW.get_put _ _ _
  simp only [SX, a1, pEq35, oNilCheck_ptr, Nat.zero_add, hV.l0, e0, decide_false, hV.l1, hp, b1, st43 _ b4, ld43 x2, st43 _ x3, oRes_L1n, oL43, ld43 x4, Option.bind_some, Ok_some]
  exact ⟨trivial, ((a2.trans b2).put (by omega) _).put (by omega) _⟩
end
end Go.Proofs.YtkpgmabebjmahaaGreat.Ho
/- A queue's entries, sorted: what the library sorts. -/
namespace Go.Proofs.YtkpgmabebjmahaaGreat
open Go Go.Eng Go.Hp
set_option linter.unusedVariables false
set_option linter.unusedSimpArgs false
set_option linter.unusedSectionVars false
set_option maxRecDepth 100000
def itAt (cs : List Value) (p : Nat) (x : Int × Int) : Prop := cs[p]? = some (.int .i64 x.1) ∧ cs[p + 1]? = some (.int .i64 x.2)
abbrev Items (W : AW) (v : Value) (l : List (Int × Int)) : Prop := Row W 2 itAt v l
theorem bef_trans {α : Type} {lt : α → α → Bool} (o : Ord lt) {a b c : α} (h1 : lt a b = true) (h2 : lt b c = true) : lt a c = true := by
  cases h : lt a c with
  | true => rfl
  | false =>
    have := o.neg b c a (o.asym _ _ h2) h
    rw [h1] at this; cases this
section
variable {q : Nat} {lv less c2 c3 : Value} {n : Nat} {f : Nat → En} {bl : Option Nat} {ls : Int → Int → Bool}
end
end Go.Proofs.YtkpgmabebjmahaaGreat
/- A queue's entries, sorted; Save. -/
namespace Go.Proofs.YtkpgmabebjmahaaGreat
open Go Go.Eng Go.Hp
set_option linter.unusedVariables false
set_option linter.unusedSimpArgs false
set_option linter.unusedSectionVars false
set_option maxRecDepth 100000
theorem Lst.low {α : Type} {lo lo' z : Nat} {W : AW} {f : α → List Value} {v : Value} {l : List α} (h : Lst lo W z f v l) (hl : lo' ≤ lo) : Lst lo' W z f v l := by
  rcases h with h | ⟨h0, B, h1, h2⟩
  · exact .inl h
  · exact .inr ⟨h0, B, by omega, h2⟩
theorem om_lst {α : Type} {o t : Option (Value × AW)} {W : AW} {lo z : Nat} {f : α → List Value} {l : List α} (h : Ok t fun r => Le W r.2 ∧ Lst lo r.2 z f r.1 l) (hom : ∀ {r}, t = some r → o = some (gc W r)) : ∃ v W2, o = some (v, W2) ∧ Le W W2 ∧ Lst lo W2 z f v l := by
  obtain ⟨⟨v, W'⟩, h1, h2, h3⟩ := h
  rcases h3 with ⟨rfl, rfl⟩ | ⟨h0, B, h4, h5, rfl, h6⟩
  · rcases gc_two (W := W) (W' := W') (.slice none 0 0) with hg | ⟨hg, hle⟩
    · exact ⟨_, W', by rw [hom h1]; exact congrArg some hg, h2, .nil _ _ _ _⟩
    · exact ⟨_, W, by rw [hom h1]; exact congrArg some hg, .refl _, .nil _ _ _ _⟩
  · exact ⟨_, W', by rw [hom h1, gc_not rfl], h2, .inr ⟨h0, B, h4, h5, rfl, h6⟩⟩
section
variable {W : AW} {In : Nat → Prop} {q mh : Nat} {less : Value} {ls : Int → Int → Bool} {nx : Int} {n : Nat} {f : Nat → En}
end
end Go.Proofs.YtkpgmabebjmahaaGreat
/- A queue: Save, All. -/
namespace Go.Proofs.YtkpgmabebjmahaaGreat
open Go Go.Eng Go.Hp
set_option linter.unusedVariables false
set_option linter.unusedSimpArgs false
set_option linter.unusedSectionVars false
set_option maxRecDepth 100000
section
variable {W : AW} {In : Nat → Prop} {q mh : Nat} {less : Value} {ls : Int → Int → Bool} {nx : Int} {n : Nat} {f : Nat → En}
end
end Go.Proofs.YtkpgmabebjmahaaGreat
/- What ranges over a queue; walked, Same. -/
namespace Go.Proofs.YtkpgmabebjmahaaGreat
open Go Go.Eng Go.Hp
set_option linter.unusedVariables false
set_option linter.unusedSimpArgs false
set_option linter.unusedSectionVars false
set_option maxRecDepth 100000
section
variable {W : AW} {In : Nat → Prop} {q mh : Nat} {less : Value} {ls : Int → Int → Bool} {nx : Int} {n : Nat} {f : Nat → En}
end
end Go.Proofs.YtkpgmabebjmahaaGreat
/- walked, Same. -/
namespace Go.Proofs.YtkpgmabebjmahaaGreat
open Go Go.Eng Go.Hp
set_option linter.unusedVariables false
set_option linter.unusedSimpArgs false
set_option linter.unusedSectionVars false
set_option maxRecDepth 100000
theorem lst_push {α : Type} {P : Program} {W : AW} {ts : Array TypeId} {z bytes lo : Nat} {f : α → List Value} {v : Value} {l : List α} {a : α} (hk : appOk P ts z bytes = true) (hf : ∀ a, (f a).length = z) (h1 : ∀ a, (f a).all Eng.one = true)
    (h : Lst lo W z f v l) {b c : Nat} (hc : cellsAt W b = some (f a)) (hb : l.length + 1 < 1099511627776) (hb2 : (2 * (l.length + 1) + 192) * bytes ≤ 281474976710656) (hlo : lo ≤ W.next) :
    ∃ v' W', aAppend P W ts v (.slice (some ⟨b, 0, none⟩) 1 c) = some (v', W') ∧ Lst lo W' z f v' (l ++ [a]) ∧ W.next ≤ W'.next ∧ ∀ b, b < lo → W'.get b = W.get b := by
  obtain ⟨v', W', k1, k2, k3, k4⟩ := h.push hk hf h1 hc hb hb2 hlo
  refine ⟨v', W', k1, k2, k3, fun b hb => ?_⟩
  have := k4 ⟨W.heap, lo⟩ ⟨hlo, fun _ _ => rfl⟩ (Nat.le_refl _)
  exact this.get b hb
theorem lst_slice {α : Type} {lo z : Nat} {W : AW} {f : α → List Value} {v : Value} {l : List α} (h : Lst lo W z f v l) : ∃ a c, v = .slice a l.length c := by
  rcases h with ⟨rfl, rfl⟩ | ⟨_, B, _, _, rfl, _⟩ <;> exact ⟨_, _, rfl⟩
theorem lst_at {α : Type} {lo z : Nat} {W W' : AW} {f : α → List Value} {v : Value} {l : List α} (h : Lst lo W z f v l) (hn : ∀ b, lo ≤ b → b < W.next → b < W'.next ∧ W'.get b = W.get b) : Lst lo W' z f v l := by
  rcases h with h | ⟨h0, B, b1, b2, e, b3⟩
  · exact .inl h
  · exact .inr ⟨h0, B, b1, (hn B b1 b2).1, e, (hn B b1 b2).2.trans b3⟩
section
variable {W : AW} {In : Nat → Prop} {q mh : Nat} {less : Value} {ls : Int → Int → Bool} {nx : Int} {n : Nat} {f : Nat → En}
end
end Go.Proofs.YtkpgmabebjmahaaGreat
/- Holds: Due. -/
namespace Go.Proofs.YtkpgmabebjmahaaGreat.Ho
open Go Go.Eng Go.Hp
set_option linter.unusedVariables false
set_option linter.unusedSimpArgs false
set_option linter.unusedSectionVars false
set_option maxRecDepth 100000
/-! ### lists of entries -/
def hoC (x : Int × Int) : List Value := [.int .i64 x.1, .int .i64 x.2]
def hoAt (cs : List Value) (p : Nat) (x : Int × Int) : Prop := cs[p]? = some (.int .i64 x.1) ∧ cs[p + 1]? = some (.int .i64 x.2)
abbrev HoL (W : AW) (v : Value) (l : List (Int × Int)) : Prop := Row W 2 hoAt v l
theorem hoC_len (x : Int × Int) : (hoC x).length = 2 := rfl
theorem hoC_one (x : Int × Int) : (hoC x).all Eng.one = true := rfl
theorem hoC_at (x : Int × Int) (pre post : List Value) : hoAt (pre ++ (hoC x ++ post)) pre.length x := by
  unfold hoAt hoC
  constructor
  · rw [List.getElem?_append_right (Nat.le_refl _), Nat.sub_self]; rfl
  · rw [List.getElem?_append_right (by omega), Nat.add_sub_cancel_left]; rfl
theorem lst_ho {lo : Nat} {W : AW} {v : Value} {l : List (Int × Int)} (h : Lst lo W 2 hoC v l) : HoL W v l := h.row hoC_len hoC_at
theorem ap39 : appOk Tryz.prog #[22, 22] 2 16 = true := by kernel_rfl
theorem bs39 (a b : Int) (W : AW) : oBuildSlice Tryz.prog 22 1 [(0, .agg #[.int .i64 a, .int .i64 b])] W = some (.slice (some ⟨W.next, 0, none⟩) 1 1, W.add (.cells [.int .i64 a, .int .i64 b])) := Eq.trans (by kernel_rfl) rfl
theorem len39 : ((#[22] : Array TypeId)[0]?).bind Tryz.prog.underlying = some (.slice 43) := by kernel_rfl
theorem HoL.get {W : AW} {v : Value} {l : List (Int × Int)} (h : HoL W v l) {i : Nat} (hi : i < l.length) :
    ∃ b o, (∀ W' k, ixS 2 v (.int k (i : Int)) W' = some (.pointer (some ⟨b, o, none⟩), W')) ∧ b < W.next ∧ ∀ W', W'.get b = W.get b → ldA 2 (.pointer (some ⟨b, o, none⟩)) W' = some (hoV l[i], W') ∧ ldC (.pointer (some ⟨b, o, none⟩)) W' = some (.int .i64 l[i].1, W') ∧ ldC (.pointer (some ⟨b, o + 1, none⟩)) W' = some (.int .i64 l[i].2, W') := by
  obtain ⟨b, o, cs, h1, h2, h3, h4, h5⟩ := h.elem hi
  refine ⟨b, o, h1, h2, fun W' hg => ?_⟩
  have hc : cellsAt W' b = some cs := by
    have : cellsAt W' b = cellsAt W b := by unfold cellsAt; rw [hg]
    rw [this]; exact h3
  refine ⟨?_, ldC_ok hc h4, ldC_ok hc h5⟩
  have e3 : (cs.drop o).take 2 = [.int .i64 l[i].1, .int .i64 l[i].2] := by
    obtain ⟨a1, a2⟩ := List.getElem?_eq_some_iff.1 h4
    obtain ⟨b1, b2⟩ := List.getElem?_eq_some_iff.1 h5
    rw [List.drop_eq_getElem_cons a1, List.drop_eq_getElem_cons b1, a2, b2]
    rfl
  have := ldA_ok (n := 2) (o := o) hc (by rw [e3]; rfl)
  rw [e3] at this
  exact this
theorem om_lst2 {α : Type} {o t : Option (Value × AW)} {W : AW} {lo z : Nat} {f : α → List Value} {k : IntKind} {e : Int} {P : Value → AW → Prop} (h : Ok t fun r => ∃ v, r.1 = .tuple #[v, .int k e] ∧ P v r.2 ∧ ∃ l, Lst lo r.2 z f v l ∧ (l = [] → P (.slice none 0 0) W)) (hom : ∀ {r}, t = some r → o = some (gc W r)) : ∃ v W2, o = some (.tuple #[v, .int k e], W2) ∧ P v W2 := by
  obtain ⟨⟨r, W'⟩, h1, v, h2, h3, l, h4, h5⟩ := h
  simp only at h2 h3 h4 h5
  subst h2
  rcases h4 with ⟨rfl, rfl⟩ | ⟨h0, B, b1, b2, rfl, b3⟩
  · rcases gc_two (W := W) (W' := W') (.tuple #[.slice none 0 0, .int k e]) with hg | ⟨hg, hle⟩
    · exact ⟨_, W', by rw [hom h1, hg], h3⟩
    · exact ⟨_, W, by rw [hom h1, hg], h5 rfl⟩
  · exact ⟨_, W', by rw [hom h1, gc_not rfl], h3⟩
/-- what Due answers -/
structure DueR (n : Nat) (f : Nat → En) (now : Int) (l : List (Int × Int)) (m : Nat) (g : Nat → En) : Prop where
  perm : (l ++ ents m g).Perm (ents n f)
  len : l.length + m = n
  sort : l.Pairwise fun a b => hoLs b a = false
  due : ∀ x ∈ l, x.2 ≤ now
  rest : ∀ i, i < m → now < (g i).v.2
section
variable {W : AW} {In : Nat → Prop} {H q mh hm : Nat} {seats nx : Int} {n : Nat} {f : Nat → En}
theorem due7_ok (h : HS W In H q mh hm seats nx n f) {now : Int} (hb : now < 0) : omS (.func (.func 14) #[] #[]) [hP H, .int .i64 now] W = some (.tuple #[.slice none 0 0, .int .i64 7], W) := by
  have main : holds_Holds_Due omS (hP H) (.int .i64 now) W = some (.tuple #[.slice none 0 0, .int .i64 7], W) := by
    unfold holds_Holds_Due
    have e0 : ¬ seats = 0 := by have := h.sz; omega
    simp only [SX, pEq35, oNilCheck_ptr, Nat.zero_add, h.l0, e0, decide_false, hb, decide_true]
  rw [holds_Holds_Due_om main, gc_same]
theorem HS.first (h : HS W In H q mh hm seats nx n f) {k : Nat} (hk : k < n) : hoLs (f k).v (f 0).v = false := by
  have := h.qs.hp.first hoLs_ord k hk
  unfold bef at this
  simp only [Bool.or_eq_false_iff] at this
  exact this.1
theorem hDue_ok (h : HS W In H q mh hm seats nx n f) {now : Int} (hnow : 0 ≤ now) (hn : n ≤ 5000) :
    ∃ v W' l m g, omS (.func (.func 14) #[] #[]) [hP H, .int .i64 now] W = some (.tuple #[v, .int .i64 0], W') ∧ HS W' In H q mh hm seats nx m g ∧ Gr W W' In ∧ Lst W.next W' 2 hoC v l ∧ DueR n f now l m g := by
  have main : Ok (holds_Holds_Due omS (hP H) (.int .i64 now) W) fun r => ∃ v, r.1 = .tuple #[v, .int .i64 0] ∧ (∃ l m g, HS r.2 In H q mh hm seats nx m g ∧ Gr W r.2 In ∧ Lst W.next r.2 2 hoC v l ∧ DueR n f now l m g) ∧ ∃ l, Lst W.next r.2 2 hoC v l ∧ (l = [] → ∃ l m g, HS W In H q mh hm seats nx m g ∧ Gr W W In ∧ Lst W.next W 2 hoC (.slice none 0 0) l ∧ DueR n f now l m g) := by
    unfold holds_Holds_Due
    have e0 : ¬ seats = 0 := by have := h.sz; omega
    have e1 : ¬ now < 0 := by omega
    simp only [SX, pEq35, oNilCheck_ptr, Nat.zero_add, h.l0, e0, decide_false, e1]
    have hS0 : HS W (fun b => In b ∧ b < W.next) H q mh hm seats nx n f := h.keep (Nat.le_refl _) (fun _ _ _ => rfl) fun b hb hi => ⟨hi, hb⟩
    -- one round
    have key : ∀ (k : Nat) (R : PlanTab.Fr) (V : AW) (m : Nat) (g : Nat → En) (out : Value) (l : List (Int × Int)), l.length = k → k + m = n → R 0 = hP H → R 1 = .int .i64 now → R 6 = out → HS V (fun b => In b ∧ b < W.next) H q mh hm seats nx m g → Gr W V In → Lst W.next V 2 hoC out l → (l ++ ents m g).Perm (ents n f) → l.Pairwise (fun a b => hoLs b a = false) → (∀ x ∈ l, x.2 ≤ now) → (∀ x ∈ l, ∀ i, i < m → hoLs (g i).v x = false) → (l = [] → m = n ∧ g = f) →
        Ok (holds_Holds_Due_L1 omS R V) fun r => (r.1 = .ret ∧ r.2.1 4 = out ∧ r.2.1 5 = .int .i64 0 ∧ HS r.2.2 (fun b => In b ∧ b < W.next) H q mh hm seats nx m g ∧ Gr W r.2.2 In ∧ Lst W.next r.2.2 2 hoC out l ∧ ∀ i, i < m → now < (g i).v.2) ∨
          (r.1 = .normal ∧ ∃ m' g' out' l', m = m' + 1 ∧ l'.length = k + 1 ∧ r.2.1 0 = hP H ∧ r.2.1 1 = .int .i64 now ∧ r.2.1 6 = out' ∧ HS r.2.2 (fun b => In b ∧ b < W.next) H q mh hm seats nx m' g' ∧ Gr W r.2.2 In ∧ Lst W.next r.2.2 2 hoC out' l' ∧ (l' ++ ents m' g').Perm (ents n f) ∧ l'.Pairwise (fun a b => hoLs b a = false) ∧ (∀ x ∈ l', x.2 ≤ now) ∧ (∀ x ∈ l', ∀ i, i < m' → hoLs (g' i).v x = false) ∧ (l' = [] → m' = n ∧ g' = f)) := by
      intro k R V m g out l hlk hkm r0 r1 r6 hS hG hL hP1 hso hdu hbe hz
      unfold holds_Holds_Due_L1
      obtain ⟨pk, hp⟩ := peekE_ok hS
      obtain ⟨V1, a1, a2, a3, a4⟩ := boxed V
      have gn := hG.next
      generalize hV2 : V1.put V.next (.cells [.int .i64 (nextE m g).1, .int .i64 (nextE m g).2]) = V2
      have st := st43 (nextE m g) a4
      rw [hV2] at st
      have l2 : Le V V2 := by rw [← hV2]; exact a2.put (Nat.le_refl _) _
      have n2 : V2.next = V.next + 1 := by rw [← hV2, AW.put_next]; exact a3
      have x2 : V2.get V.next = some (.cells [.int .i64 (nextE m g).1, .int .i64 (nextE m g).2]) := by rw [← hV2]; exact AW.get_put _ _ _
      have S2 : HS V2 (fun b => In b ∧ b < W.next) H q mh hm seats nx m g := hS.keep l2.next (fun b hb _ => l2.get b hb) (fun b _ hi => hi)
      have G2 : Gr W V2 In := hG.trans ⟨l2.next, fun b hb _ => l2.get b hb⟩
      have L2 : Lst W.next V2 2 hoC out l := hL.mono l2
      by_cases hm0 : m = 0
      · subst hm0
        have e4 : ¬ (4 : Int) = 0 := by omega
        simp only [if_true] at hp
        simp only [SX, r0, r1, r6, oNilCheck_ptr, Nat.zero_add, hS.l1, hp, a1, st, e4, decide_false, Ok_some]
        exact .inl ⟨trivial, rfl, rfl, S2, G2, L2, fun i hi => by omega⟩
      · have hne : nextE m g = (g 0).v := by unfold nextE; rw [if_neg hm0]
        rw [if_neg hm0, hne] at hp
        rw [hne] at st x2
        have hok := hS.ok 0 (by omega)
        have l1 : ldC (.pointer (some ⟨V.next, 1, none⟩)) V2 = some (.int .i64 (g 0).v.2, V2) := ldR (rwOf x2) rfl
        by_cases hd : (g 0).v.2 ≤ now
        · obtain ⟨m, rfl⟩ : ∃ m', m = m' + 1 := ⟨m - 1, by omega⟩
          have SS := S2
          obtain ⟨c1, c2, c3, c4, c5, c6, qs, ⟨mm, m1, m2, m3⟩, ok, sz⟩ := S2
          obtain ⟨V3, g', p1, p2, p3, p4⟩ := qPop_ok hoLs_ord hoLess_ok qs (by omega)
          have n3 := p4.next
          have hc3 : V3.get H = some (.cells [.int .i64 seats, qV q, .map (some hm)]) := (p4.get H c2 (by simp)).trans c1
          have x3 : V3.get V.next = some (.cells [.int .i64 (g 0).v.1, .int .i64 (g 0).v.2]) := (p4.get _ (by omega) (by omega)).trans x2
          have m1' : MapV V3 hm mm (m + 1) := m1.keep (p4.get hm c3 (by simp))
          obtain ⟨es, c, d1, d2⟩ := mapV_del m1' u116 u3 [3] (g 0).v.1
          rw [m2 0 (by omega)] at d2
          simp only [Option.isSome_some, if_true, Nat.add_sub_cancel] at d2
          have dd : oBuiltin Tryz.prog .delete #[57, 3] 0 #[false, false] [.map (some hm), .int .i64 (g 0).v.1] V3 = some (.tuple #[], V3.put hm (.map es c)) := by
            show (aDelete Tryz.prog V3 #[57, 3] (.map (some hm)) (.int .i64 (g 0).v.1)).map _ = _
            have : (#[57, 3] : Array TypeId) = (57 :: [3]).toArray := rfl
            rw [this, d1]; rfl
          have hmlt : hm < W.next := c6.2
          generalize hV4 : V3.put hm (.map es c) = V4 at d2 dd
          have g4 : ∀ b, b ≠ hm → V4.get b = V3.get b := fun b hb => by rw [← hV4]; exact AW.get_put_ne _ _ (Ne.symm hb)
          have n4 : V4.next = V3.next := by rw [← hV4, AW.put_next]
          have x4 : V4.get V.next = some (.cells [.int .i64 (g 0).v.1, .int .i64 (g 0).v.2]) := (g4 _ (by omega)).trans x3
          have L4 : Lst W.next V4 2 hoC out l := lst_at L2 fun b hb1 hb2 => ⟨by omega, by rw [g4 b (by omega)]; exact p4.get b hb2 (by omega)⟩
          have hmem : ∀ i, i < m → ∃ k, k < m + 1 ∧ g k = g' i := fun i hi => all_mem.1 (p3.mem_iff.1 (List.mem_cons_of_mem _ (all_mem.2 ⟨i, hi, rfl⟩)))
          have hne0 : ∀ i, i < m → ¬ (g' i).h = (g 0).h := fun i hi e => by
            have hnd : ((g 0).h :: (all m g').map (·.h)).Nodup := by
              have := (p3.map (·.h)).nodup_iff.2 ?_
              · exact this
              · unfold all
                rw [List.map_map, List.nodup_iff_pairwise_ne, List.pairwise_map]
                refine List.nodup_range.imp_of_mem fun {a b} ha hb hab e => hab (qs.fresh (List.mem_range.1 ha) (List.mem_range.1 hb) e)
            exact (List.nodup_cons.1 hnd).1 (List.mem_map.2 ⟨g' i, all_mem.2 ⟨i, hi, rfl⟩, e⟩)
          have hseat0 : ∀ i, i < m → ¬ (g' i).v.1 = (g 0).v.1 := fun i hi e => by
            obtain ⟨k, hk, ek⟩ := hmem i hi
            have a := m2 k hk
            rw [ek, e, m2 0 (by omega)] at a
            injection a with a; injection a with _ a
            exact hne0 i hi a.symm
          have S4 : HS V4 (fun b => In b ∧ b < W.next) H q mh hm seats nx m g' := by
            refine ⟨(g4 H c4).trans hc3, by omega, by omega, c4, c5, c6, p2.keep (by omega) (fun b hb hx => g4 b hx.2.2) fun b _ hx => hx, ⟨_, d2, fun i hi => ?_, fun k v hk => ?_⟩, fun i hi => ?_, sz⟩
            · obtain ⟨k, hk, ek⟩ := hmem i hi
              rw [if_neg (hseat0 i hi), ← ek]
              exact m2 k hk
            · by_cases hk0 : k = (g 0).v.1
              · rw [if_pos hk0] at hk; cases hk
              · rw [if_neg hk0] at hk
                obtain ⟨i, hi, y1, y2⟩ := m3 k v hk
                rcases List.mem_cons.1 (p3.mem_iff.2 (all_mem.2 ⟨i, hi, rfl⟩)) with e | hx
                · rw [e] at y1; exact absurd y1.symm hk0
                · obtain ⟨j, hj, ej⟩ := all_mem.1 hx
                  exact ⟨j, hj, by rw [ej]; exact y1, by rw [ej]; exact y2⟩
            · obtain ⟨k, hk, ek⟩ := hmem i hi
              rw [← ek]; exact ok k hk
          have G4 : Gr W V4 In := G2.trans ⟨by omega, fun b hb hni => by
            rw [g4 b (fun e => hni (by rw [e]; exact c6.1))]
            exact p4.get b hb fun x => hni x.1.1⟩
          obtain ⟨out', V5, q1, q2, q3, q4⟩ := lst_push (a := (g 0).v) (b := V4.next) (c := 1) ap39 hoC_len hoC_one (L4.mono ((Le.refl V4).add (.cells (hoC (g 0).v)))) cellsAt_new (by omega) (by omega) (by rw [AW.add_next]; omega)
          have q1' : aAppend Tryz.prog (V4.add (.cells [.int .i64 (g 0).v.1, .int .i64 (g 0).v.2])) #[22, 22] out (.slice (some ⟨V4.next, 0, none⟩) 1 1) = some (out', V5) := q1
          rw [AW.add_next] at q3
          have g5 : ∀ b, b < W.next → V5.get b = V4.get b := fun b hb => by rw [q4 b hb, AW.get_add_ne _ _ (by omega)]
          have S5 : HS V5 (fun b => In b ∧ b < W.next) H q mh hm seats nx m g' := S4.keep (by omega) (fun b hb hx => g5 b hx.2) (fun b _ hx => hx)
          have G5 : Gr W V5 In := ⟨by omega, fun b hb hni => by rw [g5 b hb]; exact G4.get b hb hni⟩
          have hpp := passed_ok hok.2.2 hnow V2
          rw [decide_eq_true hd] at hpp
          have l0 : ldC (.pointer (some ⟨V.next, 0, none⟩)) V3 = some (.int .i64 (g 0).v.1, V3) := ldR (rwOf x3) rfl
          simp only [SX, r0, r1, r6, oNilCheck_ptr, Nat.zero_add, hS.l1, hp, a1, st, l1, hpp, SS.l1, p1, ldR (o := 2) (rwOf hc3) rfl, l0, dd, ld43 x4, bs39, q1', Ok_some]
          have hfirst : ∀ i, i < m → hoLs (g' i).v (g 0).v = false := fun i hi => by
            obtain ⟨k, hk, ek⟩ := hmem i hi
            rw [← ek]
            exact SS.first hk
          refine .inr ⟨trivial, m, g', out', l ++ [(g 0).v], rfl, by rw [List.length_append, hlk]; rfl, r0, r1, rfl, S5, G5, q2, ?_, ?_, ?_, ?_, fun e => absurd e (by simp)⟩
          · refine .trans ?_ hP1
            rw [List.append_assoc]
            refine List.Perm.append_left _ ?_
            exact p3.map (·.v)
          · rw [List.pairwise_append]
            refine ⟨hso, List.pairwise_singleton _ _, fun a ha b hb => ?_⟩
            obtain rfl := List.mem_singleton.1 hb
            exact hbe a ha 0 (by omega)
          · intro x hx
            rcases List.mem_append.1 hx with hx | hx
            · exact hdu x hx
            · obtain rfl := List.mem_singleton.1 hx
              exact hd
          · intro x hx i hi
            rcases List.mem_append.1 hx with hx | hx
            · obtain ⟨k, hk, ek⟩ := hmem i hi
              rw [← ek]
              exact hbe x hx k hk
            · obtain rfl := List.mem_singleton.1 hx
              exact hfirst i hi
        · have hpp := passed_ok hok.2.2 hnow V2
          rw [decide_eq_false hd] at hpp
          simp only [SX, r0, r1, r6, oNilCheck_ptr, Nat.zero_add, hS.l1, hp, a1, st, l1, hpp, Ok_some]
          refine .inl ⟨trivial, rfl, rfl, S2, G2, L2, fun i hi => ?_⟩
          have := hS.first hi
          unfold hoLs at this
          simp only [Bool.or_eq_false_iff, decide_eq_false_iff_not] at this
          omega
    refine Ok_loop n (by omega) (fun k R V => ∃ m g out l, l.length = k ∧ k + m = n ∧ R 0 = hP H ∧ R 1 = .int .i64 now ∧ R 6 = out ∧ HS V (fun b => In b ∧ b < W.next) H q mh hm seats nx m g ∧ Gr W V In ∧ Lst W.next V 2 hoC out l ∧ (l ++ ents m g).Perm (ents n f) ∧ l.Pairwise (fun a b => hoLs b a = false) ∧ (∀ x ∈ l, x.2 ≤ now) ∧ (∀ x ∈ l, ∀ i, i < m → hoLs (g i).v x = false) ∧ (l = [] → m = n ∧ g = f))
      (fun r => r.1 = .ret ∧ ∃ m g out l, r.2.1 4 = out ∧ r.2.1 5 = .int .i64 0 ∧ HS r.2.2 (fun b => In b ∧ b < W.next) H q mh hm seats nx m g ∧ Gr W r.2.2 In ∧ Lst W.next r.2.2 2 hoC out l ∧ DueR n f now l m g ∧ (l = [] → m = n ∧ g = f)) ⟨n, f, _, [], rfl, by omega, rfl, rfl, rfl, hS0, .refl _ _, .nil _ _ _ _, .refl _, .nil, fun x hx => (by cases hx), fun x hx => (by cases hx), fun _ => ⟨rfl, rfl⟩⟩ ?_ ?_ ?_
    · rintro k R V hk ⟨m, g, out, l, h1, h2, h3, h4, h5, h6, h7, h8, h9, h10, h11, h12, h13⟩
      refine (key k R V m g out l h1 h2 h3 h4 h5 h6 h7 h8 h9 h10 h11 h12 h13).mono fun r hr => ?_
      rcases hr with ⟨k1, k2, k3, k4, k5, k6, k7⟩ | ⟨k1, m', g', out', l', rfl, k2, k3, k4, k5, k6⟩
      · exact .inr ⟨by rw [k1]; simp, k1, m, g, out, l, k2, k3, k4, k5, k6, ⟨h9, by omega, h10, h11, k7⟩, h13⟩
      · exact .inl ⟨k1, m', g', out', l', k2, by omega, k3, k4, k5, k6⟩
    · rintro R V ⟨m, g, out, l, h1, h2, h3, h4, h5, h6, h7, h8, h9, h10, h11, h12, h13⟩
      refine (key n R V m g out l h1 h2 h3 h4 h5 h6 h7 h8 h9 h10 h11 h12 h13).mono fun r hr => ?_
      rcases hr with ⟨k1, k2, k3, k4, k5, k6, k7⟩ | ⟨k1, m', g', out', l', rfl, -⟩
      · exact ⟨by rw [k1]; simp, k1, m, g, out, l, k2, k3, k4, k5, k6, ⟨h9, by omega, h10, h11, k7⟩, h13⟩
      · omega
    · rintro ⟨x, R, V⟩ ⟨hx, m, g, out, l, r4, r5, k1, k2, k3, k4, k5⟩
      simp only at hx r4 r5 k1 k2 k3
      subst hx
      simp only [SX, r4, r5, Ok_some]
      refine ⟨out, rfl, ⟨l, m, g, k1.keep (Nat.le_refl _) (fun _ _ _ => rfl) fun b _ hi => hi.1, k2, k3, k4⟩, l, k3, fun e => ?_⟩
      obtain ⟨rfl, rfl⟩ := k5 e
      subst e
      exact ⟨[], m, g, h, .refl _ _, .nil _ _ _ _, k4⟩
  obtain ⟨v, W2, k1, l, m, g, k2⟩ := om_lst2 (P := fun v V => ∃ l m g, HS V In H q mh hm seats nx m g ∧ Gr W V In ∧ Lst W.next V 2 hoC v l ∧ DueR n f now l m g) main holds_Holds_Due_om
  exact ⟨v, W2, l, m, g, k1, k2⟩
end
end Go.Proofs.YtkpgmabebjmahaaGreat.Ho
/- Holds: Move, Drop, Of. -/
namespace Go.Proofs.YtkpgmabebjmahaaGreat.Ho
open Go Go.Eng Go.Hp
set_option linter.unusedVariables false
set_option linter.unusedSimpArgs false
set_option linter.unusedSectionVars false
set_option maxRecDepth 100000
theorem QS.back3 {W W' : AW} {In : Nat → Prop} {q mh : Nat} {less : Value} {ls ls' : Int × Int → Int × Int → Bool} {nx nx' : Int} {n : Nat} {f g : Nat → En} (h : QS W In q mh less ls nx n f) (h' : QS W' In q mh less ls' nx' n g) (hle : Le W W') (hb : ∀ i, i < n → ∃ k, k < n ∧ (f k).b = (g i).b) : QS W In q mh less ls' nx' n g := by
  obtain ⟨⟨lw, bw, w1, w2, w3⟩, wm, -⟩ := h
  obtain ⟨⟨lv, bl, h1, h2, h3⟩, ml, mq, me, iq, im, hp, ⟨m, m1, m2, m3⟩, hd, nx1⟩ := h'
  have lvE : lw = lv ∧ bw = bl := by
    have x := h1.qc
    rw [hle.get q w1.lt, w1.qc] at x
    injection x with x; injection x with x; injection x with x _
    refine ⟨x, ?_⟩
    subst x
    have y := w1.pile.sl
    have z := h1.pile.sl
    cases z with
    | nil z0 => cases y; rfl
    | row b junk z1 z2 z3 => cases y; rfl
  obtain ⟨rfl, rfl⟩ := lvE
  refine ⟨⟨lw, bw, h1.back2 hle w1.lt fun b ho => ?_, h2, h3⟩, wm, mq, me, iq, im, hp, ⟨m, m1.keep (hle.get mh wm).symm, m2, m3⟩, hd, nx1⟩
  rcases ho with ho | ⟨i, hi, rfl⟩
  · exact w1.pile.sl.lt ho
  · obtain ⟨k, hk, e⟩ := hb i hi
    rw [← e]
    exact (w1.pile.en k hk).2
section
variable {W : AW} {In : Nat → Prop} {H q mh hm : Nat} {seats nx : Int} {n : Nat} {f : Nat → En}
theorem move7_ok (h : HS W In H q mh hm seats nx n f) {s t : Int} (hb : hbad seats s t = true) : omS (.func (.func 13) #[] #[]) [hP H, .int .i64 s, .int .i64 t] W = some (.int .i64 7, W) := by
  refine om_drop rfl ?_ holds_Holds_Move_om
  unfold holds_Holds_Move
  have e0 : ¬ (7 : Int) = 0 := by omega
  simp only [SX, find7_ok h hb, e0, decide_false, Ok_some]
  exact ⟨trivial, .refl _⟩
theorem move4_ok (h : HS W In H q mh hm seats nx n f) {s t : Int} (hb : hbad seats s t = false) (hs : ∀ i, i < n → (f i).v.1 ≠ s) : omS (.func (.func 13) #[] #[]) [hP H, .int .i64 s, .int .i64 t] W = some (.int .i64 4, W) := by
  refine om_drop rfl ?_ holds_Holds_Move_om
  unfold holds_Holds_Move
  have e0 : ¬ (4 : Int) = 0 := by omega
  simp only [SX, find4_ok h hb hs, e0, decide_false, Ok_some]
  exact ⟨trivial, .refl _⟩
theorem hMove_ok (h : HS W In H q mh hm seats nx n f) {i : Nat} (hi : i < n) {t : Int} (hb : hbad seats (f i).v.1 t = false) (hn : n ≤ 10000) :
    ∃ W' g, omS (.func (.func 13) #[] #[]) [hP H, .int .i64 (f i).v.1, .int .i64 t] W = some (.int .i64 0, W') ∧ HS W' In H q mh hm seats nx n g ∧ (ents n g).Perm (ents n (upd f i ((f i).v.1, t))) ∧ Gr W W' In := by
  have main : Ok (holds_Holds_Move omS (hP H) (.int .i64 (f i).v.1) (.int .i64 t) W) fun r => r.1 = .int .i64 0 ∧ ∃ g, HS r.2 In H q mh hm seats nx n g ∧ (ents n g).Perm (ents n (upd f i ((f i).v.1, t))) ∧ Gr W r.2 In ∧ (Le W r.2 → HS W In H q mh hm seats nx n g) := by
    have hW := h
    obtain ⟨hc, hl, ml, ne, iH, iM, qs, ⟨m, m1, m2, m3⟩, ok, sz⟩ := h
    obtain ⟨W1, g, p1, p2, p3, p4⟩ := qSet_ok hoLs_ord hoLess_ok qs hn hi ((f i).v.1, t)
    have n1 := p4.next
    have hbb : 0 ≤ t := by
      unfold hbad at hb
      simp only [Bool.or_eq_false_iff, decide_eq_false_iff_not] at hb
      omega
    have hv : ∀ j, (upd f i ((f i).v.1, t) j).v.1 = (f j).v.1 := fun j => by
      unfold upd
      split
      · rename_i e; rw [e]
      · rfl
    have hmem : ∀ j, j < n → ∃ k, k < n ∧ (f k).b = (g j).b ∧ (f k).h = (g j).h ∧ (f k).v.1 = (g j).v.1 ∧ ((g j).v.2 = t ∨ (g j).v.2 = (f k).v.2) := fun j hj => by
      obtain ⟨k, hk, e⟩ := all_mem.1 (p3.mem_iff.1 (all_mem.2 ⟨j, hj, rfl⟩))
      refine ⟨k, hk, by rw [← e, upd_b], by rw [← e, upd_h], by rw [← e, hv], ?_⟩
      rw [← e]
      unfold upd
      split
      · exact .inl rfl
      · exact .inr rfl
    have hmem2 : ∀ k, k < n → ∃ j, j < n ∧ (f k).h = (g j).h ∧ (f k).v.1 = (g j).v.1 := fun k hk => by
      obtain ⟨j, hj, e⟩ := all_mem.1 (p3.mem_iff.2 (all_mem.2 ⟨k, hk, rfl⟩))
      exact ⟨j, hj, by rw [e, upd_h], by rw [e, hv]⟩
    have mk : ∀ U, U.get H = some (.cells [.int .i64 seats, qV q, .map (some hm)]) → H < U.next → hm < U.next → QS U (fun b => In b ∧ b ≠ H ∧ b ≠ hm) q mh hF hoLs nx n g → MapV U hm m n → HS U In H q mh hm seats nx n g := fun U u1 u2 u3 u4 u5 => by
      refine ⟨u1, u2, u3, ne, iH, iM, u4, ⟨m, u5, fun j hj => ?_, fun k v hk => ?_⟩, fun j hj => ?_, sz⟩
      · obtain ⟨k, hk, -, e1, e2, -⟩ := hmem j hj
        rw [← e1, ← e2]; exact m2 k hk
      · obtain ⟨j, hj, y1, y2⟩ := m3 k v hk
        obtain ⟨j', hj', e1, e2⟩ := hmem2 j hj
        exact ⟨j', hj', by rw [← e2]; exact y1, by rw [← e1]; exact y2⟩
      · obtain ⟨k, hk, -, -, e2, e3⟩ := hmem j hj
        have := ok k hk
        rw [e2] at this
        refine ⟨this.1, this.2.1, ?_⟩
        rcases e3 with e3 | e3 <;> rw [e3]
        · exact hbb
        · exact this.2.2
    unfold holds_Holds_Move
    simp only [SX, hfind_ok hW hi hb, oNilCheck_ptr, Nat.zero_add, hW.l1, bd43, p1, Ok_some]
    refine ⟨trivial, g, mk W1 ((p4.get H hl (by simp)).trans hc) (by omega) (by omega) p2 (m1.keep (p4.get hm ml (by simp))), ?_, ⟨n1, fun b hb' hni => p4.get b hb' fun x => hni x.1⟩, fun hle => mk W hc hl ml (qs.back3 p2 hle fun j hj => ?_) m1⟩
    · exact p3.map (·.v)
    · obtain ⟨k, hk, e, -⟩ := hmem j hj
      exact ⟨k, hk, e⟩
  obtain ⟨⟨r, W'⟩, h1, h2, g, h3, h4, h5, h6⟩ := main
  simp only at h2 h3 h4 h5 h6
  subst h2
  rcases gc_two (W := W) (W' := W') (.int .i64 0) with hg | ⟨hg, hle⟩
  · exact ⟨W', g, by rw [holds_Holds_Move_om h1, hg], h3, h4, h5⟩
  · exact ⟨W, g, by rw [holds_Holds_Move_om h1, hg], h6 hle, h4, .refl _ _⟩
theorem drop7_ok (h : HS W In H q mh hm seats nx n f) {s : Int} (hb : hbad seats s 0 = true) : omS (.func (.func 27) #[] #[]) [hP H, .int .i64 s] W = some (.tuple #[.int .i64 0, .int .i64 7], W) := by
  refine om_drop rfl ?_ holds_Holds_Drop_om
  unfold holds_Holds_Drop
  have e0 : ¬ (7 : Int) = 0 := by omega
  simp only [SX, find7_ok h hb, e0, decide_false, Ok_some]
  exact ⟨trivial, .refl _⟩
theorem drop4_ok (h : HS W In H q mh hm seats nx n f) {s : Int} (hb : hbad seats s 0 = false) (hs : ∀ i, i < n → (f i).v.1 ≠ s) : omS (.func (.func 27) #[] #[]) [hP H, .int .i64 s] W = some (.tuple #[.int .i64 0, .int .i64 4], W) := by
  refine om_drop rfl ?_ holds_Holds_Drop_om
  unfold holds_Holds_Drop
  have e0 : ¬ (4 : Int) = 0 := by omega
  simp only [SX, find4_ok h hb hs, e0, decide_false, Ok_some]
  exact ⟨trivial, .refl _⟩
theorem HS.good (h : HS W In H q mh hm seats nx n f) {i : Nat} (hi : i < n) : hbad seats (f i).v.1 0 = false := by
  have := h.ok i hi
  unfold hbad
  simp only [Bool.or_eq_false_iff, decide_eq_false_iff_not]
  omega
theorem hDrop_ok (h : HS W In H q mh hm seats nx (n + 1) f) {i : Nat} (hi : i < n + 1) (hn : n ≤ 10000) :
    ∃ W' g, omS (.func (.func 27) #[] #[]) [hP H, .int .i64 (f i).v.1] W = some (.tuple #[.int .i64 (f i).v.2, .int .i64 0], W') ∧ HS W' In H q mh hm seats nx n g ∧ ((f i).v :: ents n g).Perm (ents (n + 1) f) ∧ Gr W W' In := by
  have main : Ok (holds_Holds_Drop omS (hP H) (.int .i64 (f i).v.1) W) fun r => r.1 = .tuple #[.int .i64 (f i).v.2, .int .i64 0] ∧ ∃ g, HS r.2 In H q mh hm seats nx n g ∧ ((f i).v :: ents n g).Perm (ents (n + 1) f) ∧ Gr W r.2 In := by
    have hW := h
    obtain ⟨hc, hl, ml, ne, iH, iM, qs, ⟨m, m1, m2, m3⟩, ok, sz⟩ := h
    obtain ⟨W1, g, p1, p2, p3, p4⟩ := qRemove_ok hoLs_ord hoLess_ok qs hn hi
    have n1 := p4.next
    have hc1 : W1.get H = some (.cells [.int .i64 seats, qV q, .map (some hm)]) := (p4.get H hl (by simp)).trans hc
    obtain ⟨V, a1, a2, a3, a4⟩ := boxed W1
    have st := st43 (f i).v a4
    generalize hV2 : V.put W1.next (.cells [.int .i64 (f i).v.1, .int .i64 (f i).v.2]) = V2 at st
    have l2 : Le W1 V2 := by rw [← hV2]; exact a2.put (Nat.le_refl _) _
    have n2 : V2.next = W1.next + 1 := by rw [← hV2, AW.put_next]; exact a3
    have x2 : V2.get W1.next = some (.cells [.int .i64 (f i).v.1, .int .i64 (f i).v.2]) := by rw [← hV2]; exact AW.get_put _ _ _
    have hc2 : V2.get H = some (.cells [.int .i64 seats, qV q, .map (some hm)]) := (l2.get H (by omega)).trans hc1
    have m1' : MapV V2 hm m (n + 1) := m1.keep ((l2.get hm (by omega)).trans (p4.get hm ml (by simp)))
    obtain ⟨es, c, d1, d2⟩ := mapV_del m1' u116 u3 [3] (f i).v.1
    rw [m2 i hi] at d2
    simp only [Option.isSome_some, if_true, Nat.add_sub_cancel] at d2
    have dd : oBuiltin Tryz.prog .delete #[57, 3] 0 #[false, false] [.map (some hm), .int .i64 (f i).v.1] V2 = some (.tuple #[], V2.put hm (.map es c)) := by
      show (aDelete Tryz.prog V2 #[57, 3] (.map (some hm)) (.int .i64 (f i).v.1)).map _ = _
      have : (#[57, 3] : Array TypeId) = (57 :: [3]).toArray := rfl
      rw [this, d1]; rfl
    generalize hV4 : V2.put hm (.map es c) = V4 at d2 dd
    have g4 : ∀ b, b ≠ hm → V4.get b = V2.get b := fun b hb => by rw [← hV4]; exact AW.get_put_ne _ _ (Ne.symm hb)
    have n4 : V4.next = V2.next := by rw [← hV4, AW.put_next]
    have x4 : V4.get W1.next = some (.cells [.int .i64 (f i).v.1, .int .i64 (f i).v.2]) := (g4 _ (by omega)).trans x2
    have hmem : ∀ j, j < n → ∃ k, k < n + 1 ∧ f k = g j := fun j hj => all_mem.1 (p3.mem_iff.1 (List.mem_cons_of_mem _ (all_mem.2 ⟨j, hj, rfl⟩)))
    have hne0 : ∀ j, j < n → ¬ (g j).h = (f i).h := fun j hj e => by
      have hnd : ((f i).h :: (all n g).map (·.h)).Nodup := by
        have := (p3.map (·.h)).nodup_iff.2 ?_
        · exact this
        · unfold all
          rw [List.map_map, List.nodup_iff_pairwise_ne, List.pairwise_map]
          refine List.nodup_range.imp_of_mem fun {a b} ha hb hab e => hab (qs.fresh (List.mem_range.1 ha) (List.mem_range.1 hb) e)
      exact (List.nodup_cons.1 hnd).1 (List.mem_map.2 ⟨g j, all_mem.2 ⟨j, hj, rfl⟩, e⟩)
    have hseat0 : ∀ j, j < n → ¬ (g j).v.1 = (f i).v.1 := fun j hj e => by
      obtain ⟨k, hk, ek⟩ := hmem j hj
      have a := m2 k hk
      rw [ek, e, m2 i hi] at a
      injection a with a; injection a with _ a
      exact hne0 j hj a.symm
    have l1 : ldC (.pointer (some ⟨W1.next, 1, none⟩)) V4 = some (.int .i64 (f i).v.2, V4) := ldR (rwOf x4) rfl
    unfold holds_Holds_Drop
    simp only [SX, hfind_ok hW hi (hW.good hi), oNilCheck_ptr, Nat.zero_add, hW.l1, p1, a1, st, ldR (o := 2) (rwOf hc2) rfl, dd, l1, Ok_some]
    refine ⟨trivial, g, ⟨(g4 H ne).trans hc2, by omega, by omega, ne, iH, iM, p2.keep (by omega) (fun b hb hx => by rw [g4 b hx.2.2]; exact l2.get b hb) fun b _ hx => hx, ⟨_, d2, fun j hj => ?_, fun k v hk => ?_⟩, fun j hj => ?_, sz⟩, ?_, by omega, fun b hb' hni => ?_⟩
    · obtain ⟨k, hk, ek⟩ := hmem j hj
      rw [if_neg (hseat0 j hj), ← ek]
      exact m2 k hk
    · by_cases hk0 : k = (f i).v.1
      · rw [if_pos hk0] at hk; cases hk
      · rw [if_neg hk0] at hk
        obtain ⟨i', hi', y1, y2⟩ := m3 k v hk
        rcases List.mem_cons.1 (p3.mem_iff.2 (all_mem.2 ⟨i', hi', rfl⟩)) with e | hx
        · rw [e] at y1; exact absurd y1.symm hk0
        · obtain ⟨j, hj, ej⟩ := all_mem.1 hx
          exact ⟨j, hj, by rw [ej]; exact y1, by rw [ej]; exact y2⟩
    · obtain ⟨k, hk, ek⟩ := hmem j hj
      rw [← ek]; exact ok k hk
    · exact p3.map (·.v)
    · rw [g4 b (fun e => hni (by rw [e]; exact iM)), l2.get b (by omega)]
      exact p4.get b hb' fun x => hni x.1
  obtain ⟨⟨r, W'⟩, h1, h2, g, h3, h4, h5⟩ := main
  simp only at h2 h3 h4 h5
  subst h2
  rcases gc_two (W := W) (W' := W') (.tuple #[.int .i64 (f i).v.2, .int .i64 0]) with hg | ⟨hg, hle⟩
  · exact ⟨W', g, by rw [holds_Holds_Drop_om h1, hg], h3, h4, h5⟩
  · have hql : q < W.next := by obtain ⟨⟨lv, bl, k1, -⟩, -⟩ := h.qs; exact k1.lt
    exact absurd (hle.get q hql).symm (QS.grown h3.qs h.qs)
theorem of7_ok (h : HS W In H q mh hm seats nx n f) {s : Int} (hb : hbad seats s 0 = true) : omS (.func (.func 29) #[] #[]) [hP H, .int .i64 s] W = some (.tuple #[.int .i64 0, .int .i64 7], W) := by
  refine om_drop rfl ?_ holds_Holds_Of_om
  unfold holds_Holds_Of
  have e0 : ¬ (7 : Int) = 0 := by omega
  simp only [SX, find7_ok h hb, e0, decide_false, Ok_some]
  exact ⟨trivial, .refl _⟩
theorem of4_ok (h : HS W In H q mh hm seats nx n f) {s : Int} (hb : hbad seats s 0 = false) (hs : ∀ i, i < n → (f i).v.1 ≠ s) : omS (.func (.func 29) #[] #[]) [hP H, .int .i64 s] W = some (.tuple #[.int .i64 0, .int .i64 4], W) := by
  refine om_drop rfl ?_ holds_Holds_Of_om
  unfold holds_Holds_Of
  have e0 : ¬ (4 : Int) = 0 := by omega
  simp only [SX, find4_ok h hb hs, e0, decide_false, Ok_some]
  exact ⟨trivial, .refl _⟩
theorem hOf_ok (h : HS W In H q mh hm seats nx n f) {i : Nat} (hi : i < n) : omS (.func (.func 29) #[] #[]) [hP H, .int .i64 (f i).v.1] W = some (.tuple #[.int .i64 (f i).v.2, .int .i64 0], W) := by
  refine om_drop rfl ?_ holds_Holds_Of_om
  unfold holds_Holds_Of
  obtain ⟨V, a1, a2, a3, a4⟩ := boxed W
  have x2 : (V.put W.next (.cells [.int .i64 (f i).v.1, .int .i64 (f i).v.2])).get W.next = some (.cells [.int .i64 (f i).v.1, .int .i64 (f i).v.2]) := AW.get_put _ _ _
  simp only [SX, hfind_ok h hi (h.good hi), oNilCheck_ptr, Nat.zero_add, h.l1, qGet_ok h.qs hi, a1, st43 _ a4, ldR (o := 1) (rwOf x2) rfl, Ok_some]
  exact ⟨trivial, a2.put (Nat.le_refl _) _⟩
end
end Go.Proofs.YtkpgmabebjmahaaGreat.Ho
/- A queue's entries, sorted: what the library sorts. -/
namespace Go.Proofs.YtkpgmabebjmahaaGreat.Ho
open Go Go.Eng Go.Hp
set_option linter.unusedVariables false
set_option linter.unusedSimpArgs false
set_option linter.unusedSectionVars false
set_option maxRecDepth 100000
/-! ### items -/
def befP (ls : Int × Int → Int × Int → Bool) (a b : Int × (Int × Int)) : Bool := ls a.2 b.2 || (!ls b.2 a.2 && decide (a.1 < b.1))
def itC (x : Int × (Int × Int)) : List Value := [.int .i64 x.1, .int .i64 x.2.1, .int .i64 x.2.2]
def itAt (cs : List Value) (p : Nat) (x : Int × (Int × Int)) : Prop := cs[p]? = some (.int .i64 x.1) ∧ cs[p + 1]? = some (.int .i64 x.2.1) ∧ cs[p + 2]? = some (.int .i64 x.2.2)
abbrev Items (W : AW) (v : Value) (l : List (Int × (Int × Int))) : Prop := Row W 3 itAt v l
theorem itC_len (x : Int × (Int × Int)) : (itC x).length = 3 := rfl
theorem itC_one (x : Int × (Int × Int)) : (itC x).all Eng.one = true := rfl
theorem itC_at (x : Int × (Int × Int)) (pre post : List Value) : itAt (pre ++ (itC x ++ post)) pre.length x := by
  unfold itAt itC
  refine ⟨?_, ?_, ?_⟩
  · rw [List.getElem?_append_right (Nat.le_refl _), Nat.sub_self]; rfl
  · rw [List.getElem?_append_right (by omega), Nat.add_sub_cancel_left]; rfl
  · rw [List.getElem?_append_right (by omega), Nat.add_sub_cancel_left]; rfl
theorem Lst.items {lo : Nat} {W : AW} {v : Value} {l : List (Int × (Int × Int))} (h : Lst lo W 3 itC v l) : Items W v l := h.row itC_len itC_at
theorem ap58 : appOk Tryz.prog #[86, 86] 3 24 = true := by kernel_rfl
theorem bd65 (a : Int) (b : Int × Int) (W : AW) : oBuild Tryz.prog 89 [(0, .int .i64 a), (1, hoV b)] W = some (.agg #[.int .i64 a, .int .i64 b.1, .int .i64 b.2], W) := Eq.trans (by kernel_rfl) rfl
theorem bs58 (a b c : Int) (W : AW) : oBuildSlice Tryz.prog 86 1 [(0, .agg #[.int .i64 a, .int .i64 b, .int .i64 c])] W = some (.slice (some ⟨W.next, 0, none⟩) 1 1, W.add (.cells [.int .i64 a, .int .i64 b, .int .i64 c])) := Eq.trans (by kernel_rfl) rfl
theorem body123 : HasBody Tryz.prog 64 := ⟨_, _, Tryz.func64, by kernel_rfl, rfl⟩
/-- the order of the entries, as the library asks it -/
def cfE (ls : Int × Int → Int × Int → Bool) (f : Nat → En) (i j : Nat) : Int := if (f i).b = (f j).b then 0 else if bef ls (f i) (f j) then -1 else 1
theorem cfE_lt {ls : Int × Int → Int × Int → Bool} (o : Ord (bef ls)) {f : Nat → En} {n : Nat} (hinj : ∀ i j, i < n → j < n → (f i).b = (f j).b → i = j) {i j : Nat} (hi : i < n) (hj : j < n) : cfE ls f i j < 0 ↔ bef ls (f i) (f j) = true := by
  unfold cfE
  by_cases h : (f i).b = (f j).b
  · obtain rfl := hinj i j hi hj h
    rw [if_pos rfl, ord_irr o]
    simp
  · rw [if_neg h]
    cases bef ls (f i) (f j) <;> simp
theorem cfE_ord {ls : Int × Int → Int × Int → Bool} (o : Ord (bef ls)) {f : Nat → En} {n : Nat} (hinj : ∀ i j, i < n → j < n → (f i).b = (f j).b → i = j) : OrdN n (cfE ls f) where
  irrefl i hi h := by
    rw [cfE_lt o hinj hi hi, ord_irr o] at h; cases h
  trans i j l hi hj hl h1 h2 := by
    rw [cfE_lt o hinj hi hj] at h1
    rw [cfE_lt o hinj hj hl] at h2
    rw [cfE_lt o hinj hi hl]
    exact bef_trans o h1 h2
  ntrans i j l hi hj hl h1 h2 := by
    rw [cfE_lt o hinj hi hj, Bool.not_eq_true] at h1
    rw [cfE_lt o hinj hj hl, Bool.not_eq_true] at h2
    rw [cfE_lt o hinj hi hl, Bool.not_eq_true]
    exact o.neg _ _ _ h2 h1
theorem flat1 (l : List En) : (l.map fun e => [enP e]).flatten = l.map enP := by
  induction l with
  | nil => rfl
  | cons a l ih => rw [List.map_cons, List.flatten_cons, ih]; rfl
theorem rowE_all (n : Nat) (f : Nat → En) : rowE n f = (all n f).map enP := by
  unfold rowE all
  rw [List.map_map]; rfl
section
variable {q : Nat} {lv less c2 c3 : Value} {n : Nat} {f : Nat → En} {bl : Option Nat} {ls : Int × Int → Int × Int → Bool}
/-- the entries of a copy are sorted -/
theorem sortE_ok (o : Ord (bef ls)) (hl : IsLess1 less ls) (hlz : ∀ D, liesD D less) {V : AW} (h : QP V q lv less c2 c3 n f bl) (hn : n ≤ 10000) (h0 : 0 < n) {b X : Nat} (hb : V.get b = some (.cells (rowE n f))) (hbl : b < V.next) (hbq : b ≠ q) (hbb : bl ≠ some b) (hbe : ∀ i, i < n → (f i).b ≠ b) (hX : V.get X = some (.cells [.pointer (some ⟨q, 0, none⟩)])) (hXl : X < V.next) (hXb : X ≠ b) :
    ∃ es : List En, es.Perm (all n f) ∧ es.Pairwise (fun x y => bef ls y x = false) ∧ omS (.func (.func 63) #[] #[]) [.slice (some ⟨b, 0, none⟩) n (BIG + 1), .func (.func 64) #[] #[.pointer (some ⟨X, 0, none⟩)]] V = some (.tuple #[], V.put b (.cells (es.map enP))) := by
  obtain ⟨hqc, hql, ⟨hsl, hen, hinj⟩, hbq', heq⟩ := h
  have hlen : (all n f).length = n := all_len n f
  have hget : ∀ i (hi : i < (all n f).length), (all n f)[i] = f i := fun i hi => by simp [all]
  obtain ⟨es, e1, e2, e3⟩ := sortR_of (all n f) (fun e => [enP e]) (bef ls) (cf := cfE ls f) (by rw [hlen]; exact cfE_ord o hinj) (by omega) fun i j hi hj => by
    rw [hget, hget]
    exact cfE_lt o hinj (by omega) (by omega)
  refine ⟨es, e1, e2, ?_⟩
  -- what the view holds
  have vQ : ∃ r, cellsAt (roV V b) q = some ([lv, less] ++ r) := by
    obtain ⟨r, hr⟩ := roV_has (W := V) (b0 := b) (x := q) (cs := [lv, less]) (rest := [c2, c3]) (.inl hqc) hql (Ne.symm hbq) fun v hv => by
      rcases List.mem_cons.1 hv with rfl | hv
      · cases hsl with
        | nil h0 => exact liesD_snil
        | row bl junk h1 h2 h3 => exact liesD_slice ⟨fun e => hbb (congrArg some e), _, .inl h1⟩
      · obtain rfl := List.mem_singleton.1 hv
        exact hlz _
    exact ⟨r, by unfold cellsAt; rw [hr]⟩
  obtain ⟨rq, vQ⟩ := vQ
  have vX : ∃ r, cellsAt (roV V b) X = some ([.pointer (some ⟨q, 0, none⟩)] ++ r) := by
    obtain ⟨r, hr⟩ := roV_has (W := V) (b0 := b) (x := X) (cs := [.pointer (some ⟨q, 0, none⟩)]) (rest := []) (.inl hX) hXl hXb fun v hv => by
      obtain rfl := List.mem_singleton.1 hv
      exact liesD_ptr ⟨Ne.symm hbq, _, .inl hqc⟩
    exact ⟨r, by unfold cellsAt; rw [hr]⟩
  obtain ⟨rX, vX⟩ := vX
  have vE : ∀ i, i < n → ∃ r, cellsAt (roV V b) (f i).b = some (.int .i64 (f i).h :: .int .i64 (f i).v.1 :: .int .i64 (f i).v.2 :: r) := fun i hi => by
    obtain ⟨r, hr⟩ := roV_has (W := V) (b0 := b) (x := (f i).b) (cs := enC (f i) i) (rest := []) (.inl (by rw [List.append_nil]; exact (hen i hi).1)) (hen i hi).2 (hbe i hi) fun v hv => liesD_plain (by
      simp only [enC, List.mem_cons, List.not_mem_nil, or_false] at hv
      rcases hv with rfl | rfl | rfl | rfl <;> rfl)
    exact ⟨.int .i64 (i : Int) :: r, by unfold cellsAt; rw [hr]; rfl⟩
  have key : SortFA Tryz.prog (ansPtr om1 64 65) [] false 1 V [.slice (some ⟨b, 0, none⟩) n (BIG + 1), .func (.func 64) #[] #[.pointer (some ⟨X, 0, none⟩)]] (V.put b (.cells (es.map enP))) := by
    refine .inr ⟨b, BIG + 1, (all n f).map fun e => [enP e], [], 64, #[.pointer (some ⟨X, 0, none⟩)], cfE ls f, ⟨?_, ?_, ?_, ?_, ?_, ?_, ?_, ?_, ?_, body123, ?_, ?_, ?_⟩⟩
    · intro h
      have := congrArg List.length h
      rw [List.length_map, hlen] at this
      simp at this; omega
    · rw [List.length_map, hlen]; omega
    · intro r hr
      obtain ⟨e, -, rfl⟩ := List.mem_map.1 hr
      rfl
    · intro r hr v hv
      obtain ⟨e, -, rfl⟩ := List.mem_map.1 hr
      obtain rfl := List.mem_singleton.1 hv
      rfl
    · rw [List.length_map, hlen]
    · rw [flat1, List.append_nil, ← rowE_all]; exact hb
    · intro r hr v hv
      obtain ⟨e, he, rfl⟩ := List.mem_map.1 hr
      obtain rfl := List.mem_singleton.1 hv
      obtain ⟨i, hi, rfl⟩ := all_mem.1 he
      exact liesD_ptr ⟨hbe i hi, _, .inl (hen i hi).1⟩
    · intro v hv
      obtain rfl : v = .pointer (some ⟨X, 0, none⟩) := by simpa using hv
      exact liesD_ptr ⟨hXb, _, .inl hX⟩
    · intro g hg; cases hg
    · intro i j hi hj
      rw [List.length_map] at hi hj
      rw [List.getElem_map, List.getElem_map, hget, hget]
      rw [hlen] at hi hj
      obtain ⟨ri, hri⟩ := vE i hi
      obtain ⟨rj, hrj⟩ := vE j hj
      have hbo := pBefore1_ok (rq := rq) hl vQ hri hrj
      show ansPtr om1 64 65 V b 64 #[.pointer (some ⟨X, 0, none⟩)] (enP (f i)) (enP (f j)) = _
      unfold ansPtr cfE
      simp only [if_true, enP]
      rw [show (cellsAt (roV V b) X).bind (fun x => x[0]?) = some (.pointer (some ⟨q, 0, none⟩)) by rw [vX]; rfl]
      simp only
      by_cases hij : (f i).b = (f j).b
      · rw [if_pos (by rw [hij]), if_pos hij]
      · rw [if_neg (fun e => hij (by injection e)), if_neg hij, (hen i hi).1, (hen j hj).1]
        simp only
        rw [if_pos ⟨hij, by simp, by simp⟩]
        have hbo' : om1 (.func (.func 65) #[] #[]) [.pointer (some ⟨q, 0, none⟩), .pointer (some ⟨(f i).b, 0, none⟩), .pointer (some ⟨(f j).b, 0, none⟩)] (roV V b) = some (.bool (bef ls (f i) (f j)), roV V b) := hbo
        rw [hbo']
    · rw [List.length_map, hlen]; exact cfE_ord o hinj
    · rw [e3, flat1, List.append_nil]
  exact sort63_ok key
end
end Go.Proofs.YtkpgmabebjmahaaGreat.Ho
/- A queue's entries, sorted; Save. -/
namespace Go.Proofs.YtkpgmabebjmahaaGreat.Ho
open Go Go.Eng Go.Hp
set_option linter.unusedVariables false
set_option linter.unusedSimpArgs false
set_option linter.unusedSectionVars false
set_option maxRecDepth 100000
theorem len104 : ((#[99] : Array TypeId)[0]?).bind Tryz.prog.underlying = some (.slice 106) := by kernel_rfl
/-- sorted items of a queue -/
structure Srt (ls : Int × Int → Int × Int → Bool) (n : Nat) (f : Nat → En) (l : List (Int × (Int × Int))) : Prop where
  perm : l.Perm ((all n f).map hv)
  sort : l.Pairwise fun a b => befP ls b a = false
section
variable {W : AW} {In : Nat → Prop} {q mh : Nat} {less : Value} {ls : Int × Int → Int × Int → Bool} {nx : Int} {n : Nat} {f : Nat → En}
theorem sorted_ok (o : Ord (bef ls)) (hl : IsLess1 less ls) (hlz : ∀ D, liesD D less) (h : QS W In q mh less ls nx n f) (hn : n ≤ 10000) :
    ∃ W' v l, omS (.func (.func 47) #[] #[]) [qV q] W = some (v, W') ∧ Le W W' ∧ Lst W.next W' 3 itC v l ∧ Srt ls n f l := by
  have main : ∃ l, Srt ls n f l ∧ Ok (heaps_Queueapi_HoEntry_sorted omS (qV q) W) fun r => Le W r.2 ∧ Lst W.next r.2 3 itC r.1 l := by
    obtain ⟨⟨lv, bl, h1, h2, h3⟩, -⟩ := h
    have oBoxP : ∀ W, oBox (qV q) W = some (.pointer (some ⟨W.next, 0, none⟩), W.add (.cells [qV q])) := fun W => rfl
    generalize hW1 : W.add (.cells [qV q]) = W1
    have g1 : ∀ b, b < W.next → W1.get b = W.get b := fun b hb => by rw [← hW1]; exact AW.get_add_ne _ _ (by omega)
    have n1 : W1.next = W.next + 1 := by rw [← hW1, AW.add_next]
    have l1 : Le W W1 := by rw [← hW1]; exact (Le.refl _).add _
    have x1 : W1.get W.next = some (.cells [qV q]) := by rw [← hW1]; exact AW.get_add _ _
    have q1 : QP W1 q lv less (.map (some mh)) (.int .i64 nx) n f bl := h1.keep (by omega) fun b hb _ => g1 b hb
    obtain ⟨v1, W2, c1, c2, c3⟩ := clone_ok q1.pile.sl hn
    have q2 : QP W2 q lv less (.map (some mh)) (.int .i64 nx) n f bl := q1.keep c2.next fun b hb _ => c2.get b hb
    have x2 : W2.get W.next = some (.cells [qV q]) := (c2.get _ (by omega)).trans x1
    have hbn : ∀ b, bl = some b → b < W1.next := fun b hb => q1.pile.sl.lt hb
    -- the sort
    have hs : ∃ (es : List En) (W3 : AW), es.Perm (all n f) ∧ es.Pairwise (fun x y => bef ls y x = false) ∧ omS (.func (.func 63) #[] #[]) [v1, .func (.func 64) #[] #[.pointer (some ⟨W.next, 0, none⟩)]] W2 = some (.tuple #[], W3) ∧ W3.next = W2.next ∧ (∀ b, b < W1.next → W3.get b = W2.get b) ∧
        (∀ W', oBuiltin Tryz.prog .len #[99] 3 #[false] [v1] W' = some (.int .i64 (n : Int), W')) ∧ ∀ i (hi : i < es.length), ∃ b, (∀ W' k, ixS 1 v1 (.int k (i : Int)) W' = some (.pointer (some ⟨b, i, none⟩), W')) ∧ ∀ W', Le W3 W' → ldC (.pointer (some ⟨b, i, none⟩)) W' = some (enP es[i], W') := by
      rcases c3 with ⟨rfl, a, c, rfl⟩ | ⟨h0, b, b1, b2, rfl, b3⟩
      · refine ⟨[], W2, .refl _, .nil, sort63_ok (.inl ⟨a, c, _, rfl, rfl⟩), rfl, fun _ _ => rfl, fun W' => len_slice len104 _ _ _, fun i hi => by simp at hi⟩
      · obtain ⟨es, e1, e2, e3⟩ := sortE_ok o hl hlz q2 hn h0 b3 b2 (by have := q1.lt; omega) (fun e => by have := hbn b e; omega) (fun i hi e => by have := (q1.pile.en i hi).2; omega) x2 (by have := c2.next; omega) (by omega)
        have hlen : es.length = n := by rw [e1.length_eq, all_len]
        refine ⟨es, _, e1, e2, e3, by rw [AW.put_next], fun d hd => AW.get_put_ne _ _ (by omega), fun W' => len_slice len104 _ _ _, fun i hi => ⟨b, fun W' k => by rw [ixS_ok (by omega), Nat.zero_add, Nat.mul_one], fun W' hle => ldR (rwOf (cs := es.map enP) ?_) ?_⟩⟩
        · rw [hle.get b (by rw [AW.put_next]; exact b2)]
          exact AW.get_put _ _ _
        · rw [List.getElem?_map, List.getElem?_eq_getElem hi]; rfl
    obtain ⟨es, W3, e1, e2, e3, n3, g3, e4, e5⟩ := hs
    have hlen : es.length = n := by rw [e1.length_eq, all_len]
    have l3 : Le W1 W3 := ⟨by rw [n3]; exact c2.next, fun b hb => by rw [g3 b hb]; exact c2.get b hb⟩
    have hcell : ∀ i (hi : i < es.length) W', Le W3 W' → ldC (.pointer (some ⟨es[i].b, 0, none⟩)) W' = some (.int .i64 es[i].h, W') ∧ ldA 2 (.pointer (some ⟨es[i].b, 1, none⟩)) W' = some (hoV es[i].v, W') := fun i hi W' hle => by
      obtain ⟨k, hk, e⟩ := all_mem.1 (e1.mem_iff.1 (List.getElem_mem hi))
      have hc : W'.get (f k).b = some (.cells (enC (f k) k)) := by
        have := q1.pile.en k hk
        rw [hle.get _ (Nat.lt_of_lt_of_le this.2 l3.next), l3.get _ this.2]
        exact this.1
      rw [← e]
      exact ⟨ldR (rwOf hc) rfl, ldA_ok (rwCells_cellsAt (rwOf hc)) rfl⟩
    refine ⟨es.map hv, ⟨e1.map hv, by rw [List.pairwise_map]; exact e2⟩, ?_⟩
    unfold heaps_Queueapi_HoEntry_sorted
    simp only [SX, oBoxP, hW1, ldR (o := 0) (rwOf x1) rfl, oNilCheck_ptr, Nat.zero_add, q1.l0, c1, e3, e4]
    refine Ok_loop n (by omega) (fun k R W' => ∃ out, R 16 = v1 ∧ R 17 = .int .i64 (n : Int) ∧ R 18 = .int .i64 (k : Int) ∧ R 4 = out ∧ Le W3 W' ∧ Lst W3.next W' 3 itC out ((es.take k).map hv))
      (fun r => r.1 = .exit 0 ∧ ∃ out, r.2.1 4 = out ∧ Le W3 r.2.2 ∧ Lst W.next r.2.2 3 itC out (es.map hv)) ⟨_, rfl, rfl, rfl, rfl, .refl _, .nil _ _ _ _⟩ ?_ ?_ ?_
    · rintro k R W' hk ⟨out, r16, r17, r18, r4, hle, hL⟩
      unfold heaps_Queueapi_HoEntry_sorted_L1
      have hke : k < es.length := by omega
      obtain ⟨b, f1, f2⟩ := e5 k hke
      obtain ⟨d1, d2⟩ := hcell k hke W' hle
      have t1 : ((k : Int) < (n : Int)) := by omega
      have t2 := fun W' => oBin_add (P := Tryz.prog) (W := W') (t := 3) (c := false) (d := true) (a := (k : Int)) (b := 1) (by omega) (by omega)
      have hlt : ((es.take k).map hv).length = k := by rw [List.length_map, List.length_take]; omega
      obtain ⟨v', W4, p1, p2, p3, p4⟩ := (hL.mono ((Le.refl W').add (.cells (itC (hv es[k]))))).push (a := hv es[k]) (b := W'.next) (c := 1) ap58 itC_len itC_one cellsAt_new (by rw [hlt]; omega) (by rw [hlt]; omega) (by rw [AW.add_next]; have := hle.next; omega)
      simp only [SX, r16, r17, r18, r4, t1, f1, f2 W' hle, oNilCheck_ptr, Nat.zero_add, d1, d2, bd65, bs58]
      have p1' : aAppend Tryz.prog (W'.add (.cells [.int .i64 es[k].h, .int .i64 es[k].v.1, .int .i64 es[k].v.2])) #[86, 86] out (.slice (some ⟨W'.next, 0, none⟩) 1 1) = some (v', W4) := p1
      simp only [SX, p1', t2, Ok_some]
      refine .inl ⟨trivial, v', r16, r17, by rw [show ((k + 1 : Nat) : Int) = (k : Int) + 1 by omega]; rfl, rfl, p4 _ (hle.add _) (Nat.le_refl _), ?_⟩
      rw [List.take_succ_eq_append_getElem hke, List.map_append]
      exact p2
    · rintro R W' ⟨out, r16, r17, r18, r4, hle, hL⟩
      unfold heaps_Queueapi_HoEntry_sorted_L1
      have t1 : ¬ ((n : Int) < (n : Int)) := by omega
      simp only [SX, r16, r17, r18, t1, Ok_some]
      rw [List.take_of_length_le (by omega)] at hL
      exact ⟨by simp, trivial, out, r4, hle, Lst.low hL (by have := l3.next; omega)⟩
    · rintro ⟨x, R, W'⟩ ⟨hx, out, r4, hle, hL⟩
      simp only at hx r4 hle hL
      subst hx
      simp only [SX, r4, Ok_some]
      exact ⟨(l1.trans l3).trans hle, hL⟩
  obtain ⟨l, hs, main⟩ := main
  obtain ⟨v, W2, k1, k2, k3⟩ := om_lst main heaps_Queueapi_HoEntry_sorted_om
  exact ⟨W2, v, l, k1, k2, k3, hs⟩
end
end Go.Proofs.YtkpgmabebjmahaaGreat.Ho
/- A queue: Save, All. -/
namespace Go.Proofs.YtkpgmabebjmahaaGreat.Ho
open Go Go.Eng Go.Hp
set_option linter.unusedVariables false
set_option linter.unusedSimpArgs false
set_option linter.unusedSectionVars false
set_option maxRecDepth 100000
theorem al65 (W : AW) : oAlloc Tryz.prog 89 W = some (.pointer (some ⟨W.next, 0, none⟩), W.add (.cells [.int .i64 0, .int .i64 0, .int .i64 0])) := Eq.trans (by kernel_rfl) rfl
theorem len58 : ((#[86] : Array TypeId)[0]?).bind Tryz.prog.underlying = some (.slice 89) := by kernel_rfl
section
variable {W : AW} {In : Nat → Prop} {q mh : Nat} {less : Value} {ls : Int × Int → Int × Int → Bool} {nx : Int} {n : Nat} {f : Nat → En}
/-! ### All -/
theorem all_fn (W : AW) (q : Nat) : omS (.func (.func 22) #[] #[]) [qV q] W = some (.func (.func 45) #[] #[.pointer (some ⟨W.next, 0, none⟩)], W.add (.cells [qV q])) := by
  have oBoxP : ∀ W, oBox (qV q) W = some (.pointer (some ⟨W.next, 0, none⟩), W.add (.cells [qV q])) := fun W => rfl
  have : heaps_Queueapi_HoEntry_All omS (qV q) W = some (.func (.func 45) #[] #[.pointer (some ⟨W.next, 0, none⟩)], W.add (.cells [qV q])) := by
    unfold heaps_Queueapi_HoEntry_All
    simp only [SX, oBoxP]
  rw [heaps_Queueapi_HoEntry_All_om this, gc_not rfl]
theorem all1_ok (o : Ord (bef ls)) (hl : IsLess1 less ls) (hlz : ∀ D, liesD D less) (h : QS W In q mh less ls nx n f) (hn : n ≤ 10000) {X : Nat} (hX : W.get X = some (.cells [qV q])) {y : Value} :
    ∃ l W1, Srt ls n f l ∧ Le W W1 ∧ ∀ (J : List (Int × (Int × Int)) → AW → Prop) (D : AW → Prop), J [] W1 → (∀ pre W', J pre W' → W1.next ≤ W'.next ∧ ∀ b, W.next ≤ b → b < W1.next → W'.get b = W1.get b) →
      (∀ pre x W' cs, pre ++ [x] <+: l → J pre W' → ∃ r W2, omS y [.int .i64 x.1, hoV x.2] (W'.add (.cells cs)) = some (.bool r, W2) ∧ (r = true → J (pre ++ [x]) W2) ∧ (r = false → D W2)) →
      ∃ W', omS (.func (.func 45) #[] #[.pointer (some ⟨X, 0, none⟩)]) [y] W = some (.tuple #[], W') ∧ (J l W' ∨ D W') := by
  have hm := made_ok h
  obtain ⟨W1, v, l, s1, s2, s3, s4⟩ := sorted_ok o hl hlz h hn
  refine ⟨l, W1, s4, s2, fun J D h0 hk step => ?_⟩
  have main : Ok (heaps_Queueapi_HoEntry_All_1 omS y (.pointer (some ⟨X, 0, none⟩)) W) fun r => r.1 = .tuple #[] ∧ (J l r.2 ∨ D r.2) := by
    have hlen := (Lst.items s3).len len58
    have hget : ∀ i (hi : i < l.length) W', (W1.next ≤ W'.next ∧ ∀ b, W.next ≤ b → b < W1.next → W'.get b = W1.get b) → ∃ p, (∀ W2 kk, ixS 3 v (.int kk (i : Int)) W2 = some (p, W2)) ∧ ldA 3 p W' = some (.agg #[.int .i64 l[i].1, .int .i64 l[i].2.1, .int .i64 l[i].2.2], W') := by
      intro i hi W' ⟨hn', hg'⟩
      rcases s3 with ⟨h0, e⟩ | ⟨h0, B, b1, b2, e, b3⟩
      · subst h0; simp at hi
      · subst e
        refine ⟨.pointer (some ⟨B, i * 3, none⟩), fun W2 kk => by rw [ixS_ok hi, Nat.zero_add], ?_⟩
        have hc : cellsAt W' B = some (l.flatMap itC) := cellsAt_of ((hg' B b1 b2).trans b3)
        have e : l.flatMap itC = (l.take i).flatMap itC ++ (itC l[i] ++ (l.drop (i + 1)).flatMap itC) := by
          rw [← List.flatMap_cons, ← List.drop_eq_getElem_cons hi, ← List.flatMap_append, List.take_append_drop]
        have e2 : ((l.take i).flatMap itC).length = i * 3 := by rw [flatMap_len itC_len, List.length_take, Nat.min_eq_left (by omega)]
        have e3 : ((l.flatMap itC).drop (i * 3)).take 3 = [.int .i64 l[i].1, .int .i64 l[i].2.1, .int .i64 l[i].2.2] := by
          rw [e, ← e2, List.drop_left]
          rfl
        have := ldA_ok (n := 3) (o := i * 3) hc (by rw [e3]; rfl)
        rw [e3] at this
        exact this
    have hl' : l.length ≤ 10000 := by rw [s4.perm.length_eq, List.length_map, all_len]; exact hn
    unfold heaps_Queueapi_HoEntry_All_1
    simp only [SX, ldR (o := 0) (rwOf hX) rfl, hm, s1, hlen]
    refine Ok_loop l.length (by omega) (fun k R W' => R 0 = y ∧ R 9 = v ∧ R 10 = .int .i64 (l.length : Int) ∧ R 11 = .int .i64 (k : Int) ∧ J (l.take k) W')
      (fun r => (r.1 = .exit 0 ∧ J l r.2.2) ∨ (r.1 = .ret ∧ D r.2.2)) ⟨rfl, rfl, rfl, rfl, by rw [List.take_zero]; exact h0⟩ ?_ ?_ ?_
    · rintro k R W' hk' ⟨r0, r9, r10, r11, hJ⟩
      unfold heaps_Queueapi_HoEntry_All_1_L1
      obtain ⟨p, f1, f2⟩ := hget k hk' W' (hk _ _ hJ)
      have t1 : ((k : Int) < (l.length : Int)) := by omega
      have t2 := fun W' => oBin_add (P := Tryz.prog) (W := W') (t := 3) (c := false) (d := true) (a := (k : Int)) (b := 1) (by omega) (by omega)
      have e2 : setN [Value.int .i64 0, .int .i64 0, .int .i64 0] 0 [.int .i64 l[k].1, .int .i64 l[k].2.1, .int .i64 l[k].2.2] = [.int .i64 l[k].1, .int .i64 l[k].2.1, .int .i64 l[k].2.2] := rfl
      have st : stV 3 (.pointer (some ⟨W'.next, 0, none⟩)) (.agg #[.int .i64 l[k].1, .int .i64 l[k].2.1, .int .i64 l[k].2.2]) (W'.add (.cells [.int .i64 0, .int .i64 0, .int .i64 0])) = some (undef, W'.add (.cells [.int .i64 l[k].1, .int .i64 l[k].2.1, .int .i64 l[k].2.2])) := by
        rw [stV_agg, rwCells_new, Option.bind_some, if_pos ⟨rfl, by simp, rfl⟩, add_put]
        rfl
      have a1 : ldC (.pointer (some ⟨W'.next, 0, none⟩)) (W'.add (.cells [.int .i64 l[k].1, .int .i64 l[k].2.1, .int .i64 l[k].2.2])) = some (.int .i64 l[k].1, W'.add (.cells [.int .i64 l[k].1, .int .i64 l[k].2.1, .int .i64 l[k].2.2])) := ldR rwCells_new rfl
      have a2 : ldA 2 (.pointer (some ⟨W'.next, 1, none⟩)) (W'.add (.cells [.int .i64 l[k].1, .int .i64 l[k].2.1, .int .i64 l[k].2.2])) = some (hoV l[k].2, W'.add (.cells [.int .i64 l[k].1, .int .i64 l[k].2.1, .int .i64 l[k].2.2])) := ldA_ok cellsAt_new rfl
      have hpre : l.take k ++ [l[k]] <+: l := by rw [← List.take_succ_eq_append_getElem hk']; exact List.take_prefix _ _
      obtain ⟨r, W2, y1, y2, y3⟩ := step _ _ _ [.int .i64 l[k].1, .int .i64 l[k].2.1, .int .i64 l[k].2.2] hpre hJ
      cases r
      · simp only [SX, r0, r9, r10, r11, t1, f1, f2, al65, st, Nat.zero_add, a1, a2, y1, Ok_some]
        exact .inr ⟨by simp, .inr ⟨trivial, y3 rfl⟩⟩
      · simp only [SX, r0, r9, r10, r11, t1, f1, f2, al65, st, Nat.zero_add, a1, a2, y1, t2, Ok_some]
        refine .inl ⟨trivial, r0, r9, r10, by rw [show ((k + 1 : Nat) : Int) = (k : Int) + 1 by omega]; rfl, ?_⟩
        rw [List.take_succ_eq_append_getElem hk']
        exact y2 rfl
    · rintro R W' ⟨r0, r9, r10, r11, hJ⟩
      unfold heaps_Queueapi_HoEntry_All_1_L1
      have t1 : ¬ ((l.length : Int) < (l.length : Int)) := by omega
      simp only [SX, r0, r9, r10, r11, t1, Ok_some]
      rw [List.take_length] at hJ
      exact ⟨by simp, .inl ⟨trivial, hJ⟩⟩
    · rintro ⟨x, R, W'⟩ hq
      simp only at hq
      rcases hq with ⟨rfl, hq⟩ | ⟨rfl, hq⟩
      · simp only [SX, Ok_some]
        exact ⟨trivial, .inl hq⟩
      · simp only [SX, Ok_some]
        exact ⟨trivial, .inr hq⟩
  obtain ⟨⟨r, W'⟩, k1, k2, k3⟩ := main
  simp only at k2 k3
  subst k2
  exact ⟨W', by rw [heaps_Queueapi_HoEntry_All_1_om k1, gc_not rfl], k3⟩
end
end Go.Proofs.YtkpgmabebjmahaaGreat.Ho
/- What ranges over a queue; walked, Same. -/
namespace Go.Proofs.YtkpgmabebjmahaaGreat.Ho
open Go Go.Eng Go.Hp
set_option linter.unusedVariables false
set_option linter.unusedSimpArgs false
set_option linter.unusedSectionVars false
set_option maxRecDepth 100000
section
variable {W : AW} {In : Nat → Prop} {q mh : Nat} {less : Value} {ls : Int × Int → Int × Int → Bool} {nx : Int} {n : Nat} {f : Nat → En}
theorem Ok_all {X nt : Nat} {R : Nat → Value} {ps : Array Tmp} {ac bd : Code} {ρ : Type} {K : Eng.X × AW → Option ρ} {G : ρ → Prop} (o : Ord (bef ls)) (hl : IsLess1 less ls) (hlz : ∀ D, liesD D less) (h : QS W In q mh less ls nx n f) (hn : n ≤ 10000) (hX : W.get X = some (.cells [qV q])) (hXl : X < W.next) (hp : ps.size = 2)
    (J : List (Int × (Int × Int)) → Nat → List (Int × (Int × Int)) → AW → Prop) (Q : Eng.X → AW → Prop)
    (fr : (Nat → Value) → Int × (Int × Int) → Nat → Nat → Value) (has : ∀ x W', kCode Tryz.prog omS false nt ac LT (zipGo ps.toList [.int .i64 x.1, hoV x.2] R) W' ret3 = some (.normal, fr R x W'.next, W'.add (.cells [.int .i64 x.2.1, .int .i64 x.2.2])))
    (h0 : ∀ l W1, Srt ls n f l → Le (W.add (.loop .ready none R nt ps ac bd)) W1 → J l W1.next [] W1)
    (hA : ∀ l N pre W' cs, J l N pre W' → W.next < N → N ≤ W'.next → J l N pre (W'.add (.cells cs)))
    (hP : ∀ l N pre W' b, J l N pre W' → J l N pre (W'.put W.next b)) (hQ : ∀ x W' b, Q x W' → Q x (W'.put W.next b))
    (step : ∀ l N pre x W' R' b, R' = fr R x b → W'.get b = some (.cells [.int .i64 x.2.1, .int .i64 x.2.2]) → N ≤ b → b < W'.next → Srt ls n f l → pre ++ [x] <+: l → J l N pre W' → W.next < N → N ≤ W'.next →
      Ok (kCode Tryz.prog omS false nt bd LT R' W' ret3) fun r => W'.next ≤ r.2.2.next ∧ (∀ b, W.next ≤ b → b < N → r.2.2.get b = W'.get b) ∧ ((r.1 = .normal ∧ J l N (pre ++ [x]) r.2.2) ∨ (r.1 ≠ .normal ∧ Q r.1 r.2.2)))
    (after : ∀ l N x W2, Srt ls n f l → (x = .normal ∧ J l N l W2) ∨ (x ≠ .normal ∧ Q x W2) → Ok (K (x, W2.kill W.next)) G) :
    Ok (bnd (oRange omS (.func (.func 45) #[] #[.pointer (some ⟨X, 0, none⟩)]) (.loop .ready none R nt ps ac bd) W) K) G := by
  generalize hWl : W.add (.loop .ready none R nt ps ac bd) = Wl at *
  have gl : ∀ b, b < W.next → Wl.get b = W.get b := fun b hb => by rw [← hWl]; exact AW.get_add_ne _ _ (by omega)
  have nl : Wl.next = W.next + 1 := by rw [← hWl, AW.add_next]
  have ll : Wl.get W.next = some (.loop .ready none R nt ps ac bd) := by rw [← hWl]; exact AW.get_add _ _
  have hL : QS Wl In q mh less ls nx n f := h.keep (by omega) (fun b hb _ => gl b hb) (fun b _ hi => hi)
  obtain ⟨l, W1, s1, s2, s3⟩ := all1_ok o hl hlz hL hn ((gl X hXl).trans hX) (y := .func (.yield W.next) #[] #[])
  have n1 : W.next < W1.next := by have := s2.next; omega
  obtain ⟨W2, k1, k2⟩ := s3
    (fun pre V => J l W1.next pre V ∧ V.get W.next = some (.loop .ready none R nt ps ac bd) ∧ W1.next ≤ V.next ∧ ∀ b, Wl.next ≤ b → b < W1.next → V.get b = W1.get b)
    (fun V => ∃ x, x ≠ .normal ∧ Q x V ∧ V.get W.next = some (.loop .done x.jump R nt ps ac bd))
    ⟨h0 l W1 s1 s2, (s2.get _ (by omega)).trans ll, Nat.le_refl _, fun b _ _ => rfl⟩ (fun pre V hV => hV.2.2)
    (fun pre x V cs hpre ⟨hJ, hget, hn1, hg⟩ => by
      have hJ1 := hA _ _ _ _ cs hJ n1 hn1
      have hJ2 := hP _ _ _ _ (.loop .busy none R nt ps ac bd) (hA _ _ _ _ [.int .i64 x.2.1, .int .i64 x.2.2] hJ1 n1 (by rw [AW.add_next]; omega))
      obtain ⟨⟨x1, R2, W3⟩, e1, e2, e3, e4⟩ := step l W1.next pre x _ _ (V.add (.cells cs)).next rfl (by rw [AW.get_put_ne _ _ (by rw [AW.add_next]; omega)]; exact AW.get_add _ _) (by rw [AW.add_next]; omega) (by simp only [AW.put_next, AW.add_next]; omega) s1 hpre hJ2 n1 (by rw [AW.put_next, AW.add_next, AW.add_next]; omega)
      simp only at e1 e2 e3 e4
      have hbusy : W3.get W.next = some (.loop .busy none R nt ps ac bd) := by rw [e3 _ (Nat.le_refl _) n1, AW.get_put]
      have hget1 : (V.add (.cells cs)).get W.next = some (.loop .ready none R nt ps ac bd) := by rw [AW.get_add_ne _ _ (by omega)]; exact hget
      have hget2 : ((V.add (.cells cs)).add (.cells [.int .i64 x.2.1, .int .i64 x.2.2])).get W.next = some (.loop .ready none R nt ps ac bd) := by rw [AW.get_add_ne _ _ (by rw [AW.add_next]; omega)]; exact hget1
      have hy := yield_gen (P := Tryz.prog) (args := [.int .i64 x.1, hoV x.2]) hget1 (by rw [hp]; rfl) (has x _) hget2 e1 hbusy
      have hn3 : W1.next ≤ W3.next := by rw [AW.put_next, AW.add_next, AW.add_next] at e2; omega
      have hg3 : ∀ o' b, Wl.next ≤ b → b < W1.next → (W3.put W.next o').get b = W1.get b := fun o' b hb1 hb2 => by
        rw [AW.get_put_ne _ _ (by omega), e3 b (by omega) hb2, AW.get_put_ne _ _ (by omega), AW.get_add_ne _ _ (by rw [AW.add_next]; omega), AW.get_add_ne _ _ (by omega)]
        exact hg b hb1 hb2
      rcases e4 with ⟨rfl, e4⟩ | ⟨kx, e4⟩
      · exact ⟨true, _, hy, fun _ => ⟨hP _ _ _ _ _ e4, AW.get_put _ _ _, by rw [AW.put_next]; exact hn3, hg3 _⟩, fun h => by cases h⟩
      · refine ⟨false, W3.put W.next (.loop .done x1.jump R nt ps ac bd), ?_, fun h => by (cases h), fun _ => ⟨x1, kx, hQ _ _ _ e4, AW.get_put _ _ _⟩⟩
        refine hy.trans ?_
        cases x1 with
        | normal => exact absurd rfl kx
        | exit i => rfl
        | ret => rfl)
  rcases k2 with ⟨k2, k3, -⟩ | ⟨x, k2, k3, k4⟩
  · rw [range_normal (by rw [hWl]; exact k1) k3 (by simp), bnd_some]
    exact after l _ _ W2 s1 (.inl ⟨rfl, k2⟩)
  · rw [range_jump (by rw [hWl]; exact k1) k4, bnd_some]
    exact after l W1.next _ W2 s1 (.inr ⟨k2, k3⟩)
end
end Go.Proofs.YtkpgmabebjmahaaGreat.Ho
/- What is sorted is one; Same. -/
namespace Go.Proofs.YtkpgmabebjmahaaGreat
open Go Go.Eng Go.Hp
set_option linter.unusedVariables false
set_option linter.unusedSimpArgs false
set_option linter.unusedSectionVars false
set_option maxRecDepth 100000
theorem Items.get {W : AW} {v : Value} {l : List (Int × Int)} (h : Items W v l) {i : Nat} (hi : i < l.length) :
    ∃ b o, (∀ W' k, ixS 2 v (.int k (i : Int)) W' = some (.pointer (some ⟨b, o, none⟩), W')) ∧ b < W.next ∧ ∀ W', W'.get b = W.get b → ldA 2 (.pointer (some ⟨b, o, none⟩)) W' = some (.agg #[.int .i64 l[i].1, .int .i64 l[i].2], W') ∧ ldC (.pointer (some ⟨b, o, none⟩)) W' = some (.int .i64 l[i].1, W') := by
  obtain ⟨b, o, cs, h1, h2, h3, h4, h5⟩ := h.elem hi
  refine ⟨b, o, h1, h2, fun W' hg => ?_⟩
  have hc : cellsAt W' b = some cs := by
    have : cellsAt W' b = cellsAt W b := by unfold cellsAt; rw [hg]
    rw [this]; exact h3
  refine ⟨?_, ldC_ok hc h4⟩
  have e3 : (cs.drop o).take 2 = [.int .i64 l[i].1, .int .i64 l[i].2] := by
    obtain ⟨a1, a2⟩ := List.getElem?_eq_some_iff.1 h4
    obtain ⟨b1, b2⟩ := List.getElem?_eq_some_iff.1 h5
    rw [List.drop_eq_getElem_cons a1, List.drop_eq_getElem_cons b1, a2, b2]
    rfl
  have := ldA_ok (n := 2) (o := o) hc (by rw [e3]; rfl)
  rw [e3] at this
  exact this
end Go.Proofs.YtkpgmabebjmahaaGreat
/- HeapsHandles: what it rests on. -/
namespace Go.Proofs.YtkpgmabebjmahaaGreat
open Go Go.Eng Go.Hp
set_option linter.unusedVariables false
set_option linter.unusedSimpArgs false
set_option linter.unusedSectionVars false
set_option maxRecDepth 100000
/-! ### one push and its removal -/
section
variable {W : AW} {In : Nat → Prop} {q mh : Nat} {less : Value} {ls : Int → Int → Bool} {nx : Int} {n : Nat} {f : Nat → En}
end
end Go.Proofs.YtkpgmabebjmahaaGreat
/- HeapsHandles: at every kind, numbers and pair. -/
namespace Go.Proofs.YtkpgmabebjmahaaGreat
open Go Go.Eng Go.Hp
set_option linter.unusedVariables false
set_option linter.unusedSimpArgs false
set_option linter.unusedSectionVars false
set_option maxRecDepth 100000
theorem lz_of (k : Nat) (D : Nat → Prop) : liesD D (.func (.func k) #[] #[]) := liesD_func (by simp) (by simp)
end Go.Proofs.YtkpgmabebjmahaaGreat
/- Holds: Save; Same. -/
namespace Go.Proofs.YtkpgmabebjmahaaGreat.Ho
open Go Go.Eng Go.Hp
set_option linter.unusedVariables false
set_option linter.unusedSimpArgs false
set_option linter.unusedSectionVars false
set_option maxRecDepth 100000
theorem save1_ok (a b : Int × Int) (W : AW) : om1 (.func (.func 24) #[] #[]) [hoV a, hoV b] W = some (.int .i64 (cmpI a.1 b.1), W) := by
  refine om_drop rfl ?_ holds_Holds_Save_1_om1
  unfold holds_Holds_Save_1
  have oB : ∀ (v : Int × Int) W, oBox (hoV v) W = some (.pointer (some ⟨W.next, 0, none⟩), W.add (.cells [.int .i64 v.1, .int .i64 v.2])) := fun v W => oBox_agg _
  generalize hW2 : (W.add (.cells [.int .i64 a.1, .int .i64 a.2])).add (.cells [.int .i64 b.1, .int .i64 b.2]) = W2
  have n1 : (W.add (.cells [.int .i64 a.1, .int .i64 a.2])).next = W.next + 1 := AW.add_next _ _
  have xa : W2.get W.next = some (.cells [.int .i64 a.1, .int .i64 a.2]) := by rw [← hW2, AW.get_add_ne _ _ (by rw [n1]; omega)]; exact AW.get_add _ _
  have xb : W2.get (W.next + 1) = some (.cells [.int .i64 b.1, .int .i64 b.2]) := by
    rw [← hW2]
    have := (W.add (.cells [.int .i64 a.1, .int .i64 a.2])).get_add (.cells [.int .i64 b.1, .int .i64 b.2])
    rwa [n1] at this
  have l2 : Le W W2 := by rw [← hW2]; exact ((Le.refl _).add _).add _
  simp only [SX, oB, n1, hW2, Nat.zero_add, ldR (o := 0) (rwOf xa) rfl, ldR (o := 0) (rwOf xb) rfl, cmp_ok, Ok_some]
  exact ⟨trivial, l2⟩
theorem body84 : HasBody Tryz.prog 24 := ⟨_, _, Tryz.func24, by kernel_rfl, rfl⟩
theorem flatC (l : List (Int × Int)) : (l.map hoC).flatten = l.flatMap hoC := by
  induction l with
  | nil => rfl
  | cons a l ih => rw [List.map_cons, List.flatten_cons, ih]; rfl
theorem cmpI_lt (a b : Int) : cmpI a b < 0 ↔ a < b := by
  unfold cmpI
  repeat' split
  all_goals omega
theorem sortC_ok {V : AW} {l : List (Int × Int)} {B c : Nat} (h0 : l ≠ []) (hl : l.length ≤ 10000) (hB : V.get B = some (.cells (l.flatMap hoC))) : ∃ l' : List (Int × Int), l'.Perm l ∧ l'.Pairwise (fun a b => a.1 ≤ b.1) ∧ omS (.func (.func 23) #[] #[]) [.slice (some ⟨B, 0, none⟩) l.length c, .func (.func 24) #[] #[]] V = some (.tuple #[], V.put B (.cells (l'.flatMap hoC))) := by
  have hpos : 0 < l.length := List.length_pos_iff.2 h0
  have hO : OrdN l.length (fun i j => cmpI (l.getD i (0, 0)).1 (l.getD j (0, 0)).1) := ⟨fun i _ h => by rw [cmpI_lt] at h; omega, fun i j k _ _ _ h1 h2 => by rw [cmpI_lt] at *; omega, fun i j k _ _ _ h1 h2 => by rw [cmpI_lt] at *; omega⟩
  obtain ⟨l', e1, e2, e3⟩ := sortR_of l hoC (fun a b => decide (a.1 < b.1)) hO hpos fun i j hi hj => by
    rw [cmpI_lt]
    simp [List.getD_eq_getElem?_getD, hi, hj]
  refine ⟨l', e1, e2.imp fun {a b} h => by have := of_decide_eq_false h; omega, sort23_ok ?_⟩
  refine .inr ⟨B, c, l.map hoC, [], 24, #[], fun i j => cmpI (l.getD i (0, 0)).1 (l.getD j (0, 0)).1, ⟨?_, ?_, ?_, ?_, ?_, ?_, ?_, ?_, ?_, body84, ?_, ?_, ?_⟩⟩
  · intro h
    have := congrArg List.length h
    rw [List.length_map] at this
    simp at this; exact h0 this
  · rw [List.length_map]; omega
  · intro r hr
    obtain ⟨e, -, rfl⟩ := List.mem_map.1 hr
    rfl
  · intro r hr v hv
    obtain ⟨e, -, rfl⟩ := List.mem_map.1 hr
    simp only [hoC, List.mem_cons, List.not_mem_nil, or_false] at hv
    rcases hv with rfl | rfl <;> rfl
  · rw [List.length_map]
  · rw [flatC, List.append_nil]; exact hB
  · intro r hr v hv
    obtain ⟨e, -, rfl⟩ := List.mem_map.1 hr
    simp only [hoC, List.mem_cons, List.not_mem_nil, or_false] at hv
    exact liesD_plain (by rcases hv with rfl | rfl <;> rfl)
  · intro v hv; simp at hv
  · intro g hg; cases hg
  · intro i j hi hj
    rw [List.length_map] at hi hj
    rw [List.getElem_map, List.getElem_map]
    have e4 : ∀ x : Int × Int, elV true (hoC x) = hoV x := fun x => rfl
    rw [e4, e4]
    refine (ansOm_at (save1_ok _ _ _)).trans ?_
    simp [List.getD_eq_getElem?_getD, hi, hj]
  · rw [List.length_map]; exact hO
  · rw [e3, flatC, List.append_nil]
theorem al39 (W : AW) : oAlloc Tryz.prog 22 W = some (.pointer (some ⟨W.next, 0, none⟩), W.add (.cells [.slice none 0 0])) := Eq.trans (by kernel_rfl) rfl
theorem hv_len {ls : Int × Int → Int × Int → Bool} {n : Nat} {f : Nat → En} {l : List (Int × (Int × Int))} (h : Srt ls n f l) : l.length = n := by rw [h.perm.length_eq, List.length_map, all_len]
section
variable {W : AW} {In : Nat → Prop} {H q mh hm : Nat} {seats nx : Int} {n : Nat} {f : Nat → En}
theorem hSave_ok (h : HS W In H q mh hm seats nx n f) (hn : n ≤ 5000) :
    ∃ W' v, ∃ l : List (Int × Int), omS (.func (.func 8) #[] #[]) [hP H] W = some (v, W') ∧ Le W W' ∧ Lst W.next W' 2 hoC v l ∧ l.Perm (ents n f) ∧ l.Pairwise (fun a b => a.1 ≤ b.1) := by
  have main : Ok (holds_Holds_Save omS (hP H) W) fun r => ∃ l : List (Int × Int), (l.Perm (ents n f) ∧ l.Pairwise fun a b => a.1 ≤ b.1) ∧ Le W r.2 ∧ Lst W.next r.2 2 hoC r.1 l := by
    generalize hW1 : W.add (.cells [.slice none 0 0]) = W1
    have n1 : W1.next = W.next + 1 := by rw [← hW1, AW.add_next]
    have l1 : Le W W1 := by rw [← hW1]; exact (Le.refl _).add _
    have x1 : W1.get W.next = some (.cells [.slice none 0 0]) := by rw [← hW1]; exact AW.get_add _ _
    have h1 : HS W1 In H q mh hm seats nx n f := h.keep l1.next (fun b hb _ => l1.get b hb) (fun b _ hi => hi)
    generalize hW2 : W1.add (.cells [qV q]) = W2
    have n2 : W2.next = W1.next + 1 := by rw [← hW2, AW.add_next]
    have l2 : Le W1 W2 := by rw [← hW2]; exact (Le.refl _).add _
    have x2 : W2.get W.next = some (.cells [.slice none 0 0]) := (l2.get _ (by omega)).trans x1
    have y2 : W2.get W1.next = some (.cells [qV q]) := by rw [← hW2]; exact AW.get_add _ _
    have h2 : QS W2 _ q mh hF hoLs nx n f := h1.qs.keep l2.next (fun b hb _ => l2.get b hb) (fun b _ hi => hi)
    have e0 : ¬ seats = 0 := by have := h.sz; omega
    unfold holds_Holds_Save
    simp only [SX, pEq35, oNilCheck_ptr, Nat.zero_add, h.l0, e0, decide_false, al39, hW1, h1.l1, all_fn, hW2]
    refine Ok_all hoLs_ord hoLess1_ok (fun D => lz_of 33 D) h2 (by omega) y2 (by omega) rfl
      (fun l N pre V => pre <+: l ∧ W2.next < N ∧ N ≤ V.next ∧ (∀ b, b < W.next → V.get b = W.get b) ∧ ∃ out, V.get W.next = some (.cells [out]) ∧ Lst N V 2 hoC out (pre.map (·.2)))
      (fun _ _ => False) (fun R x b => rput (zipGo (#[20, 21] : Array Tmp).toList [.int .i64 x.1, hoV x.2] R) (some 5) (.pointer (some ⟨b, 0, none⟩))) ?_ ?_ ?_ ?_ (fun _ _ _ h => h) ?_ ?_
    · intro x W'
      rw [holds_Holds_Save_Y1a_eq]
      unfold holds_Holds_Save_Y1a
      have r21 : ∀ R : Nat → Value, zipGo (#[20, 21] : Array Tmp).toList [.int .i64 x.1, hoV x.2] R 21 = hoV x.2 := fun R => rfl
      have st := st43 x.2 (AW.get_add W' (.cells [.int .i64 0, .int .i64 0]))
      rw [add_put] at st
      simp only [SX, al43, r21, st]
    · intro l V hs hle
      have hn' := hle.next
      rw [AW.add_next] at hn'
      have hg : ∀ b, b < W2.next → V.get b = W2.get b := fun b hb => by rw [hle.get b (by rw [AW.add_next]; omega), AW.get_add_ne _ _ (by omega)]
      exact ⟨List.nil_prefix, by omega, Nat.le_refl _, fun b hb => by rw [hg b (by omega), l2.get b (by omega), l1.get b hb], _, by rw [hg _ (by omega)]; exact x2, .nil _ _ _ _⟩
    · rintro l N pre V cs ⟨a1, a2, a3, a4, out, a5, a6⟩ - -
      exact ⟨a1, a2, by rw [AW.add_next]; omega, fun b hb => by rw [AW.get_add_ne _ _ (by omega)]; exact a4 b hb, out, by rw [AW.get_add_ne _ _ (by omega)]; exact a5, a6.mono ((Le.refl _).add _)⟩
    · rintro l N pre V b ⟨a1, a2, a3, a4, out, a5, a6⟩
      exact ⟨a1, a2, by rw [AW.put_next]; omega, fun b hb => by rw [AW.get_put_ne _ _ (by omega)]; exact a4 b hb, out, by rw [AW.get_put_ne _ _ (by omega)]; exact a5, lst_at a6 fun b hb1 hb2 => ⟨by rw [AW.put_next]; exact hb2, AW.get_put_ne _ _ (by omega)⟩⟩
    · rintro l N pre x V R' bb hR hbb hbN hbV hs hpre ⟨a1, a2, a3, a4, out, a5, a6⟩ b1 b2
      have hlen := hpre.length_le
      rw [List.length_append, hv_len hs] at hlen
      simp only [List.length_cons, List.length_nil] at hlen
      rw [holds_Holds_Save_Y1b_eq]
      unfold holds_Holds_Save_Y1b
      obtain ⟨v', W4, p1, p2, p3, p4⟩ := lst_push (a := x.2) (b := V.next) (c := 1) ap39 hoC_len hoC_one (a6.mono ((Le.refl V).add (.cells (hoC x.2)))) cellsAt_new (by rw [List.length_map]; omega) (by rw [List.length_map]; omega) (by rw [AW.add_next]; omega)
      have p1' : aAppend Tryz.prog (V.add (.cells [.int .i64 x.2.1, .int .i64 x.2.2])) #[22, 22] out (.slice (some ⟨V.next, 0, none⟩) 1 1) = some (v', W4) := p1
      obtain ⟨a, c, rfl⟩ := lst_slice p2
      have g4 : ∀ b, b < N → W4.get b = V.get b := fun b hb => by rw [p4 b hb, AW.get_add_ne _ _ (by omega)]
      have x4 := (g4 W.next (by omega)).trans a5
      have st := stA (v := .slice a (pre.map (·.2) ++ [x.2]).length c) (o := 0) x4 (by simp) rfl rfl
      rw [show ([out] : List Value).set 0 (.slice a (pre.map (·.2) ++ [x.2]).length c) = [.slice a (pre.map (·.2) ++ [x.2]).length c] from rfl] at st
      rw [AW.add_next] at p3
      have g5 : ∀ b, b ≠ W.next → (W4.put W.next (.cells [.slice a (pre.map (·.2) ++ [x.2]).length c])).get b = W4.get b := fun b hb => AW.get_put_ne _ _ (Ne.symm hb)
      have x5 : (W4.put W.next (.cells [.slice a (pre.map (·.2) ++ [x.2]).length c])).get W.next = some (.cells [.slice a (pre.map (·.2) ++ [x.2]).length c]) := AW.get_put _ _ _
      have r3 : R' 3 = .pointer (some ⟨W.next, 0, none⟩) := by rw [hR]; rfl
      have r5 : R' 5 = .pointer (some ⟨bb, 0, none⟩) := by rw [hR]; rfl
      simp only [SX, r3, r5, ldR (o := 0) (rwOf a5) rfl, ld43 hbb, bs39, p1', st, Ok_some]
      refine ⟨by rw [AW.put_next]; omega, fun b hb1 hb2 => by rw [g5 b (by omega)]; exact g4 b hb2, .inl ⟨trivial, hpre, a2, by rw [AW.put_next]; omega, fun b hb => ?_, _, x5, ?_⟩⟩
      · rw [g5 b (by omega), g4 b (by omega)]
        exact a4 b hb
      · rw [List.map_append]
        exact lst_at p2 fun b hb1 hb2 => ⟨by rw [AW.put_next]; exact hb2, g5 b (by omega)⟩
    · rintro l N x V hs hV
      rcases hV with ⟨rfl, a1, a2, a3, a4, out, a5, a6⟩ | ⟨-, hV⟩
      · have gk : ∀ b, b ≠ W2.next → (V.kill W2.next).get b = V.get b := fun b hb => AW.get_kill_ne _ (Ne.symm hb)
        have nk : (V.kill W2.next).next = V.next := AW.kill_next _ _
        generalize V.kill W2.next = U at gk nk
        have x5 : U.get W.next = some (.cells [out]) := by rw [gk _ (by omega)]; exact a5
        have hU : Lst N U 2 hoC out (l.map (·.2)) := lst_at a6 fun b hb1 hb2 => ⟨by omega, gk b (by omega)⟩
        have hleU : Le W U := ⟨by omega, fun b hb => by rw [gk b (by omega)]; exact a4 b hb⟩
        have hpe : (l.map (·.2)).Perm (ents n f) := by
          have := hs.perm.map (·.2)
          rw [List.map_map] at this
          exact this
        have hll : (l.map (·.2)).length = n := by rw [List.length_map, hv_len hs]
        generalize l.map (·.2) = l2' at hU hpe hll
        by_cases hl0 : l2' = []
        · subst hl0
          have hout : out = .slice none 0 0 := by
            rcases hU with ⟨-, e⟩ | ⟨e, -⟩
            · exact e
            · exact absurd rfl e
          subst hout
          have hso : omS (.func (.func 23) #[] #[]) [.slice none 0 0, .func (.func 24) #[] #[]] U = some (.tuple #[], U) := sort23_ok (.inl ⟨none, 0, _, rfl, rfl⟩)
          simp only [SX, ldR (o := 0) (rwOf x5) rfl, hso, Ok_some]
          exact ⟨[], ⟨hpe, .nil⟩, hleU, .nil _ _ _ _⟩
        · rcases hU with ⟨e, -⟩ | ⟨-, B, b1, b2, rfl, b3⟩
          · exact absurd e hl0
          · obtain ⟨l3, s1, s2, s3⟩ := sortC_ok (V := U) (c := BIG + 2) hl0 (by omega) b3
            have x6 : (U.put B (.cells (l3.flatMap hoC))).get W.next = some (.cells [.slice (some ⟨B, 0, none⟩) l2'.length (BIG + 2)]) := by rw [AW.get_put_ne _ _ (by omega)]; exact x5
            simp only [SX, ldR (o := 0) (rwOf x5) rfl, s3, ldR (o := 0) (rwOf x6) rfl, Ok_some]
            refine ⟨l3, ⟨s1.trans hpe, s2⟩, ⟨by rw [AW.put_next]; exact hleU.next, fun b hb => by rw [AW.get_put_ne _ _ (by omega)]; exact hleU.get b hb⟩, .inr ⟨fun e => hl0 (by subst e; exact List.nil_perm.1 s1), B, by omega, by rw [AW.put_next]; exact b2, by rw [s1.length_eq], AW.get_put _ _ _⟩⟩
      · exact hV.elim
  obtain ⟨⟨v, W'⟩, k0, l, k1, k2⟩ := main
  obtain ⟨v2, W2, k3, k4, k5⟩ := om_lst ⟨(v, W'), k0, k2⟩ holds_Holds_Save_om
  exact ⟨W2, v2, l, k3, k4, k5, k1.1, k1.2⟩
end
end Go.Proofs.YtkpgmabebjmahaaGreat.Ho
/- Holds: calls that put, move and drop; Same. -/
namespace Go.Proofs.YtkpgmabebjmahaaGreat.Ho
open Go Go.Eng Go.Hp
set_option linter.unusedVariables false
set_option linter.unusedSimpArgs false
set_option linter.unusedSectionVars false
set_option maxRecDepth 100000
theorem g43 : Tryz.prog.eqGuardType Tryz.prog.depth 43 = false := by kernel_rfl
theorem q43 (a b a' b' : Int) : aEqS Tryz.prog 8 43 (.agg #[.int .i64 a, .int .i64 b]) (.agg #[.int .i64 a', .int .i64 b']) = eqAll [(a, a'), (b, b')] := by kernel_rfl
theorem neq43 (x y : Int × Int) (c d : Bool) (W : AW) : oBin Tryz.prog .neq 43 c d (hoV x) (hoV y) W = some (.bool (!decide (x = y)), W) := by
  refine oBin_agg_neq g43 ((q43 ..).trans ?_)
  rw [eqAll_eq]
  congr 1
  simp only [List.all_cons, List.all_nil, Bool.and_true]
  rw [Bool.eq_iff_iff]
  obtain ⟨x1, x2⟩ := x
  obtain ⟨y1, y2⟩ := y
  simp
theorem eql43 (x y : Int × Int) (c d : Bool) (W : AW) : oBin Tryz.prog .eql 43 c d (hoV x) (hoV y) W = some (.bool (decide (x = y)), W) := by
  refine oBin_agg_eql g43 ((q43 ..).trans ?_)
  rw [eqAll_eq]
  congr 1
  simp only [List.all_cons, List.all_nil, Bool.and_true]
  rw [Bool.eq_iff_iff]
  obtain ⟨x1, x2⟩ := x
  obtain ⟨y1, y2⟩ := y
  simp
theorem Same17_ok {W : AW} {va vb : Value} {l m : List (Int × Int)} (ha : HoL W va l) (hb : HoL W vb m) (hl : l.length ≤ 10000) : omS (.func (.func 7) #[] #[]) [va, vb] W = some (.bool (decide (l = m)), W) := by
  refine om_drop rfl ?_ ref17_Same_om
  unfold ref17_Same
  simp only [SX, ha.len len39, hb.len len39]
  by_cases hlm : l.length = m.length
  case neg =>
    have e1 : ¬ ((l.length : Int) = (m.length : Int)) := by omega
    have e2 : ¬ l = m := fun h => hlm (by rw [h])
    simp only [SX, e1, e2, decide_false, Ok_some]
    exact ⟨trivial, .refl _⟩
  have e1 : ((l.length : Int) = (m.length : Int)) := by omega
  simp only [SX, e1]
  refine Ok_loop l.length (by omega) (fun k R W' => W' = W ∧ R 0 = va ∧ R 1 = vb ∧ R 5 = .int .i64 (k : Int) ∧ l.take k = m.take k)
    (fun r => (r.1 = .exit 0 ∧ r.2.2 = W ∧ l = m) ∨ (r.1 = .ret ∧ r.2.2 = W ∧ r.2.1 4 = .bool false ∧ ¬ l = m)) ⟨rfl, rfl, rfl, rfl, by simp⟩ ?_ ?_ ?_
  · rintro k R W' hk ⟨rfl, r0, r1, r5, hE⟩
    unfold ref17_Same_L1
    obtain ⟨b, o, i1, i2, i3⟩ := HoL.get ha hk
    obtain ⟨b', o', j1, j2, j3⟩ := HoL.get hb (show k < m.length by omega)
    have t1 : ((k : Int) < (l.length : Int)) := by omega
    have t2 := fun W' => oBin_add (P := Tryz.prog) (W := W') (t := 3) (c := false) (d := true) (a := (k : Int)) (b := 1) (by omega) (by omega)
    simp only [SX, r0, r1, r5, ha.len len39, t1, i1, (i3 _ rfl).1, j1, (j3 _ rfl).1, neq43]
    by_cases h : l[k] = m[k]
    · simp only [SX, h, t2, Ok_some]
      refine .inl ⟨trivial, trivial, r0, r1, by rw [show ((k + 1 : Nat) : Int) = (k : Int) + 1 by omega]; rfl, ?_⟩
      rw [List.take_succ_eq_append_getElem hk, List.take_succ_eq_append_getElem (show k < m.length by omega), hE, h]
    · simp only [SX, h, decide_false, Ok_some]
      exact .inr ⟨by simp, .inr ⟨trivial, trivial, rfl, fun e => h (by subst e; rfl)⟩⟩
  · rintro R W' ⟨rfl, r0, r1, r5, hE⟩
    unfold ref17_Same_L1
    have t1 : ¬ ((l.length : Int) < (l.length : Int)) := by omega
    simp only [SX, r0, r1, r5, ha.len len39, t1, Ok_some]
    refine ⟨by simp, .inl ⟨trivial, trivial, ?_⟩⟩
    rwa [List.take_length, hlm, List.take_length] at hE
  · rintro ⟨x, R, W'⟩ hq
    simp only at hq
    rcases hq with ⟨rfl, rfl, hq⟩ | ⟨rfl, rfl, r4, hq⟩
    · simp only [SX, hq, decide_true, Ok_some]
      exact ⟨trivial, .refl _⟩
    · simp only [SX, r4, hq, decide_false, Ok_some]
      exact ⟨trivial, .refl _⟩
/-! ### whatever is called -/
section
variable {W : AW} {In : Nat → Prop} {H q mh hm : Nat} {seats nx : Int} {n : Nat} {f : Nat → En}
theorem HS.which (h : HS W In H q mh hm seats nx n f) (s : Int) : (∃ i, i < n ∧ (f i).v.1 = s) ∨ ∀ i, i < n → (f i).v.1 ≠ s := by
  by_cases hx : ∃ i, i < n ∧ (f i).v.1 = s
  · exact .inl hx
  · exact .inr fun i hi e => hx ⟨i, hi, e⟩
end
def caAt (cs : List Value) (p : Nat) (x : Int × Int × Int) : Prop := cs[p]? = some (.int .u8 x.1) ∧ cs[p + 1]? = some (.int .i64 x.2.1) ∧ cs[p + 2]? = some (.int .i64 x.2.2)
abbrev Cas (W : AW) (v : Value) (l : List (Int × Int × Int)) : Prop := Row W 3 caAt v l
theorem len86 : ((#[23] : Array TypeId)[0]?).bind Tryz.prog.underlying = some (.slice 38) := by kernel_rfl
theorem Cas.get {W : AW} {v : Value} {l : List (Int × Int × Int)} (h : Cas W v l) {i : Nat} (hi : i < l.length) :
    ∃ b o, (∀ W' k, ixS 3 v (.int k (i : Int)) W' = some (.pointer (some ⟨b, o, none⟩), W')) ∧ ∀ W', Le W W' → ldC (.pointer (some ⟨b, o, none⟩)) W' = some (.int .u8 l[i].1, W') ∧ ldC (.pointer (some ⟨b, o + 1, none⟩)) W' = some (.int .i64 l[i].2.1, W') ∧ ldC (.pointer (some ⟨b, o + 2, none⟩)) W' = some (.int .i64 l[i].2.2, W') := by
  obtain ⟨b, o, cs, h1, h2, h3, h4, h5, h6⟩ := h.elem hi
  refine ⟨b, o, h1, fun W' hle => ?_⟩
  have hc : cellsAt W' b = some cs := by rw [hle.cellsAt h2]; exact h3
  exact ⟨ldC_ok hc h4, ldC_ok hc h5, ldC_ok hc h6⟩
end Go.Proofs.YtkpgmabebjmahaaGreat.Ho
/- The queue sorts: the code's answer. -/
namespace Go.Proofs.YtkpgmabebjmahaaGreat
open Go Go.Eng Go.Hp
set_option linter.unusedVariables false
set_option linter.unusedSimpArgs false
set_option linter.unusedSectionVars false
set_option maxRecDepth 100000
theorem Gr.mono {W W' : AW} {A B : Nat → Prop} (h : Gr W W' A) (hs : ∀ b, A b → B b) : Gr W W' B := ⟨h.next, fun b hb hn => h.get b hb fun ha => hn (hs b ha)⟩
end Go.Proofs.YtkpgmabebjmahaaGreat
/- HoldsDue: it answers true. -/
namespace Go.Proofs.YtkpgmabebjmahaaGreat.Ho
open Go Go.Eng Go.Hp
set_option linter.unusedVariables false
set_option linter.unusedSimpArgs false
set_option linter.unusedSectionVars false
set_option maxRecDepth 100000
/-! ### plain -/
/-- different seats -/
def Dif (l : List (Int × Int)) : Prop := (l.map (·.1)).Nodup
theorem Dif.perm {l m : List (Int × Int)} (h : Dif l) (hp : m.Perm l) : Dif m := ((hp.map (fun x : Int × Int => x.1)).nodup_iff).2 h
theorem Dif.eq {l : List (Int × Int)} (h : Dif l) {a b : Int × Int} (ha : a ∈ l) (hb : b ∈ l) (e : a.1 = b.1) : a = b := by
  unfold Dif at h
  rw [List.nodup_iff_pairwise_ne, List.pairwise_map] at h
  by_cases hab : a = b
  · exact hab
  · obtain ⟨i, hi, rfl⟩ := List.mem_iff_getElem.1 ha
    obtain ⟨j, hj, rfl⟩ := List.mem_iff_getElem.1 hb
    rw [List.pairwise_iff_getElem] at h
    rcases Nat.lt_trichotomy i j with hij | hij | hij
    · exact absurd e (h i j hi hj hij)
    · subst hij; rfl
    · exact absurd e.symm (h j i hj hi hij)
theorem HS.dif {W : AW} {In : Nat → Prop} {H q mh hm : Nat} {seats nx : Int} {n : Nat} {f : Nat → En} (h : HS W In H q mh hm seats nx n f) : Dif (ents n f) := by
  unfold Dif ents all
  rw [List.map_map, List.map_map, List.nodup_iff_pairwise_ne, List.pairwise_map]
  exact List.nodup_range.imp_of_mem fun {a b} ha hb hab e => hab (h.seat (List.mem_range.1 ha) (List.mem_range.1 hb) e)
/-- what is ascending by seats is one -/
theorem seat_uniq {l m : List (Int × Int)} (hp : l.Perm m) (hl : l.Pairwise fun a b => a.1 ≤ b.1) (hm : m.Pairwise fun a b => a.1 ≤ b.1) (hd : Dif m) : l = m := by
  refine List.Perm.eq_of_pairwise (le := fun a b => a.1 ≤ b.1) (fun a b ha hb h1 h2 => ?_) hl hm hp
  exact hd.eq (hp.mem_iff.1 ha) hb (by omega)
/-- what stays -/
def stay (now : Int) (l : List (Int × Int)) : List (Int × Int) := l.filter fun x => decide (now < x.2)
section
variable {V : AW} {ov bv av : Value} {lo lb la : List (Int × Int)} {R : PlanTab.Fr} {now : Int} {ρ : Type} {K : LT → Option ρ} {G : ρ → Prop}
end
end Go.Proofs.YtkpgmabebjmahaaGreat.Ho
/- Calls that are handed in, opened. -/
namespace Go.Proofs.YtkpgmabebjmahaaGreat.Ho
open Go Go.Eng Go.RowKit
set_option linter.unusedVariables false
set_option linter.unusedSimpArgs false
set_option maxRecDepth 100000
theorem ce97 : Tryz.prog.cellsOf 38 = 3 := by kernel_rfl
theorem ca_of {W : AW} {n : Nat} {c : List Value} (h : DR Tryz.prog W (n + 2) 38 c) : ∃ x : Int × Int × Int, ∀ pre post, caAt (pre ++ (c ++ post)) pre.length x := by
  obtain ⟨c1, c2, rfl, h1, h2⟩ := (h.struct Tryz.underlying38).cons
  obtain ⟨c3, c4, rfl, h3, h4⟩ := h2.cons
  obtain ⟨c5, c6, rfl, h5, h6⟩ := h4.cons
  obtain rfl := h6.nil
  obtain ⟨a, rfl⟩ := h1.int Tryz.underlying5
  obtain ⟨b, rfl⟩ := h3.int Tryz.underlying3
  obtain ⟨d, rfl⟩ := h5.int Tryz.underlying2
  refine ⟨⟨a, b, d⟩, fun pre post => ⟨?_, ?_, ?_⟩⟩
  · rw [List.getElem?_append_right (by omega)]; simp
  · rw [List.getElem?_append_right (by omega), Nat.add_sub_cancel_left]; rfl
  · rw [List.getElem?_append_right (by omega), Nat.add_sub_cancel_left]; rfl
theorem sim86 : simT Tryz.prog 5 23 = true := by kernel_rfl
section
variable {H : Type} {enc : TypeId × Value → H} {w : World} {σ : Inj} {W : AW} {v0 : Value} {d : DataW H} {p : List MemPlace} {r : Reach} {b0 : Nat}
theorem openCas (ho : Opened σ W w) (hv : Value.okWide Tryz.prog w r b0 23 v0) (h : DataW.Trod enc Tryz.prog w 0 (fun _ => true) true 23 v0 d p) :
    ∃ (σ2 : Inj) (W2 : AW) (l : List (Int × Int × Int)) (u : Value), Opened σ2 W2 w ∧ Sub σ σ2 ∧ Le W W2 ∧ VR σ2 u v0 ∧ Cas W2 u l := by
  obtain ⟨a, n, c, rfl⟩ := slice_of Tryz.underlying23 hv
  obtain ⟨m, hm⟩ := h
  obtain ⟨σ2, W2, cs2, o2, s2, l2, r2, a2⟩ := opens_trod sim86 hm σ W ho
  obtain ⟨u, l, rfl, hr⟩ := a2.row Tryz.underlying23 (at_ := caAt) (fun c _ hc => ca_of hc)
  have hvr : VR σ2 u (.slice a n c) := r2.2 0 _ _ rfl rfl
  rw [ce97] at hr
  exact ⟨σ2, W2, l, u, o2, s2, l2, hvr, hr.1⟩
end
end Go.Proofs.YtkpgmabebjmahaaGreat.Ho
