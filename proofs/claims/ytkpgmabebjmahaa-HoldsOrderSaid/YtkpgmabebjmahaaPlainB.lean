/- Contracts of functions, and their laws. -/
import Derived.Test.YtkpgmabebjmahaaPlainA
import Derived.Test.YtkpgmabebjmahaaOpnA
import Derived.KernelRfl
/- A queue's entries, sorted: what the library sorts. -/
namespace Go.Proofs.Ytkpgmabebjmahaa
open Go Go.Eng Go.Hp
set_option linter.unusedVariables false
set_option linter.unusedSimpArgs false
set_option linter.unusedSectionVars false
set_option maxRecDepth 100000
/-! ### items -/
def befP (ls : Int → Int → Bool) (a b : Int × Int) : Bool := ls a.2 b.2 || (!ls b.2 a.2 && decide (a.1 < b.1))
def itC (x : Int × Int) : List Value := [.int .i64 x.1, .int .i64 x.2]
def itAt (cs : List Value) (p : Nat) (x : Int × Int) : Prop := cs[p]? = some (.int .i64 x.1) ∧ cs[p + 1]? = some (.int .i64 x.2)
abbrev Items (W : AW) (v : Value) (l : List (Int × Int)) : Prop := Row W 2 itAt v l
theorem itC_len (x : Int × Int) : (itC x).length = 2 := rfl
theorem itC_one (x : Int × Int) : (itC x).all Eng.one = true := rfl
theorem itC_at (x : Int × Int) (pre post : List Value) : itAt (pre ++ (itC x ++ post)) pre.length x := by
  unfold itAt itC
  constructor
  · rw [List.getElem?_append_right (Nat.le_refl _), Nat.sub_self]; rfl
  · rw [List.getElem?_append_right (by omega), Nat.add_sub_cancel_left]; rfl
theorem Lst.items {lo : Nat} {W : AW} {v : Value} {l : List (Int × Int)} (h : Lst lo W 2 itC v l) : Items W v l := h.row itC_len itC_at
theorem ap58 : appOk Try.prog #[58, 58] 2 16 = true := by kernel_rfl
theorem bd65 (a b : Int) (W : AW) : oBuild Try.prog 65 [(0, .int .i64 a), (1, .int .i64 b)] W = some (.agg #[.int .i64 a, .int .i64 b], W) := Eq.trans (by kernel_rfl) rfl
theorem bs58 (a b : Int) (W : AW) : oBuildSlice Try.prog 58 1 [(0, .agg #[.int .i64 a, .int .i64 b])] W = some (.slice (some ⟨W.next, 0, none⟩) 1 1, W.add (.cells [.int .i64 a, .int .i64 b])) := Eq.trans (by kernel_rfl) rfl
theorem body102 : HasBody Try.prog 102 := ⟨_, _, Try.func102, by kernel_rfl, rfl⟩
/-- the order of the entries, as the library asks it -/
def cfE (ls : Int → Int → Bool) (f : Nat → En) (i j : Nat) : Int := if (f i).b = (f j).b then 0 else if bef ls (f i) (f j) then -1 else 1
theorem bef_trans {α : Type} {lt : α → α → Bool} (o : Ord lt) {a b c : α} (h1 : lt a b = true) (h2 : lt b c = true) : lt a c = true := by
  cases h : lt a c with
  | true => rfl
  | false =>
    have := o.neg b c a (o.asym _ _ h2) h
    rw [h1] at this; cases this
theorem cfE_lt {ls : Int → Int → Bool} (o : Ord (bef ls)) {f : Nat → En} {n : Nat} (hinj : ∀ i j, i < n → j < n → (f i).b = (f j).b → i = j) {i j : Nat} (hi : i < n) (hj : j < n) : cfE ls f i j < 0 ↔ bef ls (f i) (f j) = true := by
  unfold cfE
  by_cases h : (f i).b = (f j).b
  · obtain rfl := hinj i j hi hj h
    rw [if_pos rfl, ord_irr o]
    simp
  · rw [if_neg h]
    cases bef ls (f i) (f j) <;> simp
theorem cfE_ord {ls : Int → Int → Bool} (o : Ord (bef ls)) {f : Nat → En} {n : Nat} (hinj : ∀ i j, i < n → j < n → (f i).b = (f j).b → i = j) : OrdN n (cfE ls f) where
  irrefl i hi h := by
    rw [cfE_lt o hinj hi hi, ord_irr o] at h; cases h
  trans i j l hi hj hl h1 h2 := by
    rw [cfE_lt o hinj hi hj] at h1
    rw [cfE_lt o hinj hj hl] at h2
    rw [cfE_lt o hinj hi hl]
    exact bef_trans o h1 h2
  ntrans i j l hi hj hl h1 h2 := by
    rw [cfE_lt o hinj hi hj, Bool.not_eq_true] at h1
    rw [cfE_lt o hinj hj hl, Bool.not_eq_true] at h2
    rw [cfE_lt o hinj hi hl, Bool.not_eq_true]
    exact o.neg _ _ _ h2 h1
theorem flat1 (l : List En) : (l.map fun e => [enP e]).flatten = l.map enP := by
  induction l with
  | nil => rfl
  | cons a l ih => rw [List.map_cons, List.flatten_cons, ih]; rfl
theorem rowE_all (n : Nat) (f : Nat → En) : rowE n f = (all n f).map enP := by
  unfold rowE all
  rw [List.map_map]; rfl
section
variable {q : Nat} {lv less c2 c3 : Value} {n : Nat} {f : Nat → En} {bl : Option Nat} {ls : Int → Int → Bool}
/-- the entries of a copy are sorted -/
theorem sortE_ok (o : Ord (bef ls)) (hl : IsLess1 less ls) (hlz : ∀ D, liesD D less) {V : AW} (h : QP V q lv less c2 c3 n f bl) (hn : n ≤ 10000) (h0 : 0 < n) {b X : Nat} (hb : V.get b = some (.cells (rowE n f))) (hbl : b < V.next) (hbq : b ≠ q) (hbb : bl ≠ some b) (hbe : ∀ i, i < n → (f i).b ≠ b) (hX : V.get X = some (.cells [.pointer (some ⟨q, 0, none⟩)])) (hXl : X < V.next) (hXb : X ≠ b) :
    ∃ es : List En, es.Perm (all n f) ∧ es.Pairwise (fun x y => bef ls y x = false) ∧ omS (.func (.func 101) #[] #[]) [.slice (some ⟨b, 0, none⟩) n (BIG + 1), .func (.func 102) #[] #[.pointer (some ⟨X, 0, none⟩)]] V = some (.tuple #[], V.put b (.cells (es.map enP))) := by
  obtain ⟨hqc, hql, ⟨hsl, hen, hinj⟩, hbq', heq⟩ := h
  have hlen : (all n f).length = n := all_len n f
  have hget : ∀ i (hi : i < (all n f).length), (all n f)[i] = f i := fun i hi => by simp [all]
  obtain ⟨es, e1, e2, e3⟩ := sortR_of (all n f) (fun e => [enP e]) (bef ls) (cf := cfE ls f) (by rw [hlen]; exact cfE_ord o hinj) (by omega) fun i j hi hj => by
    rw [hget, hget]
    exact cfE_lt o hinj (by omega) (by omega)
  refine ⟨es, e1, e2, ?_⟩
  -- what the view holds
  have vQ : ∃ r, cellsAt (roV V b) q = some ([lv, less] ++ r) := by
    obtain ⟨r, hr⟩ := roV_has (W := V) (b0 := b) (x := q) (cs := [lv, less]) (rest := [c2, c3]) (.inl hqc) hql (Ne.symm hbq) fun v hv => by
      rcases List.mem_cons.1 hv with rfl | hv
      · cases hsl with
        | nil h0 => exact liesD_snil
        | row bl junk h1 h2 h3 => exact liesD_slice ⟨fun e => hbb (congrArg some e), _, .inl h1⟩
      · obtain rfl := List.mem_singleton.1 hv
        exact hlz _
    exact ⟨r, by unfold cellsAt; rw [hr]⟩
  obtain ⟨rq, vQ⟩ := vQ
  have vX : ∃ r, cellsAt (roV V b) X = some ([.pointer (some ⟨q, 0, none⟩)] ++ r) := by
    obtain ⟨r, hr⟩ := roV_has (W := V) (b0 := b) (x := X) (cs := [.pointer (some ⟨q, 0, none⟩)]) (rest := []) (.inl hX) hXl hXb fun v hv => by
      obtain rfl := List.mem_singleton.1 hv
      exact liesD_ptr ⟨Ne.symm hbq, _, .inl hqc⟩
    exact ⟨r, by unfold cellsAt; rw [hr]⟩
  obtain ⟨rX, vX⟩ := vX
  have vE : ∀ i, i < n → ∃ r, cellsAt (roV V b) (f i).b = some (.int .i64 (f i).h :: .int .i64 (f i).v :: r) := fun i hi => by
    obtain ⟨r, hr⟩ := roV_has (W := V) (b0 := b) (x := (f i).b) (cs := enC (f i) i) (rest := []) (.inl (by rw [List.append_nil]; exact (hen i hi).1)) (hen i hi).2 (hbe i hi) fun v hv => liesD_plain (by
      simp only [enC, List.mem_cons, List.not_mem_nil, or_false] at hv
      rcases hv with rfl | rfl | rfl <;> rfl)
    exact ⟨.int .i64 (i : Int) :: r, by unfold cellsAt; rw [hr]; rfl⟩
  have key : SortFA Try.prog (ansPtr om1 102 103) [] false 1 V [.slice (some ⟨b, 0, none⟩) n (BIG + 1), .func (.func 102) #[] #[.pointer (some ⟨X, 0, none⟩)]] (V.put b (.cells (es.map enP))) := by
    refine .inr ⟨b, BIG + 1, (all n f).map fun e => [enP e], [], 102, #[.pointer (some ⟨X, 0, none⟩)], cfE ls f, ⟨?_, ?_, ?_, ?_, ?_, ?_, ?_, ?_, ?_, body102, ?_, ?_, ?_⟩⟩
    · intro h
      have := congrArg List.length h
      rw [List.length_map, hlen] at this
      simp at this; omega
    · rw [List.length_map, hlen]; omega
    · intro r hr
      obtain ⟨e, -, rfl⟩ := List.mem_map.1 hr
      rfl
    · intro r hr v hv
      obtain ⟨e, -, rfl⟩ := List.mem_map.1 hr
      obtain rfl := List.mem_singleton.1 hv
      rfl
    · rw [List.length_map, hlen]
    · rw [flat1, List.append_nil, ← rowE_all]; exact hb
    · intro r hr v hv
      obtain ⟨e, he, rfl⟩ := List.mem_map.1 hr
      obtain rfl := List.mem_singleton.1 hv
      obtain ⟨i, hi, rfl⟩ := all_mem.1 he
      exact liesD_ptr ⟨hbe i hi, _, .inl (hen i hi).1⟩
    · intro v hv
      obtain rfl : v = .pointer (some ⟨X, 0, none⟩) := by simpa using hv
      exact liesD_ptr ⟨hXb, _, .inl hX⟩
    · intro g hg; cases hg
    · intro i j hi hj
      rw [List.length_map] at hi hj
      rw [List.getElem_map, List.getElem_map, hget, hget]
      rw [hlen] at hi hj
      obtain ⟨ri, hri⟩ := vE i hi
      obtain ⟨rj, hrj⟩ := vE j hj
      have hbo := pBefore1_ok (rq := rq) hl vQ hri hrj
      show ansPtr om1 102 103 V b 102 #[.pointer (some ⟨X, 0, none⟩)] (enP (f i)) (enP (f j)) = _
      unfold ansPtr cfE
      simp only [if_true, enP]
      rw [show (cellsAt (roV V b) X).bind (fun x => x[0]?) = some (.pointer (some ⟨q, 0, none⟩)) by rw [vX]; rfl]
      simp only
      by_cases hij : (f i).b = (f j).b
      · rw [if_pos (by rw [hij]), if_pos hij]
      · rw [if_neg (fun e => hij (by injection e)), if_neg hij, (hen i hi).1, (hen j hj).1]
        simp only
        rw [if_pos ⟨hij, by simp, by simp⟩]
        have hbo' : om1 (.func (.func 103) #[] #[]) [.pointer (some ⟨q, 0, none⟩), .pointer (some ⟨(f i).b, 0, none⟩), .pointer (some ⟨(f j).b, 0, none⟩)] (roV V b) = some (.bool (bef ls (f i) (f j)), roV V b) := hbo
        rw [hbo']
    · rw [List.length_map, hlen]; exact cfE_ord o hinj
    · rw [e3, flat1, List.append_nil]
  exact sort101_ok key
end
end Go.Proofs.Ytkpgmabebjmahaa
/- A queue's entries, sorted; Save. -/
namespace Go.Proofs.Ytkpgmabebjmahaa
open Go Go.Eng Go.Hp
set_option linter.unusedVariables false
set_option linter.unusedSimpArgs false
set_option linter.unusedSectionVars false
set_option maxRecDepth 100000
theorem len104 : ((#[104] : Array TypeId)[0]?).bind Try.prog.underlying = some (.slice 127) := by kernel_rfl
theorem Lst.low {α : Type} {lo lo' z : Nat} {W : AW} {f : α → List Value} {v : Value} {l : List α} (h : Lst lo W z f v l) (hl : lo' ≤ lo) : Lst lo' W z f v l := by
  rcases h with h | ⟨h0, B, h1, h2⟩
  · exact .inl h
  · exact .inr ⟨h0, B, by omega, h2⟩
theorem om_lst {α : Type} {o t : Option (Value × AW)} {W : AW} {lo z : Nat} {f : α → List Value} {l : List α} (h : Ok t fun r => Le W r.2 ∧ Lst lo r.2 z f r.1 l) (hom : ∀ {r}, t = some r → o = some (gc W r)) : ∃ v W2, o = some (v, W2) ∧ Le W W2 ∧ Lst lo W2 z f v l := by
  obtain ⟨⟨v, W'⟩, h1, h2, h3⟩ := h
  rcases h3 with ⟨rfl, rfl⟩ | ⟨h0, B, h4, h5, rfl, h6⟩
  · rcases gc_two (W := W) (W' := W') (.slice none 0 0) with hg | ⟨hg, hle⟩
    · exact ⟨_, W', by rw [hom h1]; exact congrArg some hg, h2, .nil _ _ _ _⟩
    · exact ⟨_, W, by rw [hom h1]; exact congrArg some hg, .refl _, .nil _ _ _ _⟩
  · exact ⟨_, W', by rw [hom h1, gc_not rfl], h2, .inr ⟨h0, B, h4, h5, rfl, h6⟩⟩
/-- sorted items of a queue -/
structure Srt (ls : Int → Int → Bool) (n : Nat) (f : Nat → En) (l : List (Int × Int)) : Prop where
  perm : l.Perm ((all n f).map hv)
  sort : l.Pairwise fun a b => befP ls b a = false
section
variable {W : AW} {In : Nat → Prop} {q mh : Nat} {less : Value} {ls : Int → Int → Bool} {nx : Int} {n : Nat} {f : Nat → En}
theorem sorted_ok (o : Ord (bef ls)) (hl : IsLess1 less ls) (hlz : ∀ D, liesD D less) (h : QS W In q mh less ls nx n f) (hn : n ≤ 10000) :
    ∃ W' v l, omS (.func (.func 67) #[] #[]) [qV q] W = some (v, W') ∧ Le W W' ∧ Lst W.next W' 2 itC v l ∧ Srt ls n f l := by
  have main : ∃ l, Srt ls n f l ∧ Ok (heaps_Queueint_sorted omS (qV q) W) fun r => Le W r.2 ∧ Lst W.next r.2 2 itC r.1 l := by
    obtain ⟨⟨lv, bl, h1, h2, h3⟩, -⟩ := h
    have oBoxP : ∀ W, oBox (qV q) W = some (.pointer (some ⟨W.next, 0, none⟩), W.add (.cells [qV q])) := fun W => rfl
    generalize hW1 : W.add (.cells [qV q]) = W1
    have g1 : ∀ b, b < W.next → W1.get b = W.get b := fun b hb => by rw [← hW1]; exact AW.get_add_ne _ _ (by omega)
    have n1 : W1.next = W.next + 1 := by rw [← hW1, AW.add_next]
    have l1 : Le W W1 := by rw [← hW1]; exact (Le.refl _).add _
    have x1 : W1.get W.next = some (.cells [qV q]) := by rw [← hW1]; exact AW.get_add _ _
    have q1 : QP W1 q lv less (.map (some mh)) (.int .i64 nx) n f bl := h1.keep (by omega) fun b hb _ => g1 b hb
    obtain ⟨v1, W2, c1, c2, c3⟩ := clone_ok q1.pile.sl hn
    have q2 : QP W2 q lv less (.map (some mh)) (.int .i64 nx) n f bl := q1.keep c2.next fun b hb _ => c2.get b hb
    have x2 : W2.get W.next = some (.cells [qV q]) := (c2.get _ (by omega)).trans x1
    have hbn : ∀ b, bl = some b → b < W1.next := fun b hb => q1.pile.sl.lt hb
    -- the sort
    have hs : ∃ (es : List En) (W3 : AW), es.Perm (all n f) ∧ es.Pairwise (fun x y => bef ls y x = false) ∧ omS (.func (.func 101) #[] #[]) [v1, .func (.func 102) #[] #[.pointer (some ⟨W.next, 0, none⟩)]] W2 = some (.tuple #[], W3) ∧ W3.next = W2.next ∧ (∀ b, b < W1.next → W3.get b = W2.get b) ∧
        (∀ W', oBuiltin Try.prog .len #[104] 3 #[false] [v1] W' = some (.int .i64 (n : Int), W')) ∧ ∀ i (hi : i < es.length), ∃ b, (∀ W' k, ixS 1 v1 (.int k (i : Int)) W' = some (.pointer (some ⟨b, i, none⟩), W')) ∧ ∀ W', Le W3 W' → ldC (.pointer (some ⟨b, i, none⟩)) W' = some (enP es[i], W') := by
      rcases c3 with ⟨rfl, a, c, rfl⟩ | ⟨h0, b, b1, b2, rfl, b3⟩
      · refine ⟨[], W2, .refl _, .nil, sort101_ok (.inl ⟨a, c, _, rfl, rfl⟩), rfl, fun _ _ => rfl, fun W' => len_slice len104 _ _ _, fun i hi => by simp at hi⟩
      · obtain ⟨es, e1, e2, e3⟩ := sortE_ok o hl hlz q2 hn h0 b3 b2 (by have := q1.lt; omega) (fun e => by have := hbn b e; omega) (fun i hi e => by have := (q1.pile.en i hi).2; omega) x2 (by have := c2.next; omega) (by omega)
        have hlen : es.length = n := by rw [e1.length_eq, all_len]
        refine ⟨es, _, e1, e2, e3, by rw [AW.put_next], fun d hd => AW.get_put_ne _ _ (by omega), fun W' => len_slice len104 _ _ _, fun i hi => ⟨b, fun W' k => by rw [ixS_ok (by omega), Nat.zero_add, Nat.mul_one], fun W' hle => ldR (rwOf (cs := es.map enP) ?_) ?_⟩⟩
        · rw [hle.get b (by rw [AW.put_next]; exact b2)]
          exact AW.get_put _ _ _
        · rw [List.getElem?_map, List.getElem?_eq_getElem hi]; rfl
    obtain ⟨es, W3, e1, e2, e3, n3, g3, e4, e5⟩ := hs
    have hlen : es.length = n := by rw [e1.length_eq, all_len]
    have l3 : Le W1 W3 := ⟨by rw [n3]; exact c2.next, fun b hb => by rw [g3 b hb]; exact c2.get b hb⟩
    have hcell : ∀ i (hi : i < es.length) W', Le W3 W' → ldC (.pointer (some ⟨es[i].b, 0, none⟩)) W' = some (.int .i64 es[i].h, W') ∧ ldC (.pointer (some ⟨es[i].b, 1, none⟩)) W' = some (.int .i64 es[i].v, W') := fun i hi W' hle => by
      obtain ⟨k, hk, e⟩ := all_mem.1 (e1.mem_iff.1 (List.getElem_mem hi))
      have hc : W'.get (f k).b = some (.cells (enC (f k) k)) := by
        have := q1.pile.en k hk
        rw [hle.get _ (Nat.lt_of_lt_of_le this.2 l3.next), l3.get _ this.2]
        exact this.1
      rw [← e]
      exact ⟨ldR (rwOf hc) rfl, ldR (rwOf hc) rfl⟩
    refine ⟨es.map hv, ⟨e1.map hv, by rw [List.pairwise_map]; exact e2⟩, ?_⟩
    unfold heaps_Queueint_sorted
    simp only [SX, oBoxP, hW1, ldR (o := 0) (rwOf x1) rfl, oNilCheck_ptr, Nat.zero_add, q1.l0, c1, e3, e4]
    refine Ok_loop n (by omega) (fun k R W' => ∃ out, R 16 = v1 ∧ R 17 = .int .i64 (n : Int) ∧ R 18 = .int .i64 (k : Int) ∧ R 4 = out ∧ Le W3 W' ∧ Lst W3.next W' 2 itC out ((es.take k).map hv))
      (fun r => r.1 = .exit 0 ∧ ∃ out, r.2.1 4 = out ∧ Le W3 r.2.2 ∧ Lst W.next r.2.2 2 itC out (es.map hv)) ⟨_, rfl, rfl, rfl, rfl, .refl _, .nil _ _ _ _⟩ ?_ ?_ ?_
    · rintro k R W' hk ⟨out, r16, r17, r18, r4, hle, hL⟩
      unfold heaps_Queueint_sorted_L1
      have hke : k < es.length := by omega
      obtain ⟨b, f1, f2⟩ := e5 k hke
      obtain ⟨d1, d2⟩ := hcell k hke W' hle
      have t1 : ((k : Int) < (n : Int)) := by omega
      have t2 := fun W' => oBin_add (P := Try.prog) (W := W') (t := 3) (c := false) (d := true) (a := (k : Int)) (b := 1) (by omega) (by omega)
      have hlt : ((es.take k).map hv).length = k := by rw [List.length_map, List.length_take]; omega
      obtain ⟨v', W4, p1, p2, p3, p4⟩ := (hL.mono ((Le.refl W').add (.cells (itC (hv es[k]))))).push (a := hv es[k]) (b := W'.next) (c := 1) ap58 itC_len itC_one cellsAt_new (by rw [hlt]; omega) (by rw [hlt]; omega) (by rw [AW.add_next]; have := hle.next; omega)
      simp only [SX, r16, r17, r18, r4, t1, f1, f2 W' hle, oNilCheck_ptr, Nat.zero_add, d1, d2, bd65, bs58]
      have p1' : aAppend Try.prog (W'.add (.cells [.int .i64 es[k].h, .int .i64 es[k].v])) #[58, 58] out (.slice (some ⟨W'.next, 0, none⟩) 1 1) = some (v', W4) := p1
      simp only [SX, p1', t2, Ok_some]
      refine .inl ⟨trivial, v', r16, r17, by rw [show ((k + 1 : Nat) : Int) = (k : Int) + 1 by omega]; rfl, rfl, p4 _ (hle.add _) (Nat.le_refl _), ?_⟩
      rw [List.take_succ_eq_append_getElem hke, List.map_append]
      exact p2
    · rintro R W' ⟨out, r16, r17, r18, r4, hle, hL⟩
      unfold heaps_Queueint_sorted_L1
      have t1 : ¬ ((n : Int) < (n : Int)) := by omega
      simp only [SX, r16, r17, r18, t1, Ok_some]
      rw [List.take_of_length_le (by omega)] at hL
      exact ⟨by simp, trivial, out, r4, hle, Lst.low hL (by have := l3.next; omega)⟩
    · rintro ⟨x, R, W'⟩ ⟨hx, out, r4, hle, hL⟩
      simp only at hx r4 hle hL
      subst hx
      simp only [SX, r4, Ok_some]
      exact ⟨(l1.trans l3).trans hle, hL⟩
  obtain ⟨l, hs, main⟩ := main
  obtain ⟨v, W2, k1, k2, k3⟩ := om_lst main heaps_Queueint_sorted_om
  exact ⟨W2, v, l, k1, k2, k3, hs⟩
end
end Go.Proofs.Ytkpgmabebjmahaa
/- A queue: Save, All. -/
namespace Go.Proofs.Ytkpgmabebjmahaa
open Go Go.Eng Go.Hp
set_option linter.unusedVariables false
set_option linter.unusedSimpArgs false
set_option linter.unusedSectionVars false
set_option maxRecDepth 100000
theorem al65 (W : AW) : oAlloc Try.prog 65 W = some (.pointer (some ⟨W.next, 0, none⟩), W.add (.cells [.int .i64 0, .int .i64 0])) := Eq.trans (by kernel_rfl) rfl
theorem len58 : ((#[58] : Array TypeId)[0]?).bind Try.prog.underlying = some (.slice 65) := by kernel_rfl
section
variable {W : AW} {In : Nat → Prop} {q mh : Nat} {less : Value} {ls : Int → Int → Bool} {nx : Int} {n : Nat} {f : Nat → En}
/-! ### All -/
theorem all_fn (W : AW) (q : Nat) : omS (.func (.func 23) #[] #[]) [qV q] W = some (.func (.func 66) #[] #[.pointer (some ⟨W.next, 0, none⟩)], W.add (.cells [qV q])) := by
  have oBoxP : ∀ W, oBox (qV q) W = some (.pointer (some ⟨W.next, 0, none⟩), W.add (.cells [qV q])) := fun W => rfl
  have : heaps_Queueint_All omS (qV q) W = some (.func (.func 66) #[] #[.pointer (some ⟨W.next, 0, none⟩)], W.add (.cells [qV q])) := by
    unfold heaps_Queueint_All
    simp only [SX, oBoxP]
  rw [heaps_Queueint_All_om this, gc_not rfl]
theorem all1_ok (o : Ord (bef ls)) (hl : IsLess1 less ls) (hlz : ∀ D, liesD D less) (h : QS W In q mh less ls nx n f) (hn : n ≤ 10000) {X : Nat} (hX : W.get X = some (.cells [qV q])) {y : Value} :
    ∃ l W1, Srt ls n f l ∧ Le W W1 ∧ ∀ (J : List (Int × Int) → AW → Prop) (D : AW → Prop), J [] W1 → (∀ pre W', J pre W' → W1.next ≤ W'.next ∧ ∀ b, W.next ≤ b → b < W1.next → W'.get b = W1.get b) →
      (∀ pre x W' cs, pre ++ [x] <+: l → J pre W' → ∃ r W2, omS y [.int .i64 x.1, .int .i64 x.2] (W'.add (.cells cs)) = some (.bool r, W2) ∧ (r = true → J (pre ++ [x]) W2) ∧ (r = false → D W2)) →
      ∃ W', omS (.func (.func 66) #[] #[.pointer (some ⟨X, 0, none⟩)]) [y] W = some (.tuple #[], W') ∧ (J l W' ∨ D W') := by
  have hm := made_ok h
  obtain ⟨W1, v, l, s1, s2, s3, s4⟩ := sorted_ok o hl hlz h hn
  refine ⟨l, W1, s4, s2, fun J D h0 hk step => ?_⟩
  have main : Ok (heaps_Queueint_All_1 omS y (.pointer (some ⟨X, 0, none⟩)) W) fun r => r.1 = .tuple #[] ∧ (J l r.2 ∨ D r.2) := by
    have hlen := (Lst.items s3).len len58
    have hget : ∀ i (hi : i < l.length) W', (W1.next ≤ W'.next ∧ ∀ b, W.next ≤ b → b < W1.next → W'.get b = W1.get b) → ∃ p, (∀ W2 kk, ixS 2 v (.int kk (i : Int)) W2 = some (p, W2)) ∧ ldA 2 p W' = some (.agg #[.int .i64 l[i].1, .int .i64 l[i].2], W') := by
      intro i hi W' ⟨hn', hg'⟩
      rcases s3 with ⟨h0, e⟩ | ⟨h0, B, b1, b2, e, b3⟩
      · subst h0; simp at hi
      · subst e
        refine ⟨.pointer (some ⟨B, i * 2, none⟩), fun W2 kk => by rw [ixS_ok hi, Nat.zero_add], ?_⟩
        have hc : cellsAt W' B = some (l.flatMap itC) := cellsAt_of ((hg' B b1 b2).trans b3)
        have e : l.flatMap itC = (l.take i).flatMap itC ++ (itC l[i] ++ (l.drop (i + 1)).flatMap itC) := by
          rw [← List.flatMap_cons, ← List.drop_eq_getElem_cons hi, ← List.flatMap_append, List.take_append_drop]
        have e2 : ((l.take i).flatMap itC).length = i * 2 := by rw [flatMap_len itC_len, List.length_take, Nat.min_eq_left (by omega)]
        have e3 : ((l.flatMap itC).drop (i * 2)).take 2 = [.int .i64 l[i].1, .int .i64 l[i].2] := by
          rw [e, ← e2, List.drop_left]
          rfl
        have := ldA_ok (n := 2) (o := i * 2) hc (by rw [e3]; rfl)
        rw [e3] at this
        exact this
    have hl' : l.length ≤ 10000 := by rw [s4.perm.length_eq, List.length_map, all_len]; exact hn
    unfold heaps_Queueint_All_1
    simp only [SX, ldR (o := 0) (rwOf hX) rfl, hm, s1, hlen]
    refine Ok_loop l.length (by omega) (fun k R W' => R 0 = y ∧ R 9 = v ∧ R 10 = .int .i64 (l.length : Int) ∧ R 11 = .int .i64 (k : Int) ∧ J (l.take k) W')
      (fun r => (r.1 = .exit 0 ∧ J l r.2.2) ∨ (r.1 = .ret ∧ D r.2.2)) ⟨rfl, rfl, rfl, rfl, by rw [List.take_zero]; exact h0⟩ ?_ ?_ ?_
    · rintro k R W' hk' ⟨r0, r9, r10, r11, hJ⟩
      unfold heaps_Queueint_All_1_L1
      obtain ⟨p, f1, f2⟩ := hget k hk' W' (hk _ _ hJ)
      have t1 : ((k : Int) < (l.length : Int)) := by omega
      have t2 := fun W' => oBin_add (P := Try.prog) (W := W') (t := 3) (c := false) (d := true) (a := (k : Int)) (b := 1) (by omega) (by omega)
      have e2 : setN [Value.int .i64 0, .int .i64 0] 0 [.int .i64 l[k].1, .int .i64 l[k].2] = [.int .i64 l[k].1, .int .i64 l[k].2] := rfl
      have st : stV 2 (.pointer (some ⟨W'.next, 0, none⟩)) (.agg #[.int .i64 l[k].1, .int .i64 l[k].2]) (W'.add (.cells [.int .i64 0, .int .i64 0])) = some (undef, W'.add (.cells [.int .i64 l[k].1, .int .i64 l[k].2])) := by
        rw [stV_agg, rwCells_new, Option.bind_some, if_pos ⟨rfl, by simp, rfl⟩, add_put]
        rfl
      have a1 : ldC (.pointer (some ⟨W'.next, 0, none⟩)) (W'.add (.cells [.int .i64 l[k].1, .int .i64 l[k].2])) = some (.int .i64 l[k].1, W'.add (.cells [.int .i64 l[k].1, .int .i64 l[k].2])) := ldR rwCells_new rfl
      have a2 : ldC (.pointer (some ⟨W'.next, 1, none⟩)) (W'.add (.cells [.int .i64 l[k].1, .int .i64 l[k].2])) = some (.int .i64 l[k].2, W'.add (.cells [.int .i64 l[k].1, .int .i64 l[k].2])) := ldR rwCells_new rfl
      have hpre : l.take k ++ [l[k]] <+: l := by rw [← List.take_succ_eq_append_getElem hk']; exact List.take_prefix _ _
      obtain ⟨r, W2, y1, y2, y3⟩ := step _ _ _ [.int .i64 l[k].1, .int .i64 l[k].2] hpre hJ
      cases r
      · simp only [SX, r0, r9, r10, r11, t1, f1, f2, al65, st, Nat.zero_add, a1, a2, y1, Ok_some]
        exact .inr ⟨by simp, .inr ⟨trivial, y3 rfl⟩⟩
      · simp only [SX, r0, r9, r10, r11, t1, f1, f2, al65, st, Nat.zero_add, a1, a2, y1, t2, Ok_some]
        refine .inl ⟨trivial, r0, r9, r10, by rw [show ((k + 1 : Nat) : Int) = (k : Int) + 1 by omega]; rfl, ?_⟩
        rw [List.take_succ_eq_append_getElem hk']
        exact y2 rfl
    · rintro R W' ⟨r0, r9, r10, r11, hJ⟩
      unfold heaps_Queueint_All_1_L1
      have t1 : ¬ ((l.length : Int) < (l.length : Int)) := by omega
      simp only [SX, r0, r9, r10, r11, t1, Ok_some]
      rw [List.take_length] at hJ
      exact ⟨by simp, .inl ⟨trivial, hJ⟩⟩
    · rintro ⟨x, R, W'⟩ hq
      simp only at hq
      rcases hq with ⟨rfl, hq⟩ | ⟨rfl, hq⟩
      · simp only [SX, Ok_some]
        exact ⟨trivial, .inl hq⟩
      · simp only [SX, Ok_some]
        exact ⟨trivial, .inr hq⟩
  obtain ⟨⟨r, W'⟩, k1, k2, k3⟩ := main
  simp only at k2 k3
  subst k2
  exact ⟨W', by rw [heaps_Queueint_All_1_om k1, gc_not rfl], k3⟩
end
end Go.Proofs.Ytkpgmabebjmahaa
/- What ranges over a queue; walked, Same. -/
namespace Go.Proofs.Ytkpgmabebjmahaa
open Go Go.Eng Go.Hp
set_option linter.unusedVariables false
set_option linter.unusedSimpArgs false
set_option linter.unusedSectionVars false
set_option maxRecDepth 100000
section
variable {W : AW} {In : Nat → Prop} {q mh : Nat} {less : Value} {ls : Int → Int → Bool} {nx : Int} {n : Nat} {f : Nat → En}
theorem Ok_all {X nt : Nat} {R : Nat → Value} {ps : Array Tmp} {ac bd : Code} {ρ : Type} {K : Eng.X × AW → Option ρ} {G : ρ → Prop} (o : Ord (bef ls)) (hl : IsLess1 less ls) (hlz : ∀ D, liesD D less) (h : QS W In q mh less ls nx n f) (hn : n ≤ 10000) (hX : W.get X = some (.cells [qV q])) (hXl : X < W.next) (hp : ps.size = 2)
    (J : List (Int × Int) → Nat → List (Int × Int) → AW → Prop) (Q : Eng.X → AW → Prop)
    (fr : (Nat → Value) → Int × Int → Nat → Value) (has : ∀ x W', kCode Try.prog omS false nt ac LT (zipGo ps.toList [.int .i64 x.1, .int .i64 x.2] R) W' ret3 = some (.normal, fr R x, W'))
    (h0 : ∀ l W1, Srt ls n f l → Le (W.add (.loop .ready none R nt ps ac bd)) W1 → J l W1.next [] W1)
    (hA : ∀ l N pre W' cs, J l N pre W' → W.next < N → N ≤ W'.next → J l N pre (W'.add (.cells cs)))
    (hP : ∀ l N pre W' b, J l N pre W' → J l N pre (W'.put W.next b)) (hQ : ∀ x W' b, Q x W' → Q x (W'.put W.next b))
    (step : ∀ l N pre x W' R', R' = fr R x → Srt ls n f l → pre ++ [x] <+: l → J l N pre W' → W.next < N → N ≤ W'.next →
      Ok (kCode Try.prog omS false nt bd LT R' W' ret3) fun r => W'.next ≤ r.2.2.next ∧ (∀ b, W.next ≤ b → b < N → r.2.2.get b = W'.get b) ∧ ((r.1 = .normal ∧ J l N (pre ++ [x]) r.2.2) ∨ (r.1 ≠ .normal ∧ Q r.1 r.2.2)))
    (after : ∀ l N x W2, Srt ls n f l → (x = .normal ∧ J l N l W2) ∨ (x ≠ .normal ∧ Q x W2) → Ok (K (x, W2.kill W.next)) G) :
    Ok (bnd (oRange omS (.func (.func 66) #[] #[.pointer (some ⟨X, 0, none⟩)]) (.loop .ready none R nt ps ac bd) W) K) G := by
  generalize hWl : W.add (.loop .ready none R nt ps ac bd) = Wl at *
  have gl : ∀ b, b < W.next → Wl.get b = W.get b := fun b hb => by rw [← hWl]; exact AW.get_add_ne _ _ (by omega)
  have nl : Wl.next = W.next + 1 := by rw [← hWl, AW.add_next]
  have ll : Wl.get W.next = some (.loop .ready none R nt ps ac bd) := by rw [← hWl]; exact AW.get_add _ _
  have hL : QS Wl In q mh less ls nx n f := h.keep (by omega) (fun b hb _ => gl b hb) (fun b _ hi => hi)
  obtain ⟨l, W1, s1, s2, s3⟩ := all1_ok o hl hlz hL hn ((gl X hXl).trans hX) (y := .func (.yield W.next) #[] #[])
  have n1 : W.next < W1.next := by have := s2.next; omega
  obtain ⟨W2, k1, k2⟩ := s3
    (fun pre V => J l W1.next pre V ∧ V.get W.next = some (.loop .ready none R nt ps ac bd) ∧ W1.next ≤ V.next ∧ ∀ b, Wl.next ≤ b → b < W1.next → V.get b = W1.get b)
    (fun V => ∃ x, x ≠ .normal ∧ Q x V ∧ V.get W.next = some (.loop .done x.jump R nt ps ac bd))
    ⟨h0 l W1 s1 s2, (s2.get _ (by omega)).trans ll, Nat.le_refl _, fun b _ _ => rfl⟩ (fun pre V hV => hV.2.2)
    (fun pre x V cs hpre ⟨hJ, hget, hn1, hg⟩ => by
      have hJ2 := hP _ _ _ _ (.loop .busy none R nt ps ac bd) (hA _ _ _ _ cs hJ n1 hn1)
      obtain ⟨⟨x1, R2, W3⟩, e1, e2, e3, e4⟩ := step l W1.next pre x _ _ rfl s1 hpre hJ2 n1 (by rw [AW.put_next, AW.add_next]; omega)
      simp only at e1 e2 e3 e4
      have hbusy : W3.get W.next = some (.loop .busy none R nt ps ac bd) := by rw [e3 _ (Nat.le_refl _) n1, AW.get_put]
      have hget1 : (V.add (.cells cs)).get W.next = some (.loop .ready none R nt ps ac bd) := by rw [AW.get_add_ne _ _ (by omega)]; exact hget
      have hy := yield_gen (P := Try.prog) (args := [.int .i64 x.1, .int .i64 x.2]) hget1 (by rw [hp]; rfl) (has x _) hget1 e1 hbusy
      have hn3 : W1.next ≤ W3.next := by rw [AW.put_next, AW.add_next] at e2; omega
      have hg3 : ∀ o' b, Wl.next ≤ b → b < W1.next → (W3.put W.next o').get b = W1.get b := fun o' b hb1 hb2 => by
        rw [AW.get_put_ne _ _ (by omega), e3 b (by omega) hb2, AW.get_put_ne _ _ (by omega), AW.get_add_ne _ _ (by omega)]
        exact hg b hb1 hb2
      rcases e4 with ⟨rfl, e4⟩ | ⟨kx, e4⟩
      · exact ⟨true, _, hy, fun _ => ⟨hP _ _ _ _ _ e4, AW.get_put _ _ _, by rw [AW.put_next]; exact hn3, hg3 _⟩, fun h => by cases h⟩
      · refine ⟨false, W3.put W.next (.loop .done x1.jump R nt ps ac bd), ?_, fun h => by (cases h), fun _ => ⟨x1, kx, hQ _ _ _ e4, AW.get_put _ _ _⟩⟩
        refine hy.trans ?_
        cases x1 with
        | normal => exact absurd rfl kx
        | exit i => rfl
        | ret => rfl)
  rcases k2 with ⟨k2, k3, -⟩ | ⟨x, k2, k3, k4⟩
  · rw [range_normal (by rw [hWl]; exact k1) k3 (by simp), bnd_some]
    exact after l _ _ W2 s1 (.inl ⟨rfl, k2⟩)
  · rw [range_jump (by rw [hWl]; exact k1) k4, bnd_some]
    exact after l W1.next _ W2 s1 (.inr ⟨k2, k3⟩)
end
end Go.Proofs.Ytkpgmabebjmahaa
/- walked, Same. -/
namespace Go.Proofs.Ytkpgmabebjmahaa
open Go Go.Eng Go.Hp
set_option linter.unusedVariables false
set_option linter.unusedSimpArgs false
set_option linter.unusedSectionVars false
set_option maxRecDepth 100000
theorem lst_push {α : Type} {P : Program} {W : AW} {ts : Array TypeId} {z bytes lo : Nat} {f : α → List Value} {v : Value} {l : List α} {a : α} (hk : appOk P ts z bytes = true) (hf : ∀ a, (f a).length = z) (h1 : ∀ a, (f a).all Eng.one = true)
    (h : Lst lo W z f v l) {b c : Nat} (hc : cellsAt W b = some (f a)) (hb : l.length + 1 < 1099511627776) (hb2 : (2 * (l.length + 1) + 192) * bytes ≤ 281474976710656) (hlo : lo ≤ W.next) :
    ∃ v' W', aAppend P W ts v (.slice (some ⟨b, 0, none⟩) 1 c) = some (v', W') ∧ Lst lo W' z f v' (l ++ [a]) ∧ W.next ≤ W'.next ∧ ∀ b, b < lo → W'.get b = W.get b := by
  obtain ⟨v', W', k1, k2, k3, k4⟩ := h.push hk hf h1 hc hb hb2 hlo
  refine ⟨v', W', k1, k2, k3, fun b hb => ?_⟩
  have := k4 ⟨W.heap, lo⟩ ⟨hlo, fun _ _ => rfl⟩ (Nat.le_refl _)
  exact this.get b hb
theorem lst_slice {α : Type} {lo z : Nat} {W : AW} {f : α → List Value} {v : Value} {l : List α} (h : Lst lo W z f v l) : ∃ a c, v = .slice a l.length c := by
  rcases h with ⟨rfl, rfl⟩ | ⟨_, B, _, _, rfl, _⟩ <;> exact ⟨_, _, rfl⟩
theorem lst_at {α : Type} {lo z : Nat} {W W' : AW} {f : α → List Value} {v : Value} {l : List α} (h : Lst lo W z f v l) (hn : ∀ b, lo ≤ b → b < W.next → b < W'.next ∧ W'.get b = W.get b) : Lst lo W' z f v l := by
  rcases h with h | ⟨h0, B, b1, b2, e, b3⟩
  · exact .inl h
  · exact .inr ⟨h0, B, b1, (hn B b1 b2).1, e, (hn B b1 b2).2.trans b3⟩
theorem hv_len {ls : Int → Int → Bool} {n : Nat} {f : Nat → En} {l : List (Int × Int)} (h : Srt ls n f l) : l.length = n := by rw [h.perm.length_eq, List.length_map, all_len]
section
variable {W : AW} {In : Nat → Prop} {q mh : Nat} {less : Value} {ls : Int → Int → Bool} {nx : Int} {n : Nat} {f : Nat → En}
end
end Go.Proofs.Ytkpgmabebjmahaa
/- Holds: Due. -/
namespace Go.Proofs.Ytkpgmabebjmahaa.Ho
open Go Go.Eng Go.Hp
set_option linter.unusedVariables false
set_option linter.unusedSimpArgs false
set_option linter.unusedSectionVars false
set_option maxRecDepth 100000
/-! ### lists of entries -/
def hoC (x : Int × Int) : List Value := [.int .i64 x.1, .int .i64 x.2]
def hoAt (cs : List Value) (p : Nat) (x : Int × Int) : Prop := cs[p]? = some (.int .i64 x.1) ∧ cs[p + 1]? = some (.int .i64 x.2)
abbrev HoL (W : AW) (v : Value) (l : List (Int × Int)) : Prop := Row W 2 hoAt v l
theorem hoC_len (x : Int × Int) : (hoC x).length = 2 := rfl
theorem hoC_one (x : Int × Int) : (hoC x).all Eng.one = true := rfl
theorem hoC_at (x : Int × Int) (pre post : List Value) : hoAt (pre ++ (hoC x ++ post)) pre.length x := by
  unfold hoAt hoC
  constructor
  · rw [List.getElem?_append_right (Nat.le_refl _), Nat.sub_self]; rfl
  · rw [List.getElem?_append_right (by omega), Nat.add_sub_cancel_left]; rfl
theorem lst_ho {lo : Nat} {W : AW} {v : Value} {l : List (Int × Int)} (h : Lst lo W 2 hoC v l) : HoL W v l := h.row hoC_len hoC_at
theorem ap39 : appOk Try.prog #[39, 39] 2 16 = true := by kernel_rfl
theorem bs39 (a b : Int) (W : AW) : oBuildSlice Try.prog 39 1 [(0, .agg #[.int .i64 a, .int .i64 b])] W = some (.slice (some ⟨W.next, 0, none⟩) 1 1, W.add (.cells [.int .i64 a, .int .i64 b])) := Eq.trans (by kernel_rfl) rfl
theorem len39 : ((#[39] : Array TypeId)[0]?).bind Try.prog.underlying = some (.slice 43) := by kernel_rfl
theorem HoL.get {W : AW} {v : Value} {l : List (Int × Int)} (h : HoL W v l) {i : Nat} (hi : i < l.length) :
    ∃ b o, (∀ W' k, ixS 2 v (.int k (i : Int)) W' = some (.pointer (some ⟨b, o, none⟩), W')) ∧ b < W.next ∧ ∀ W', W'.get b = W.get b → ldA 2 (.pointer (some ⟨b, o, none⟩)) W' = some (hoV l[i], W') ∧ ldC (.pointer (some ⟨b, o, none⟩)) W' = some (.int .i64 l[i].1, W') ∧ ldC (.pointer (some ⟨b, o + 1, none⟩)) W' = some (.int .i64 l[i].2, W') := by
  obtain ⟨b, o, cs, h1, h2, h3, h4, h5⟩ := h.elem hi
  refine ⟨b, o, h1, h2, fun W' hg => ?_⟩
  have hc : cellsAt W' b = some cs := by
    have : cellsAt W' b = cellsAt W b := by unfold cellsAt; rw [hg]
    rw [this]; exact h3
  refine ⟨?_, ldC_ok hc h4, ldC_ok hc h5⟩
  have e3 : (cs.drop o).take 2 = [.int .i64 l[i].1, .int .i64 l[i].2] := by
    obtain ⟨a1, a2⟩ := List.getElem?_eq_some_iff.1 h4
    obtain ⟨b1, b2⟩ := List.getElem?_eq_some_iff.1 h5
    rw [List.drop_eq_getElem_cons a1, List.drop_eq_getElem_cons b1, a2, b2]
    rfl
  have := ldA_ok (n := 2) (o := o) hc (by rw [e3]; rfl)
  rw [e3] at this
  exact this
theorem om_lst2 {α : Type} {o t : Option (Value × AW)} {W : AW} {lo z : Nat} {f : α → List Value} {k : IntKind} {e : Int} {P : Value → AW → Prop} (h : Ok t fun r => ∃ v, r.1 = .tuple #[v, .int k e] ∧ P v r.2 ∧ ∃ l, Lst lo r.2 z f v l ∧ (l = [] → P (.slice none 0 0) W)) (hom : ∀ {r}, t = some r → o = some (gc W r)) : ∃ v W2, o = some (.tuple #[v, .int k e], W2) ∧ P v W2 := by
  obtain ⟨⟨r, W'⟩, h1, v, h2, h3, l, h4, h5⟩ := h
  simp only at h2 h3 h4 h5
  subst h2
  rcases h4 with ⟨rfl, rfl⟩ | ⟨h0, B, b1, b2, rfl, b3⟩
  · rcases gc_two (W := W) (W' := W') (.tuple #[.slice none 0 0, .int k e]) with hg | ⟨hg, hle⟩
    · exact ⟨_, W', by rw [hom h1, hg], h3⟩
    · exact ⟨_, W, by rw [hom h1, hg], h5 rfl⟩
  · exact ⟨_, W', by rw [hom h1, gc_not rfl], h3⟩
/-- what Due answers -/
structure DueR (n : Nat) (f : Nat → En) (now : Int) (l : List (Int × Int)) (m : Nat) (g : Nat → En) : Prop where
  perm : (l ++ ents m g).Perm (ents n f)
  len : l.length + m = n
  sort : l.Pairwise fun a b => hoLs b a = false
  due : ∀ x ∈ l, x.2 ≤ now
  rest : ∀ i, i < m → now < (g i).v.2
section
variable {W : AW} {In : Nat → Prop} {H q mh hm : Nat} {seats nx : Int} {n : Nat} {f : Nat → En}
theorem HS.first (h : HS W In H q mh hm seats nx n f) {k : Nat} (hk : k < n) : hoLs (f k).v (f 0).v = false := by
  have := h.qs.hp.first hoLs_ord k hk
  unfold bef at this
  simp only [Bool.or_eq_false_iff] at this
  exact this.1
theorem hDue_ok (h : HS W In H q mh hm seats nx n f) {now : Int} (hnow : 0 ≤ now) (hn : n ≤ 5000) :
    ∃ v W' l m g, omS (.func (.func 20) #[] #[]) [hP H, .int .i64 now] W = some (.tuple #[v, .int .i64 0], W') ∧ HS W' In H q mh hm seats nx m g ∧ Gr W W' In ∧ Lst W.next W' 2 hoC v l ∧ DueR n f now l m g := by
  have main : Ok (holds_Holds_Due omS (hP H) (.int .i64 now) W) fun r => ∃ v, r.1 = .tuple #[v, .int .i64 0] ∧ (∃ l m g, HS r.2 In H q mh hm seats nx m g ∧ Gr W r.2 In ∧ Lst W.next r.2 2 hoC v l ∧ DueR n f now l m g) ∧ ∃ l, Lst W.next r.2 2 hoC v l ∧ (l = [] → ∃ l m g, HS W In H q mh hm seats nx m g ∧ Gr W W In ∧ Lst W.next W 2 hoC (.slice none 0 0) l ∧ DueR n f now l m g) := by
    unfold holds_Holds_Due
    have e0 : ¬ seats = 0 := by have := h.sz; omega
    have e1 : ¬ now < 0 := by omega
    simp only [SX, pEq35, oNilCheck_ptr, Nat.zero_add, h.l0, e0, decide_false, e1]
    have hS0 : HS W (fun b => In b ∧ b < W.next) H q mh hm seats nx n f := h.keep (Nat.le_refl _) (fun _ _ _ => rfl) fun b hb hi => ⟨hi, hb⟩
    -- one round
    have key : ∀ (k : Nat) (R : PlanTab.Fr) (V : AW) (m : Nat) (g : Nat → En) (out : Value) (l : List (Int × Int)), l.length = k → k + m = n → R 0 = hP H → R 1 = .int .i64 now → R 6 = out → HS V (fun b => In b ∧ b < W.next) H q mh hm seats nx m g → Gr W V In → Lst W.next V 2 hoC out l → (l ++ ents m g).Perm (ents n f) → l.Pairwise (fun a b => hoLs b a = false) → (∀ x ∈ l, x.2 ≤ now) → (∀ x ∈ l, ∀ i, i < m → hoLs (g i).v x = false) → (l = [] → m = n ∧ g = f) →
        Ok (holds_Holds_Due_L1 omS R V) fun r => (r.1 = .ret ∧ r.2.1 4 = out ∧ r.2.1 5 = .int .i64 0 ∧ HS r.2.2 (fun b => In b ∧ b < W.next) H q mh hm seats nx m g ∧ Gr W r.2.2 In ∧ Lst W.next r.2.2 2 hoC out l ∧ ∀ i, i < m → now < (g i).v.2) ∨
          (r.1 = .normal ∧ ∃ m' g' out' l', m = m' + 1 ∧ l'.length = k + 1 ∧ r.2.1 0 = hP H ∧ r.2.1 1 = .int .i64 now ∧ r.2.1 6 = out' ∧ HS r.2.2 (fun b => In b ∧ b < W.next) H q mh hm seats nx m' g' ∧ Gr W r.2.2 In ∧ Lst W.next r.2.2 2 hoC out' l' ∧ (l' ++ ents m' g').Perm (ents n f) ∧ l'.Pairwise (fun a b => hoLs b a = false) ∧ (∀ x ∈ l', x.2 ≤ now) ∧ (∀ x ∈ l', ∀ i, i < m' → hoLs (g' i).v x = false) ∧ (l' = [] → m' = n ∧ g' = f)) := by
      intro k R V m g out l hlk hkm r0 r1 r6 hS hG hL hP1 hso hdu hbe hz
      unfold holds_Holds_Due_L1
      obtain ⟨pk, hp⟩ := peekE_ok hS
      obtain ⟨V1, a1, a2, a3, a4⟩ := boxed V
      have gn := hG.next
      generalize hV2 : V1.put V.next (.cells [.int .i64 (nextE m g).1, .int .i64 (nextE m g).2]) = V2
      have st := st43 (nextE m g) a4
      rw [hV2] at st
      have l2 : Le V V2 := by rw [← hV2]; exact a2.put (Nat.le_refl _) _
      have n2 : V2.next = V.next + 1 := by rw [← hV2, AW.put_next]; exact a3
      have x2 : V2.get V.next = some (.cells [.int .i64 (nextE m g).1, .int .i64 (nextE m g).2]) := by rw [← hV2]; exact AW.get_put _ _ _
      have S2 : HS V2 (fun b => In b ∧ b < W.next) H q mh hm seats nx m g := hS.keep l2.next (fun b hb _ => l2.get b hb) (fun b _ hi => hi)
      have G2 : Gr W V2 In := hG.trans ⟨l2.next, fun b hb _ => l2.get b hb⟩
      have L2 : Lst W.next V2 2 hoC out l := hL.mono l2
      by_cases hm0 : m = 0
      · subst hm0
        have e4 : ¬ (4 : Int) = 0 := by omega
        simp only [if_true] at hp
        simp only [SX, r0, r1, r6, oNilCheck_ptr, Nat.zero_add, hS.l1, hp, a1, st, e4, decide_false, Ok_some]
        exact .inl ⟨trivial, rfl, rfl, S2, G2, L2, fun i hi => by omega⟩
      · have hne : nextE m g = (g 0).v := by unfold nextE; rw [if_neg hm0]
        rw [if_neg hm0, hne] at hp
        rw [hne] at st x2
        have hok := hS.ok 0 (by omega)
        have l1 : ldC (.pointer (some ⟨V.next, 1, none⟩)) V2 = some (.int .i64 (g 0).v.2, V2) := ldR (rwOf x2) rfl
        by_cases hd : (g 0).v.2 ≤ now
        · obtain ⟨m, rfl⟩ : ∃ m', m = m' + 1 := ⟨m - 1, by omega⟩
          have SS := S2
          obtain ⟨c1, c2, c3, c4, c5, c6, qs, ⟨mm, m1, m2, m3⟩, ok, sz⟩ := S2
          obtain ⟨V3, g', p1, p2, p3, p4⟩ := qPop_ok hoLs_ord hoLess_ok qs (by omega)
          have n3 := p4.next
          have hc3 : V3.get H = some (.cells [.int .i64 seats, qV q, .map (some hm)]) := (p4.get H c2 (by simp)).trans c1
          have x3 : V3.get V.next = some (.cells [.int .i64 (g 0).v.1, .int .i64 (g 0).v.2]) := (p4.get _ (by omega) (by omega)).trans x2
          have m1' : MapV V3 hm mm (m + 1) := m1.keep (p4.get hm c3 (by simp))
          obtain ⟨es, c, d1, d2⟩ := mapV_del m1' u116 u3 [3] (g 0).v.1
          rw [m2 0 (by omega)] at d2
          simp only [Option.isSome_some, if_true, Nat.add_sub_cancel] at d2
          have dd : oBuiltin Try.prog .delete #[116, 3] 0 #[false, false] [.map (some hm), .int .i64 (g 0).v.1] V3 = some (.tuple #[], V3.put hm (.map es c)) := by
            show (aDelete Try.prog V3 #[116, 3] (.map (some hm)) (.int .i64 (g 0).v.1)).map _ = _
            have : (#[116, 3] : Array TypeId) = (116 :: [3]).toArray := rfl
            rw [this, d1]; rfl
          have hmlt : hm < W.next := c6.2
          generalize hV4 : V3.put hm (.map es c) = V4 at d2 dd
          have g4 : ∀ b, b ≠ hm → V4.get b = V3.get b := fun b hb => by rw [← hV4]; exact AW.get_put_ne _ _ (Ne.symm hb)
          have n4 : V4.next = V3.next := by rw [← hV4, AW.put_next]
          have x4 : V4.get V.next = some (.cells [.int .i64 (g 0).v.1, .int .i64 (g 0).v.2]) := (g4 _ (by omega)).trans x3
          have L4 : Lst W.next V4 2 hoC out l := lst_at L2 fun b hb1 hb2 => ⟨by omega, by rw [g4 b (by omega)]; exact p4.get b hb2 (by omega)⟩
          have hmem : ∀ i, i < m → ∃ k, k < m + 1 ∧ g k = g' i := fun i hi => all_mem.1 (p3.mem_iff.1 (List.mem_cons_of_mem _ (all_mem.2 ⟨i, hi, rfl⟩)))
          have hne0 : ∀ i, i < m → ¬ (g' i).h = (g 0).h := fun i hi e => by
            have hnd : ((g 0).h :: (all m g').map (·.h)).Nodup := by
              have := (p3.map (·.h)).nodup_iff.2 ?_
              · exact this
              · unfold all
                rw [List.map_map, List.nodup_iff_pairwise_ne, List.pairwise_map]
                refine List.nodup_range.imp_of_mem fun {a b} ha hb hab e => hab (qs.fresh (List.mem_range.1 ha) (List.mem_range.1 hb) e)
            exact (List.nodup_cons.1 hnd).1 (List.mem_map.2 ⟨g' i, all_mem.2 ⟨i, hi, rfl⟩, e⟩)
          have hseat0 : ∀ i, i < m → ¬ (g' i).v.1 = (g 0).v.1 := fun i hi e => by
            obtain ⟨k, hk, ek⟩ := hmem i hi
            have a := m2 k hk
            rw [ek, e, m2 0 (by omega)] at a
            injection a with a; injection a with _ a
            exact hne0 i hi a.symm
          have S4 : HS V4 (fun b => In b ∧ b < W.next) H q mh hm seats nx m g' := by
            refine ⟨(g4 H c4).trans hc3, by omega, by omega, c4, c5, c6, p2.keep (by omega) (fun b hb hx => g4 b hx.2.2) fun b _ hx => hx, ⟨_, d2, fun i hi => ?_, fun k v hk => ?_⟩, fun i hi => ?_, sz⟩
            · obtain ⟨k, hk, ek⟩ := hmem i hi
              rw [if_neg (hseat0 i hi), ← ek]
              exact m2 k hk
            · by_cases hk0 : k = (g 0).v.1
              · rw [if_pos hk0] at hk; cases hk
              · rw [if_neg hk0] at hk
                obtain ⟨i, hi, y1, y2⟩ := m3 k v hk
                rcases List.mem_cons.1 (p3.mem_iff.2 (all_mem.2 ⟨i, hi, rfl⟩)) with e | hx
                · rw [e] at y1; exact absurd y1.symm hk0
                · obtain ⟨j, hj, ej⟩ := all_mem.1 hx
                  exact ⟨j, hj, by rw [ej]; exact y1, by rw [ej]; exact y2⟩
            · obtain ⟨k, hk, ek⟩ := hmem i hi
              rw [← ek]; exact ok k hk
          have G4 : Gr W V4 In := G2.trans ⟨by omega, fun b hb hni => by
            rw [g4 b (fun e => hni (by rw [e]; exact c6.1))]
            exact p4.get b hb fun x => hni x.1.1⟩
          obtain ⟨out', V5, q1, q2, q3, q4⟩ := lst_push (a := (g 0).v) (b := V4.next) (c := 1) ap39 hoC_len hoC_one (L4.mono ((Le.refl V4).add (.cells (hoC (g 0).v)))) cellsAt_new (by omega) (by omega) (by rw [AW.add_next]; omega)
          have q1' : aAppend Try.prog (V4.add (.cells [.int .i64 (g 0).v.1, .int .i64 (g 0).v.2])) #[39, 39] out (.slice (some ⟨V4.next, 0, none⟩) 1 1) = some (out', V5) := q1
          rw [AW.add_next] at q3
          have g5 : ∀ b, b < W.next → V5.get b = V4.get b := fun b hb => by rw [q4 b hb, AW.get_add_ne _ _ (by omega)]
          have S5 : HS V5 (fun b => In b ∧ b < W.next) H q mh hm seats nx m g' := S4.keep (by omega) (fun b hb hx => g5 b hx.2) (fun b _ hx => hx)
          have G5 : Gr W V5 In := ⟨by omega, fun b hb hni => by rw [g5 b hb]; exact G4.get b hb hni⟩
          have hpp := passed_ok hok.2.2 hnow V2
          rw [decide_eq_true hd] at hpp
          have l0 : ldC (.pointer (some ⟨V.next, 0, none⟩)) V3 = some (.int .i64 (g 0).v.1, V3) := ldR (rwOf x3) rfl
          simp only [SX, r0, r1, r6, oNilCheck_ptr, Nat.zero_add, hS.l1, hp, a1, st, l1, hpp, SS.l1, p1, ldR (o := 2) (rwOf hc3) rfl, l0, dd, ld43 x4, bs39, q1', Ok_some]
          have hfirst : ∀ i, i < m → hoLs (g' i).v (g 0).v = false := fun i hi => by
            obtain ⟨k, hk, ek⟩ := hmem i hi
            rw [← ek]
            exact SS.first hk
          refine .inr ⟨trivial, m, g', out', l ++ [(g 0).v], rfl, by rw [List.length_append, hlk]; rfl, r0, r1, rfl, S5, G5, q2, ?_, ?_, ?_, ?_, fun e => absurd e (by simp)⟩
          · refine .trans ?_ hP1
            rw [List.append_assoc]
            refine List.Perm.append_left _ ?_
            exact p3.map (·.v)
          · rw [List.pairwise_append]
            refine ⟨hso, List.pairwise_singleton _ _, fun a ha b hb => ?_⟩
            obtain rfl := List.mem_singleton.1 hb
            exact hbe a ha 0 (by omega)
          · intro x hx
            rcases List.mem_append.1 hx with hx | hx
            · exact hdu x hx
            · obtain rfl := List.mem_singleton.1 hx
              exact hd
          · intro x hx i hi
            rcases List.mem_append.1 hx with hx | hx
            · obtain ⟨k, hk, ek⟩ := hmem i hi
              rw [← ek]
              exact hbe x hx k hk
            · obtain rfl := List.mem_singleton.1 hx
              exact hfirst i hi
        · have hpp := passed_ok hok.2.2 hnow V2
          rw [decide_eq_false hd] at hpp
          simp only [SX, r0, r1, r6, oNilCheck_ptr, Nat.zero_add, hS.l1, hp, a1, st, l1, hpp, Ok_some]
          refine .inl ⟨trivial, rfl, rfl, S2, G2, L2, fun i hi => ?_⟩
          have := hS.first hi
          unfold hoLs at this
          simp only [Bool.or_eq_false_iff, decide_eq_false_iff_not] at this
          omega
    refine Ok_loop n (by omega) (fun k R V => ∃ m g out l, l.length = k ∧ k + m = n ∧ R 0 = hP H ∧ R 1 = .int .i64 now ∧ R 6 = out ∧ HS V (fun b => In b ∧ b < W.next) H q mh hm seats nx m g ∧ Gr W V In ∧ Lst W.next V 2 hoC out l ∧ (l ++ ents m g).Perm (ents n f) ∧ l.Pairwise (fun a b => hoLs b a = false) ∧ (∀ x ∈ l, x.2 ≤ now) ∧ (∀ x ∈ l, ∀ i, i < m → hoLs (g i).v x = false) ∧ (l = [] → m = n ∧ g = f))
      (fun r => r.1 = .ret ∧ ∃ m g out l, r.2.1 4 = out ∧ r.2.1 5 = .int .i64 0 ∧ HS r.2.2 (fun b => In b ∧ b < W.next) H q mh hm seats nx m g ∧ Gr W r.2.2 In ∧ Lst W.next r.2.2 2 hoC out l ∧ DueR n f now l m g ∧ (l = [] → m = n ∧ g = f)) ⟨n, f, _, [], rfl, by omega, rfl, rfl, rfl, hS0, .refl _ _, .nil _ _ _ _, .refl _, .nil, fun x hx => (by cases hx), fun x hx => (by cases hx), fun _ => ⟨rfl, rfl⟩⟩ ?_ ?_ ?_
    · rintro k R V hk ⟨m, g, out, l, h1, h2, h3, h4, h5, h6, h7, h8, h9, h10, h11, h12, h13⟩
      refine (key k R V m g out l h1 h2 h3 h4 h5 h6 h7 h8 h9 h10 h11 h12 h13).mono fun r hr => ?_
      rcases hr with ⟨k1, k2, k3, k4, k5, k6, k7⟩ | ⟨k1, m', g', out', l', rfl, k2, k3, k4, k5, k6⟩
      · exact .inr ⟨by rw [k1]; simp, k1, m, g, out, l, k2, k3, k4, k5, k6, ⟨h9, by omega, h10, h11, k7⟩, h13⟩
      · exact .inl ⟨k1, m', g', out', l', k2, by omega, k3, k4, k5, k6⟩
    · rintro R V ⟨m, g, out, l, h1, h2, h3, h4, h5, h6, h7, h8, h9, h10, h11, h12, h13⟩
      refine (key n R V m g out l h1 h2 h3 h4 h5 h6 h7 h8 h9 h10 h11 h12 h13).mono fun r hr => ?_
      rcases hr with ⟨k1, k2, k3, k4, k5, k6, k7⟩ | ⟨k1, m', g', out', l', rfl, -⟩
      · exact ⟨by rw [k1]; simp, k1, m, g, out, l, k2, k3, k4, k5, k6, ⟨h9, by omega, h10, h11, k7⟩, h13⟩
      · omega
    · rintro ⟨x, R, V⟩ ⟨hx, m, g, out, l, r4, r5, k1, k2, k3, k4, k5⟩
      simp only at hx r4 r5 k1 k2 k3
      subst hx
      simp only [SX, r4, r5, Ok_some]
      refine ⟨out, rfl, ⟨l, m, g, k1.keep (Nat.le_refl _) (fun _ _ _ => rfl) fun b _ hi => hi.1, k2, k3, k4⟩, l, k3, fun e => ?_⟩
      obtain ⟨rfl, rfl⟩ := k5 e
      subst e
      exact ⟨[], m, g, h, .refl _ _, .nil _ _ _ _, k4⟩
  obtain ⟨v, W2, k1, l, m, g, k2⟩ := om_lst2 (P := fun v V => ∃ l m g, HS V In H q mh hm seats nx m g ∧ Gr W V In ∧ Lst W.next V 2 hoC v l ∧ DueR n f now l m g) main holds_Holds_Due_om
  exact ⟨v, W2, l, m, g, k1, k2⟩
end
end Go.Proofs.Ytkpgmabebjmahaa.Ho
/- Holds: Move, Drop, Of. -/
namespace Go.Proofs.Ytkpgmabebjmahaa.Ho
open Go Go.Eng Go.Hp
set_option linter.unusedVariables false
set_option linter.unusedSimpArgs false
set_option linter.unusedSectionVars false
set_option maxRecDepth 100000
theorem QS.back3 {W W' : AW} {In : Nat → Prop} {q mh : Nat} {less : Value} {ls ls' : Int × Int → Int × Int → Bool} {nx nx' : Int} {n : Nat} {f g : Nat → En} (h : QS W In q mh less ls nx n f) (h' : QS W' In q mh less ls' nx' n g) (hle : Le W W') (hb : ∀ i, i < n → ∃ k, k < n ∧ (f k).b = (g i).b) : QS W In q mh less ls' nx' n g := by
  obtain ⟨⟨lw, bw, w1, w2, w3⟩, wm, -⟩ := h
  obtain ⟨⟨lv, bl, h1, h2, h3⟩, ml, mq, me, iq, im, hp, ⟨m, m1, m2, m3⟩, hd, nx1⟩ := h'
  have lvE : lw = lv ∧ bw = bl := by
    have x := h1.qc
    rw [hle.get q w1.lt, w1.qc] at x
    injection x with x; injection x with x; injection x with x _
    refine ⟨x, ?_⟩
    subst x
    have y := w1.pile.sl
    have z := h1.pile.sl
    cases z with
    | nil z0 => cases y; rfl
    | row b junk z1 z2 z3 => cases y; rfl
  obtain ⟨rfl, rfl⟩ := lvE
  refine ⟨⟨lw, bw, h1.back2 hle w1.lt fun b ho => ?_, h2, h3⟩, wm, mq, me, iq, im, hp, ⟨m, m1.keep (hle.get mh wm).symm, m2, m3⟩, hd, nx1⟩
  rcases ho with ho | ⟨i, hi, rfl⟩
  · exact w1.pile.sl.lt ho
  · obtain ⟨k, hk, e⟩ := hb i hi
    rw [← e]
    exact (w1.pile.en k hk).2
section
variable {W : AW} {In : Nat → Prop} {H q mh hm : Nat} {seats nx : Int} {n : Nat} {f : Nat → En}
theorem move7_ok (h : HS W In H q mh hm seats nx n f) {s t : Int} (hb : hbad seats s t = true) : omS (.func (.func 49) #[] #[]) [hP H, .int .i64 s, .int .i64 t] W = some (.int .i64 7, W) := by
  refine om_drop rfl ?_ holds_Holds_Move_om
  unfold holds_Holds_Move
  have e0 : ¬ (7 : Int) = 0 := by omega
  simp only [SX, find7_ok h hb, e0, decide_false, Ok_some]
  exact ⟨trivial, .refl _⟩
theorem hMove_ok (h : HS W In H q mh hm seats nx n f) {i : Nat} (hi : i < n) {t : Int} (hb : hbad seats (f i).v.1 t = false) (hn : n ≤ 10000) :
    ∃ W' g, omS (.func (.func 49) #[] #[]) [hP H, .int .i64 (f i).v.1, .int .i64 t] W = some (.int .i64 0, W') ∧ HS W' In H q mh hm seats nx n g ∧ (ents n g).Perm (ents n (upd f i ((f i).v.1, t))) ∧ Gr W W' In := by
  have main : Ok (holds_Holds_Move omS (hP H) (.int .i64 (f i).v.1) (.int .i64 t) W) fun r => r.1 = .int .i64 0 ∧ ∃ g, HS r.2 In H q mh hm seats nx n g ∧ (ents n g).Perm (ents n (upd f i ((f i).v.1, t))) ∧ Gr W r.2 In ∧ (Le W r.2 → HS W In H q mh hm seats nx n g) := by
    have hW := h
    obtain ⟨hc, hl, ml, ne, iH, iM, qs, ⟨m, m1, m2, m3⟩, ok, sz⟩ := h
    obtain ⟨W1, g, p1, p2, p3, p4⟩ := qSet_ok hoLs_ord hoLess_ok qs hn hi ((f i).v.1, t)
    have n1 := p4.next
    have hbb : 0 ≤ t := by
      unfold hbad at hb
      simp only [Bool.or_eq_false_iff, decide_eq_false_iff_not] at hb
      omega
    have hv : ∀ j, (upd f i ((f i).v.1, t) j).v.1 = (f j).v.1 := fun j => by
      unfold upd
      split
      · rename_i e; rw [e]
      · rfl
    have hmem : ∀ j, j < n → ∃ k, k < n ∧ (f k).b = (g j).b ∧ (f k).h = (g j).h ∧ (f k).v.1 = (g j).v.1 ∧ ((g j).v.2 = t ∨ (g j).v.2 = (f k).v.2) := fun j hj => by
      obtain ⟨k, hk, e⟩ := all_mem.1 (p3.mem_iff.1 (all_mem.2 ⟨j, hj, rfl⟩))
      refine ⟨k, hk, by rw [← e, upd_b], by rw [← e, upd_h], by rw [← e, hv], ?_⟩
      rw [← e]
      unfold upd
      split
      · exact .inl rfl
      · exact .inr rfl
    have hmem2 : ∀ k, k < n → ∃ j, j < n ∧ (f k).h = (g j).h ∧ (f k).v.1 = (g j).v.1 := fun k hk => by
      obtain ⟨j, hj, e⟩ := all_mem.1 (p3.mem_iff.2 (all_mem.2 ⟨k, hk, rfl⟩))
      exact ⟨j, hj, by rw [e, upd_h], by rw [e, hv]⟩
    have mk : ∀ U, U.get H = some (.cells [.int .i64 seats, qV q, .map (some hm)]) → H < U.next → hm < U.next → QS U (fun b => In b ∧ b ≠ H ∧ b ≠ hm) q mh hF hoLs nx n g → MapV U hm m n → HS U In H q mh hm seats nx n g := fun U u1 u2 u3 u4 u5 => by
      refine ⟨u1, u2, u3, ne, iH, iM, u4, ⟨m, u5, fun j hj => ?_, fun k v hk => ?_⟩, fun j hj => ?_, sz⟩
      · obtain ⟨k, hk, -, e1, e2, -⟩ := hmem j hj
        rw [← e1, ← e2]; exact m2 k hk
      · obtain ⟨j, hj, y1, y2⟩ := m3 k v hk
        obtain ⟨j', hj', e1, e2⟩ := hmem2 j hj
        exact ⟨j', hj', by rw [← e2]; exact y1, by rw [← e1]; exact y2⟩
      · obtain ⟨k, hk, -, -, e2, e3⟩ := hmem j hj
        have := ok k hk
        rw [e2] at this
        refine ⟨this.1, this.2.1, ?_⟩
        rcases e3 with e3 | e3 <;> rw [e3]
        · exact hbb
        · exact this.2.2
    unfold holds_Holds_Move
    simp only [SX, hfind_ok hW hi hb, oNilCheck_ptr, Nat.zero_add, hW.l1, bd43, p1, Ok_some]
    refine ⟨trivial, g, mk W1 ((p4.get H hl (by simp)).trans hc) (by omega) (by omega) p2 (m1.keep (p4.get hm ml (by simp))), ?_, ⟨n1, fun b hb' hni => p4.get b hb' fun x => hni x.1⟩, fun hle => mk W hc hl ml (qs.back3 p2 hle fun j hj => ?_) m1⟩
    · exact p3.map (·.v)
    · obtain ⟨k, hk, e, -⟩ := hmem j hj
      exact ⟨k, hk, e⟩
  obtain ⟨⟨r, W'⟩, h1, h2, g, h3, h4, h5, h6⟩ := main
  simp only at h2 h3 h4 h5 h6
  subst h2
  rcases gc_two (W := W) (W' := W') (.int .i64 0) with hg | ⟨hg, hle⟩
  · exact ⟨W', g, by rw [holds_Holds_Move_om h1, hg], h3, h4, h5⟩
  · exact ⟨W, g, by rw [holds_Holds_Move_om h1, hg], h6 hle, h4, .refl _ _⟩
theorem HS.good (h : HS W In H q mh hm seats nx n f) {i : Nat} (hi : i < n) : hbad seats (f i).v.1 0 = false := by
  have := h.ok i hi
  unfold hbad
  simp only [Bool.or_eq_false_iff, decide_eq_false_iff_not]
  omega
theorem hDrop_ok (h : HS W In H q mh hm seats nx (n + 1) f) {i : Nat} (hi : i < n + 1) (hn : n ≤ 10000) :
    ∃ W' g, omS (.func (.func 47) #[] #[]) [hP H, .int .i64 (f i).v.1] W = some (.tuple #[.int .i64 (f i).v.2, .int .i64 0], W') ∧ HS W' In H q mh hm seats nx n g ∧ ((f i).v :: ents n g).Perm (ents (n + 1) f) ∧ Gr W W' In := by
  have main : Ok (holds_Holds_Drop omS (hP H) (.int .i64 (f i).v.1) W) fun r => r.1 = .tuple #[.int .i64 (f i).v.2, .int .i64 0] ∧ ∃ g, HS r.2 In H q mh hm seats nx n g ∧ ((f i).v :: ents n g).Perm (ents (n + 1) f) ∧ Gr W r.2 In := by
    have hW := h
    obtain ⟨hc, hl, ml, ne, iH, iM, qs, ⟨m, m1, m2, m3⟩, ok, sz⟩ := h
    obtain ⟨W1, g, p1, p2, p3, p4⟩ := qRemove_ok hoLs_ord hoLess_ok qs hn hi
    have n1 := p4.next
    have hc1 : W1.get H = some (.cells [.int .i64 seats, qV q, .map (some hm)]) := (p4.get H hl (by simp)).trans hc
    obtain ⟨V, a1, a2, a3, a4⟩ := boxed W1
    have st := st43 (f i).v a4
    generalize hV2 : V.put W1.next (.cells [.int .i64 (f i).v.1, .int .i64 (f i).v.2]) = V2 at st
    have l2 : Le W1 V2 := by rw [← hV2]; exact a2.put (Nat.le_refl _) _
    have n2 : V2.next = W1.next + 1 := by rw [← hV2, AW.put_next]; exact a3
    have x2 : V2.get W1.next = some (.cells [.int .i64 (f i).v.1, .int .i64 (f i).v.2]) := by rw [← hV2]; exact AW.get_put _ _ _
    have hc2 : V2.get H = some (.cells [.int .i64 seats, qV q, .map (some hm)]) := (l2.get H (by omega)).trans hc1
    have m1' : MapV V2 hm m (n + 1) := m1.keep ((l2.get hm (by omega)).trans (p4.get hm ml (by simp)))
    obtain ⟨es, c, d1, d2⟩ := mapV_del m1' u116 u3 [3] (f i).v.1
    rw [m2 i hi] at d2
    simp only [Option.isSome_some, if_true, Nat.add_sub_cancel] at d2
    have dd : oBuiltin Try.prog .delete #[116, 3] 0 #[false, false] [.map (some hm), .int .i64 (f i).v.1] V2 = some (.tuple #[], V2.put hm (.map es c)) := by
      show (aDelete Try.prog V2 #[116, 3] (.map (some hm)) (.int .i64 (f i).v.1)).map _ = _
      have : (#[116, 3] : Array TypeId) = (116 :: [3]).toArray := rfl
      rw [this, d1]; rfl
    generalize hV4 : V2.put hm (.map es c) = V4 at d2 dd
    have g4 : ∀ b, b ≠ hm → V4.get b = V2.get b := fun b hb => by rw [← hV4]; exact AW.get_put_ne _ _ (Ne.symm hb)
    have n4 : V4.next = V2.next := by rw [← hV4, AW.put_next]
    have x4 : V4.get W1.next = some (.cells [.int .i64 (f i).v.1, .int .i64 (f i).v.2]) := (g4 _ (by omega)).trans x2
    have hmem : ∀ j, j < n → ∃ k, k < n + 1 ∧ f k = g j := fun j hj => all_mem.1 (p3.mem_iff.1 (List.mem_cons_of_mem _ (all_mem.2 ⟨j, hj, rfl⟩)))
    have hne0 : ∀ j, j < n → ¬ (g j).h = (f i).h := fun j hj e => by
      have hnd : ((f i).h :: (all n g).map (·.h)).Nodup := by
        have := (p3.map (·.h)).nodup_iff.2 ?_
        · exact this
        · unfold all
          rw [List.map_map, List.nodup_iff_pairwise_ne, List.pairwise_map]
          refine List.nodup_range.imp_of_mem fun {a b} ha hb hab e => hab (qs.fresh (List.mem_range.1 ha) (List.mem_range.1 hb) e)
      exact (List.nodup_cons.1 hnd).1 (List.mem_map.2 ⟨g j, all_mem.2 ⟨j, hj, rfl⟩, e⟩)
    have hseat0 : ∀ j, j < n → ¬ (g j).v.1 = (f i).v.1 := fun j hj e => by
      obtain ⟨k, hk, ek⟩ := hmem j hj
      have a := m2 k hk
      rw [ek, e, m2 i hi] at a
      injection a with a; injection a with _ a
      exact hne0 j hj a.symm
    have l1 : ldC (.pointer (some ⟨W1.next, 1, none⟩)) V4 = some (.int .i64 (f i).v.2, V4) := ldR (rwOf x4) rfl
    unfold holds_Holds_Drop
    simp only [SX, hfind_ok hW hi (hW.good hi), oNilCheck_ptr, Nat.zero_add, hW.l1, p1, a1, st, ldR (o := 2) (rwOf hc2) rfl, dd, l1, Ok_some]
    refine ⟨trivial, g, ⟨(g4 H ne).trans hc2, by omega, by omega, ne, iH, iM, p2.keep (by omega) (fun b hb hx => by rw [g4 b hx.2.2]; exact l2.get b hb) fun b _ hx => hx, ⟨_, d2, fun j hj => ?_, fun k v hk => ?_⟩, fun j hj => ?_, sz⟩, ?_, by omega, fun b hb' hni => ?_⟩
    · obtain ⟨k, hk, ek⟩ := hmem j hj
      rw [if_neg (hseat0 j hj), ← ek]
      exact m2 k hk
    · by_cases hk0 : k = (f i).v.1
      · rw [if_pos hk0] at hk; cases hk
      · rw [if_neg hk0] at hk
        obtain ⟨i', hi', y1, y2⟩ := m3 k v hk
        rcases List.mem_cons.1 (p3.mem_iff.2 (all_mem.2 ⟨i', hi', rfl⟩)) with e | hx
        · rw [e] at y1; exact absurd y1.symm hk0
        · obtain ⟨j, hj, ej⟩ := all_mem.1 hx
          exact ⟨j, hj, by rw [ej]; exact y1, by rw [ej]; exact y2⟩
    · obtain ⟨k, hk, ek⟩ := hmem j hj
      rw [← ek]; exact ok k hk
    · exact p3.map (·.v)
    · rw [g4 b (fun e => hni (by rw [e]; exact iM)), l2.get b (by omega)]
      exact p4.get b hb' fun x => hni x.1
  obtain ⟨⟨r, W'⟩, h1, h2, g, h3, h4, h5⟩ := main
  simp only at h2 h3 h4 h5
  subst h2
  rcases gc_two (W := W) (W' := W') (.tuple #[.int .i64 (f i).v.2, .int .i64 0]) with hg | ⟨hg, hle⟩
  · exact ⟨W', g, by rw [holds_Holds_Drop_om h1, hg], h3, h4, h5⟩
  · have hql : q < W.next := by obtain ⟨⟨lv, bl, k1, -⟩, -⟩ := h.qs; exact k1.lt
    exact absurd (hle.get q hql).symm (QS.grown h3.qs h.qs)
theorem of7_ok (h : HS W In H q mh hm seats nx n f) {s : Int} (hb : hbad seats s 0 = true) : omS (.func (.func 48) #[] #[]) [hP H, .int .i64 s] W = some (.tuple #[.int .i64 0, .int .i64 7], W) := by
  refine om_drop rfl ?_ holds_Holds_Of_om
  unfold holds_Holds_Of
  have e0 : ¬ (7 : Int) = 0 := by omega
  simp only [SX, find7_ok h hb, e0, decide_false, Ok_some]
  exact ⟨trivial, .refl _⟩
theorem of4_ok (h : HS W In H q mh hm seats nx n f) {s : Int} (hb : hbad seats s 0 = false) (hs : ∀ i, i < n → (f i).v.1 ≠ s) : omS (.func (.func 48) #[] #[]) [hP H, .int .i64 s] W = some (.tuple #[.int .i64 0, .int .i64 4], W) := by
  refine om_drop rfl ?_ holds_Holds_Of_om
  unfold holds_Holds_Of
  have e0 : ¬ (4 : Int) = 0 := by omega
  simp only [SX, find4_ok h hb hs, e0, decide_false, Ok_some]
  exact ⟨trivial, .refl _⟩
theorem hOf_ok (h : HS W In H q mh hm seats nx n f) {i : Nat} (hi : i < n) : omS (.func (.func 48) #[] #[]) [hP H, .int .i64 (f i).v.1] W = some (.tuple #[.int .i64 (f i).v.2, .int .i64 0], W) := by
  refine om_drop rfl ?_ holds_Holds_Of_om
  unfold holds_Holds_Of
  obtain ⟨V, a1, a2, a3, a4⟩ := boxed W
  have x2 : (V.put W.next (.cells [.int .i64 (f i).v.1, .int .i64 (f i).v.2])).get W.next = some (.cells [.int .i64 (f i).v.1, .int .i64 (f i).v.2]) := AW.get_put _ _ _
  simp only [SX, hfind_ok h hi (h.good hi), oNilCheck_ptr, Nat.zero_add, h.l1, qGet_ok h.qs hi, a1, st43 _ a4, ldR (o := 1) (rwOf x2) rfl, Ok_some]
  exact ⟨trivial, a2.put (Nat.le_refl _) _⟩
end
end Go.Proofs.Ytkpgmabebjmahaa.Ho
/- A queue's entries, sorted: what the library sorts. -/
namespace Go.Proofs.Ytkpgmabebjmahaa.Ho
open Go Go.Eng Go.Hp
set_option linter.unusedVariables false
set_option linter.unusedSimpArgs false
set_option linter.unusedSectionVars false
set_option maxRecDepth 100000
/-! ### items -/
def befP (ls : Int × Int → Int × Int → Bool) (a b : Int × (Int × Int)) : Bool := ls a.2 b.2 || (!ls b.2 a.2 && decide (a.1 < b.1))
def itC (x : Int × (Int × Int)) : List Value := [.int .i64 x.1, .int .i64 x.2.1, .int .i64 x.2.2]
def itAt (cs : List Value) (p : Nat) (x : Int × (Int × Int)) : Prop := cs[p]? = some (.int .i64 x.1) ∧ cs[p + 1]? = some (.int .i64 x.2.1) ∧ cs[p + 2]? = some (.int .i64 x.2.2)
abbrev Items (W : AW) (v : Value) (l : List (Int × (Int × Int))) : Prop := Row W 3 itAt v l
theorem itC_len (x : Int × (Int × Int)) : (itC x).length = 3 := rfl
theorem itC_one (x : Int × (Int × Int)) : (itC x).all Eng.one = true := rfl
theorem itC_at (x : Int × (Int × Int)) (pre post : List Value) : itAt (pre ++ (itC x ++ post)) pre.length x := by
  unfold itAt itC
  refine ⟨?_, ?_, ?_⟩
  · rw [List.getElem?_append_right (Nat.le_refl _), Nat.sub_self]; rfl
  · rw [List.getElem?_append_right (by omega), Nat.add_sub_cancel_left]; rfl
  · rw [List.getElem?_append_right (by omega), Nat.add_sub_cancel_left]; rfl
theorem Lst.items {lo : Nat} {W : AW} {v : Value} {l : List (Int × (Int × Int))} (h : Lst lo W 3 itC v l) : Items W v l := h.row itC_len itC_at
theorem ap58 : appOk Try.prog #[202, 202] 3 24 = true := by kernel_rfl
theorem bd65 (a : Int) (b : Int × Int) (W : AW) : oBuild Try.prog 205 [(0, .int .i64 a), (1, hoV b)] W = some (.agg #[.int .i64 a, .int .i64 b.1, .int .i64 b.2], W) := Eq.trans (by kernel_rfl) rfl
theorem bs58 (a b c : Int) (W : AW) : oBuildSlice Try.prog 202 1 [(0, .agg #[.int .i64 a, .int .i64 b, .int .i64 c])] W = some (.slice (some ⟨W.next, 0, none⟩) 1 1, W.add (.cells [.int .i64 a, .int .i64 b, .int .i64 c])) := Eq.trans (by kernel_rfl) rfl
theorem body123 : HasBody Try.prog 123 := ⟨_, _, Try.func123, by kernel_rfl, rfl⟩
/-- the order of the entries, as the library asks it -/
def cfE (ls : Int × Int → Int × Int → Bool) (f : Nat → En) (i j : Nat) : Int := if (f i).b = (f j).b then 0 else if bef ls (f i) (f j) then -1 else 1
theorem cfE_lt {ls : Int × Int → Int × Int → Bool} (o : Ord (bef ls)) {f : Nat → En} {n : Nat} (hinj : ∀ i j, i < n → j < n → (f i).b = (f j).b → i = j) {i j : Nat} (hi : i < n) (hj : j < n) : cfE ls f i j < 0 ↔ bef ls (f i) (f j) = true := by
  unfold cfE
  by_cases h : (f i).b = (f j).b
  · obtain rfl := hinj i j hi hj h
    rw [if_pos rfl, ord_irr o]
    simp
  · rw [if_neg h]
    cases bef ls (f i) (f j) <;> simp
theorem cfE_ord {ls : Int × Int → Int × Int → Bool} (o : Ord (bef ls)) {f : Nat → En} {n : Nat} (hinj : ∀ i j, i < n → j < n → (f i).b = (f j).b → i = j) : OrdN n (cfE ls f) where
  irrefl i hi h := by
    rw [cfE_lt o hinj hi hi, ord_irr o] at h; cases h
  trans i j l hi hj hl h1 h2 := by
    rw [cfE_lt o hinj hi hj] at h1
    rw [cfE_lt o hinj hj hl] at h2
    rw [cfE_lt o hinj hi hl]
    exact bef_trans o h1 h2
  ntrans i j l hi hj hl h1 h2 := by
    rw [cfE_lt o hinj hi hj, Bool.not_eq_true] at h1
    rw [cfE_lt o hinj hj hl, Bool.not_eq_true] at h2
    rw [cfE_lt o hinj hi hl, Bool.not_eq_true]
    exact o.neg _ _ _ h2 h1
theorem flat1 (l : List En) : (l.map fun e => [enP e]).flatten = l.map enP := by
  induction l with
  | nil => rfl
  | cons a l ih => rw [List.map_cons, List.flatten_cons, ih]; rfl
theorem rowE_all (n : Nat) (f : Nat → En) : rowE n f = (all n f).map enP := by
  unfold rowE all
  rw [List.map_map]; rfl
section
variable {q : Nat} {lv less c2 c3 : Value} {n : Nat} {f : Nat → En} {bl : Option Nat} {ls : Int × Int → Int × Int → Bool}
/-- the entries of a copy are sorted -/
theorem sortE_ok (o : Ord (bef ls)) (hl : IsLess1 less ls) (hlz : ∀ D, liesD D less) {V : AW} (h : QP V q lv less c2 c3 n f bl) (hn : n ≤ 10000) (h0 : 0 < n) {b X : Nat} (hb : V.get b = some (.cells (rowE n f))) (hbl : b < V.next) (hbq : b ≠ q) (hbb : bl ≠ some b) (hbe : ∀ i, i < n → (f i).b ≠ b) (hX : V.get X = some (.cells [.pointer (some ⟨q, 0, none⟩)])) (hXl : X < V.next) (hXb : X ≠ b) :
    ∃ es : List En, es.Perm (all n f) ∧ es.Pairwise (fun x y => bef ls y x = false) ∧ omS (.func (.func 122) #[] #[]) [.slice (some ⟨b, 0, none⟩) n (BIG + 1), .func (.func 123) #[] #[.pointer (some ⟨X, 0, none⟩)]] V = some (.tuple #[], V.put b (.cells (es.map enP))) := by
  obtain ⟨hqc, hql, ⟨hsl, hen, hinj⟩, hbq', heq⟩ := h
  have hlen : (all n f).length = n := all_len n f
  have hget : ∀ i (hi : i < (all n f).length), (all n f)[i] = f i := fun i hi => by simp [all]
  obtain ⟨es, e1, e2, e3⟩ := sortR_of (all n f) (fun e => [enP e]) (bef ls) (cf := cfE ls f) (by rw [hlen]; exact cfE_ord o hinj) (by omega) fun i j hi hj => by
    rw [hget, hget]
    exact cfE_lt o hinj (by omega) (by omega)
  refine ⟨es, e1, e2, ?_⟩
  -- what the view holds
  have vQ : ∃ r, cellsAt (roV V b) q = some ([lv, less] ++ r) := by
    obtain ⟨r, hr⟩ := roV_has (W := V) (b0 := b) (x := q) (cs := [lv, less]) (rest := [c2, c3]) (.inl hqc) hql (Ne.symm hbq) fun v hv => by
      rcases List.mem_cons.1 hv with rfl | hv
      · cases hsl with
        | nil h0 => exact liesD_snil
        | row bl junk h1 h2 h3 => exact liesD_slice ⟨fun e => hbb (congrArg some e), _, .inl h1⟩
      · obtain rfl := List.mem_singleton.1 hv
        exact hlz _
    exact ⟨r, by unfold cellsAt; rw [hr]⟩
  obtain ⟨rq, vQ⟩ := vQ
  have vX : ∃ r, cellsAt (roV V b) X = some ([.pointer (some ⟨q, 0, none⟩)] ++ r) := by
    obtain ⟨r, hr⟩ := roV_has (W := V) (b0 := b) (x := X) (cs := [.pointer (some ⟨q, 0, none⟩)]) (rest := []) (.inl hX) hXl hXb fun v hv => by
      obtain rfl := List.mem_singleton.1 hv
      exact liesD_ptr ⟨Ne.symm hbq, _, .inl hqc⟩
    exact ⟨r, by unfold cellsAt; rw [hr]⟩
  obtain ⟨rX, vX⟩ := vX
  have vE : ∀ i, i < n → ∃ r, cellsAt (roV V b) (f i).b = some (.int .i64 (f i).h :: .int .i64 (f i).v.1 :: .int .i64 (f i).v.2 :: r) := fun i hi => by
    obtain ⟨r, hr⟩ := roV_has (W := V) (b0 := b) (x := (f i).b) (cs := enC (f i) i) (rest := []) (.inl (by rw [List.append_nil]; exact (hen i hi).1)) (hen i hi).2 (hbe i hi) fun v hv => liesD_plain (by
      simp only [enC, List.mem_cons, List.not_mem_nil, or_false] at hv
      rcases hv with rfl | rfl | rfl | rfl <;> rfl)
    exact ⟨.int .i64 (i : Int) :: r, by unfold cellsAt; rw [hr]; rfl⟩
  have key : SortFA Try.prog (ansPtr om1 123 124) [] false 1 V [.slice (some ⟨b, 0, none⟩) n (BIG + 1), .func (.func 123) #[] #[.pointer (some ⟨X, 0, none⟩)]] (V.put b (.cells (es.map enP))) := by
    refine .inr ⟨b, BIG + 1, (all n f).map fun e => [enP e], [], 123, #[.pointer (some ⟨X, 0, none⟩)], cfE ls f, ⟨?_, ?_, ?_, ?_, ?_, ?_, ?_, ?_, ?_, body123, ?_, ?_, ?_⟩⟩
    · intro h
      have := congrArg List.length h
      rw [List.length_map, hlen] at this
      simp at this; omega
    · rw [List.length_map, hlen]; omega
    · intro r hr
      obtain ⟨e, -, rfl⟩ := List.mem_map.1 hr
      rfl
    · intro r hr v hv
      obtain ⟨e, -, rfl⟩ := List.mem_map.1 hr
      obtain rfl := List.mem_singleton.1 hv
      rfl
    · rw [List.length_map, hlen]
    · rw [flat1, List.append_nil, ← rowE_all]; exact hb
    · intro r hr v hv
      obtain ⟨e, he, rfl⟩ := List.mem_map.1 hr
      obtain rfl := List.mem_singleton.1 hv
      obtain ⟨i, hi, rfl⟩ := all_mem.1 he
      exact liesD_ptr ⟨hbe i hi, _, .inl (hen i hi).1⟩
    · intro v hv
      obtain rfl : v = .pointer (some ⟨X, 0, none⟩) := by simpa using hv
      exact liesD_ptr ⟨hXb, _, .inl hX⟩
    · intro g hg; cases hg
    · intro i j hi hj
      rw [List.length_map] at hi hj
      rw [List.getElem_map, List.getElem_map, hget, hget]
      rw [hlen] at hi hj
      obtain ⟨ri, hri⟩ := vE i hi
      obtain ⟨rj, hrj⟩ := vE j hj
      have hbo := pBefore1_ok (rq := rq) hl vQ hri hrj
      show ansPtr om1 123 124 V b 123 #[.pointer (some ⟨X, 0, none⟩)] (enP (f i)) (enP (f j)) = _
      unfold ansPtr cfE
      simp only [if_true, enP]
      rw [show (cellsAt (roV V b) X).bind (fun x => x[0]?) = some (.pointer (some ⟨q, 0, none⟩)) by rw [vX]; rfl]
      simp only
      by_cases hij : (f i).b = (f j).b
      · rw [if_pos (by rw [hij]), if_pos hij]
      · rw [if_neg (fun e => hij (by injection e)), if_neg hij, (hen i hi).1, (hen j hj).1]
        simp only
        rw [if_pos ⟨hij, by simp, by simp⟩]
        have hbo' : om1 (.func (.func 124) #[] #[]) [.pointer (some ⟨q, 0, none⟩), .pointer (some ⟨(f i).b, 0, none⟩), .pointer (some ⟨(f j).b, 0, none⟩)] (roV V b) = some (.bool (bef ls (f i) (f j)), roV V b) := hbo
        rw [hbo']
    · rw [List.length_map, hlen]; exact cfE_ord o hinj
    · rw [e3, flat1, List.append_nil]
  exact sort122_ok key
end
end Go.Proofs.Ytkpgmabebjmahaa.Ho
/- A queue's entries, sorted; Save. -/
namespace Go.Proofs.Ytkpgmabebjmahaa.Ho
open Go Go.Eng Go.Hp
set_option linter.unusedVariables false
set_option linter.unusedSimpArgs false
set_option linter.unusedSectionVars false
set_option maxRecDepth 100000
theorem len104 : ((#[179] : Array TypeId)[0]?).bind Try.prog.underlying = some (.slice 187) := by kernel_rfl
/-- sorted items of a queue -/
structure Srt (ls : Int × Int → Int × Int → Bool) (n : Nat) (f : Nat → En) (l : List (Int × (Int × Int))) : Prop where
  perm : l.Perm ((all n f).map hv)
  sort : l.Pairwise fun a b => befP ls b a = false
section
variable {W : AW} {In : Nat → Prop} {q mh : Nat} {less : Value} {ls : Int × Int → Int × Int → Bool} {nx : Int} {n : Nat} {f : Nat → En}
theorem sorted_ok (o : Ord (bef ls)) (hl : IsLess1 less ls) (hlz : ∀ D, liesD D less) (h : QS W In q mh less ls nx n f) (hn : n ≤ 10000) :
    ∃ W' v l, omS (.func (.func 110) #[] #[]) [qV q] W = some (v, W') ∧ Le W W' ∧ Lst W.next W' 3 itC v l ∧ Srt ls n f l := by
  have main : ∃ l, Srt ls n f l ∧ Ok (heaps_Queueapi_HoEntry_sorted omS (qV q) W) fun r => Le W r.2 ∧ Lst W.next r.2 3 itC r.1 l := by
    obtain ⟨⟨lv, bl, h1, h2, h3⟩, -⟩ := h
    have oBoxP : ∀ W, oBox (qV q) W = some (.pointer (some ⟨W.next, 0, none⟩), W.add (.cells [qV q])) := fun W => rfl
    generalize hW1 : W.add (.cells [qV q]) = W1
    have g1 : ∀ b, b < W.next → W1.get b = W.get b := fun b hb => by rw [← hW1]; exact AW.get_add_ne _ _ (by omega)
    have n1 : W1.next = W.next + 1 := by rw [← hW1, AW.add_next]
    have l1 : Le W W1 := by rw [← hW1]; exact (Le.refl _).add _
    have x1 : W1.get W.next = some (.cells [qV q]) := by rw [← hW1]; exact AW.get_add _ _
    have q1 : QP W1 q lv less (.map (some mh)) (.int .i64 nx) n f bl := h1.keep (by omega) fun b hb _ => g1 b hb
    obtain ⟨v1, W2, c1, c2, c3⟩ := clone_ok q1.pile.sl hn
    have q2 : QP W2 q lv less (.map (some mh)) (.int .i64 nx) n f bl := q1.keep c2.next fun b hb _ => c2.get b hb
    have x2 : W2.get W.next = some (.cells [qV q]) := (c2.get _ (by omega)).trans x1
    have hbn : ∀ b, bl = some b → b < W1.next := fun b hb => q1.pile.sl.lt hb
    -- the sort
    have hs : ∃ (es : List En) (W3 : AW), es.Perm (all n f) ∧ es.Pairwise (fun x y => bef ls y x = false) ∧ omS (.func (.func 122) #[] #[]) [v1, .func (.func 123) #[] #[.pointer (some ⟨W.next, 0, none⟩)]] W2 = some (.tuple #[], W3) ∧ W3.next = W2.next ∧ (∀ b, b < W1.next → W3.get b = W2.get b) ∧
        (∀ W', oBuiltin Try.prog .len #[179] 3 #[false] [v1] W' = some (.int .i64 (n : Int), W')) ∧ ∀ i (hi : i < es.length), ∃ b, (∀ W' k, ixS 1 v1 (.int k (i : Int)) W' = some (.pointer (some ⟨b, i, none⟩), W')) ∧ ∀ W', Le W3 W' → ldC (.pointer (some ⟨b, i, none⟩)) W' = some (enP es[i], W') := by
      rcases c3 with ⟨rfl, a, c, rfl⟩ | ⟨h0, b, b1, b2, rfl, b3⟩
      · refine ⟨[], W2, .refl _, .nil, sort122_ok (.inl ⟨a, c, _, rfl, rfl⟩), rfl, fun _ _ => rfl, fun W' => len_slice len104 _ _ _, fun i hi => by simp at hi⟩
      · obtain ⟨es, e1, e2, e3⟩ := sortE_ok o hl hlz q2 hn h0 b3 b2 (by have := q1.lt; omega) (fun e => by have := hbn b e; omega) (fun i hi e => by have := (q1.pile.en i hi).2; omega) x2 (by have := c2.next; omega) (by omega)
        have hlen : es.length = n := by rw [e1.length_eq, all_len]
        refine ⟨es, _, e1, e2, e3, by rw [AW.put_next], fun d hd => AW.get_put_ne _ _ (by omega), fun W' => len_slice len104 _ _ _, fun i hi => ⟨b, fun W' k => by rw [ixS_ok (by omega), Nat.zero_add, Nat.mul_one], fun W' hle => ldR (rwOf (cs := es.map enP) ?_) ?_⟩⟩
        · rw [hle.get b (by rw [AW.put_next]; exact b2)]
          exact AW.get_put _ _ _
        · rw [List.getElem?_map, List.getElem?_eq_getElem hi]; rfl
    obtain ⟨es, W3, e1, e2, e3, n3, g3, e4, e5⟩ := hs
    have hlen : es.length = n := by rw [e1.length_eq, all_len]
    have l3 : Le W1 W3 := ⟨by rw [n3]; exact c2.next, fun b hb => by rw [g3 b hb]; exact c2.get b hb⟩
    have hcell : ∀ i (hi : i < es.length) W', Le W3 W' → ldC (.pointer (some ⟨es[i].b, 0, none⟩)) W' = some (.int .i64 es[i].h, W') ∧ ldA 2 (.pointer (some ⟨es[i].b, 1, none⟩)) W' = some (hoV es[i].v, W') := fun i hi W' hle => by
      obtain ⟨k, hk, e⟩ := all_mem.1 (e1.mem_iff.1 (List.getElem_mem hi))
      have hc : W'.get (f k).b = some (.cells (enC (f k) k)) := by
        have := q1.pile.en k hk
        rw [hle.get _ (Nat.lt_of_lt_of_le this.2 l3.next), l3.get _ this.2]
        exact this.1
      rw [← e]
      exact ⟨ldR (rwOf hc) rfl, ldA_ok (rwCells_cellsAt (rwOf hc)) rfl⟩
    refine ⟨es.map hv, ⟨e1.map hv, by rw [List.pairwise_map]; exact e2⟩, ?_⟩
    unfold heaps_Queueapi_HoEntry_sorted
    simp only [SX, oBoxP, hW1, ldR (o := 0) (rwOf x1) rfl, oNilCheck_ptr, Nat.zero_add, q1.l0, c1, e3, e4]
    refine Ok_loop n (by omega) (fun k R W' => ∃ out, R 16 = v1 ∧ R 17 = .int .i64 (n : Int) ∧ R 18 = .int .i64 (k : Int) ∧ R 4 = out ∧ Le W3 W' ∧ Lst W3.next W' 3 itC out ((es.take k).map hv))
      (fun r => r.1 = .exit 0 ∧ ∃ out, r.2.1 4 = out ∧ Le W3 r.2.2 ∧ Lst W.next r.2.2 3 itC out (es.map hv)) ⟨_, rfl, rfl, rfl, rfl, .refl _, .nil _ _ _ _⟩ ?_ ?_ ?_
    · rintro k R W' hk ⟨out, r16, r17, r18, r4, hle, hL⟩
      unfold heaps_Queueapi_HoEntry_sorted_L1
      have hke : k < es.length := by omega
      obtain ⟨b, f1, f2⟩ := e5 k hke
      obtain ⟨d1, d2⟩ := hcell k hke W' hle
      have t1 : ((k : Int) < (n : Int)) := by omega
      have t2 := fun W' => oBin_add (P := Try.prog) (W := W') (t := 3) (c := false) (d := true) (a := (k : Int)) (b := 1) (by omega) (by omega)
      have hlt : ((es.take k).map hv).length = k := by rw [List.length_map, List.length_take]; omega
      obtain ⟨v', W4, p1, p2, p3, p4⟩ := (hL.mono ((Le.refl W').add (.cells (itC (hv es[k]))))).push (a := hv es[k]) (b := W'.next) (c := 1) ap58 itC_len itC_one cellsAt_new (by rw [hlt]; omega) (by rw [hlt]; omega) (by rw [AW.add_next]; have := hle.next; omega)
      simp only [SX, r16, r17, r18, r4, t1, f1, f2 W' hle, oNilCheck_ptr, Nat.zero_add, d1, d2, bd65, bs58]
      have p1' : aAppend Try.prog (W'.add (.cells [.int .i64 es[k].h, .int .i64 es[k].v.1, .int .i64 es[k].v.2])) #[202, 202] out (.slice (some ⟨W'.next, 0, none⟩) 1 1) = some (v', W4) := p1
      simp only [SX, p1', t2, Ok_some]
      refine .inl ⟨trivial, v', r16, r17, by rw [show ((k + 1 : Nat) : Int) = (k : Int) + 1 by omega]; rfl, rfl, p4 _ (hle.add _) (Nat.le_refl _), ?_⟩
      rw [List.take_succ_eq_append_getElem hke, List.map_append]
      exact p2
    · rintro R W' ⟨out, r16, r17, r18, r4, hle, hL⟩
      unfold heaps_Queueapi_HoEntry_sorted_L1
      have t1 : ¬ ((n : Int) < (n : Int)) := by omega
      simp only [SX, r16, r17, r18, t1, Ok_some]
      rw [List.take_of_length_le (by omega)] at hL
      exact ⟨by simp, trivial, out, r4, hle, Lst.low hL (by have := l3.next; omega)⟩
    · rintro ⟨x, R, W'⟩ ⟨hx, out, r4, hle, hL⟩
      simp only at hx r4 hle hL
      subst hx
      simp only [SX, r4, Ok_some]
      exact ⟨(l1.trans l3).trans hle, hL⟩
  obtain ⟨l, hs, main⟩ := main
  obtain ⟨v, W2, k1, k2, k3⟩ := om_lst main heaps_Queueapi_HoEntry_sorted_om
  exact ⟨W2, v, l, k1, k2, k3, hs⟩
end
end Go.Proofs.Ytkpgmabebjmahaa.Ho
/- A queue: Save, All. -/
namespace Go.Proofs.Ytkpgmabebjmahaa.Ho
open Go Go.Eng Go.Hp
set_option linter.unusedVariables false
set_option linter.unusedSimpArgs false
set_option linter.unusedSectionVars false
set_option maxRecDepth 100000
theorem al65 (W : AW) : oAlloc Try.prog 205 W = some (.pointer (some ⟨W.next, 0, none⟩), W.add (.cells [.int .i64 0, .int .i64 0, .int .i64 0])) := Eq.trans (by kernel_rfl) rfl
theorem len58 : ((#[202] : Array TypeId)[0]?).bind Try.prog.underlying = some (.slice 205) := by kernel_rfl
section
variable {W : AW} {In : Nat → Prop} {q mh : Nat} {less : Value} {ls : Int × Int → Int × Int → Bool} {nx : Int} {n : Nat} {f : Nat → En}
/-! ### All -/
theorem all_fn (W : AW) (q : Nat) : omS (.func (.func 82) #[] #[]) [qV q] W = some (.func (.func 109) #[] #[.pointer (some ⟨W.next, 0, none⟩)], W.add (.cells [qV q])) := by
  have oBoxP : ∀ W, oBox (qV q) W = some (.pointer (some ⟨W.next, 0, none⟩), W.add (.cells [qV q])) := fun W => rfl
  have : heaps_Queueapi_HoEntry_All omS (qV q) W = some (.func (.func 109) #[] #[.pointer (some ⟨W.next, 0, none⟩)], W.add (.cells [qV q])) := by
    unfold heaps_Queueapi_HoEntry_All
    simp only [SX, oBoxP]
  rw [heaps_Queueapi_HoEntry_All_om this, gc_not rfl]
theorem all1_ok (o : Ord (bef ls)) (hl : IsLess1 less ls) (hlz : ∀ D, liesD D less) (h : QS W In q mh less ls nx n f) (hn : n ≤ 10000) {X : Nat} (hX : W.get X = some (.cells [qV q])) {y : Value} :
    ∃ l W1, Srt ls n f l ∧ Le W W1 ∧ ∀ (J : List (Int × (Int × Int)) → AW → Prop) (D : AW → Prop), J [] W1 → (∀ pre W', J pre W' → W1.next ≤ W'.next ∧ ∀ b, W.next ≤ b → b < W1.next → W'.get b = W1.get b) →
      (∀ pre x W' cs, pre ++ [x] <+: l → J pre W' → ∃ r W2, omS y [.int .i64 x.1, hoV x.2] (W'.add (.cells cs)) = some (.bool r, W2) ∧ (r = true → J (pre ++ [x]) W2) ∧ (r = false → D W2)) →
      ∃ W', omS (.func (.func 109) #[] #[.pointer (some ⟨X, 0, none⟩)]) [y] W = some (.tuple #[], W') ∧ (J l W' ∨ D W') := by
  have hm := made_ok h
  obtain ⟨W1, v, l, s1, s2, s3, s4⟩ := sorted_ok o hl hlz h hn
  refine ⟨l, W1, s4, s2, fun J D h0 hk step => ?_⟩
  have main : Ok (heaps_Queueapi_HoEntry_All_1 omS y (.pointer (some ⟨X, 0, none⟩)) W) fun r => r.1 = .tuple #[] ∧ (J l r.2 ∨ D r.2) := by
    have hlen := (Lst.items s3).len len58
    have hget : ∀ i (hi : i < l.length) W', (W1.next ≤ W'.next ∧ ∀ b, W.next ≤ b → b < W1.next → W'.get b = W1.get b) → ∃ p, (∀ W2 kk, ixS 3 v (.int kk (i : Int)) W2 = some (p, W2)) ∧ ldA 3 p W' = some (.agg #[.int .i64 l[i].1, .int .i64 l[i].2.1, .int .i64 l[i].2.2], W') := by
      intro i hi W' ⟨hn', hg'⟩
      rcases s3 with ⟨h0, e⟩ | ⟨h0, B, b1, b2, e, b3⟩
      · subst h0; simp at hi
      · subst e
        refine ⟨.pointer (some ⟨B, i * 3, none⟩), fun W2 kk => by rw [ixS_ok hi, Nat.zero_add], ?_⟩
        have hc : cellsAt W' B = some (l.flatMap itC) := cellsAt_of ((hg' B b1 b2).trans b3)
        have e : l.flatMap itC = (l.take i).flatMap itC ++ (itC l[i] ++ (l.drop (i + 1)).flatMap itC) := by
          rw [← List.flatMap_cons, ← List.drop_eq_getElem_cons hi, ← List.flatMap_append, List.take_append_drop]
        have e2 : ((l.take i).flatMap itC).length = i * 3 := by rw [flatMap_len itC_len, List.length_take, Nat.min_eq_left (by omega)]
        have e3 : ((l.flatMap itC).drop (i * 3)).take 3 = [.int .i64 l[i].1, .int .i64 l[i].2.1, .int .i64 l[i].2.2] := by
          rw [e, ← e2, List.drop_left]
          rfl
        have := ldA_ok (n := 3) (o := i * 3) hc (by rw [e3]; rfl)
        rw [e3] at this
        exact this
    have hl' : l.length ≤ 10000 := by rw [s4.perm.length_eq, List.length_map, all_len]; exact hn
    unfold heaps_Queueapi_HoEntry_All_1
    simp only [SX, ldR (o := 0) (rwOf hX) rfl, hm, s1, hlen]
    refine Ok_loop l.length (by omega) (fun k R W' => R 0 = y ∧ R 9 = v ∧ R 10 = .int .i64 (l.length : Int) ∧ R 11 = .int .i64 (k : Int) ∧ J (l.take k) W')
      (fun r => (r.1 = .exit 0 ∧ J l r.2.2) ∨ (r.1 = .ret ∧ D r.2.2)) ⟨rfl, rfl, rfl, rfl, by rw [List.take_zero]; exact h0⟩ ?_ ?_ ?_
    · rintro k R W' hk' ⟨r0, r9, r10, r11, hJ⟩
      unfold heaps_Queueapi_HoEntry_All_1_L1
      obtain ⟨p, f1, f2⟩ := hget k hk' W' (hk _ _ hJ)
      have t1 : ((k : Int) < (l.length : Int)) := by omega
      have t2 := fun W' => oBin_add (P := Try.prog) (W := W') (t := 3) (c := false) (d := true) (a := (k : Int)) (b := 1) (by omega) (by omega)
      have e2 : setN [Value.int .i64 0, .int .i64 0, .int .i64 0] 0 [.int .i64 l[k].1, .int .i64 l[k].2.1, .int .i64 l[k].2.2] = [.int .i64 l[k].1, .int .i64 l[k].2.1, .int .i64 l[k].2.2] := rfl
      have st : stV 3 (.pointer (some ⟨W'.next, 0, none⟩)) (.agg #[.int .i64 l[k].1, .int .i64 l[k].2.1, .int .i64 l[k].2.2]) (W'.add (.cells [.int .i64 0, .int .i64 0, .int .i64 0])) = some (undef, W'.add (.cells [.int .i64 l[k].1, .int .i64 l[k].2.1, .int .i64 l[k].2.2])) := by
        rw [stV_agg, rwCells_new, Option.bind_some, if_pos ⟨rfl, by simp, rfl⟩, add_put]
        rfl
      have a1 : ldC (.pointer (some ⟨W'.next, 0, none⟩)) (W'.add (.cells [.int .i64 l[k].1, .int .i64 l[k].2.1, .int .i64 l[k].2.2])) = some (.int .i64 l[k].1, W'.add (.cells [.int .i64 l[k].1, .int .i64 l[k].2.1, .int .i64 l[k].2.2])) := ldR rwCells_new rfl
      have a2 : ldA 2 (.pointer (some ⟨W'.next, 1, none⟩)) (W'.add (.cells [.int .i64 l[k].1, .int .i64 l[k].2.1, .int .i64 l[k].2.2])) = some (hoV l[k].2, W'.add (.cells [.int .i64 l[k].1, .int .i64 l[k].2.1, .int .i64 l[k].2.2])) := ldA_ok cellsAt_new rfl
      have hpre : l.take k ++ [l[k]] <+: l := by rw [← List.take_succ_eq_append_getElem hk']; exact List.take_prefix _ _
      obtain ⟨r, W2, y1, y2, y3⟩ := step _ _ _ [.int .i64 l[k].1, .int .i64 l[k].2.1, .int .i64 l[k].2.2] hpre hJ
      cases r
      · simp only [SX, r0, r9, r10, r11, t1, f1, f2, al65, st, Nat.zero_add, a1, a2, y1, Ok_some]
        exact .inr ⟨by simp, .inr ⟨trivial, y3 rfl⟩⟩
      · simp only [SX, r0, r9, r10, r11, t1, f1, f2, al65, st, Nat.zero_add, a1, a2, y1, t2, Ok_some]
        refine .inl ⟨trivial, r0, r9, r10, by rw [show ((k + 1 : Nat) : Int) = (k : Int) + 1 by omega]; rfl, ?_⟩
        rw [List.take_succ_eq_append_getElem hk']
        exact y2 rfl
    · rintro R W' ⟨r0, r9, r10, r11, hJ⟩
      unfold heaps_Queueapi_HoEntry_All_1_L1
      have t1 : ¬ ((l.length : Int) < (l.length : Int)) := by omega
      simp only [SX, r0, r9, r10, r11, t1, Ok_some]
      rw [List.take_length] at hJ
      exact ⟨by simp, .inl ⟨trivial, hJ⟩⟩
    · rintro ⟨x, R, W'⟩ hq
      simp only at hq
      rcases hq with ⟨rfl, hq⟩ | ⟨rfl, hq⟩
      · simp only [SX, Ok_some]
        exact ⟨trivial, .inl hq⟩
      · simp only [SX, Ok_some]
        exact ⟨trivial, .inr hq⟩
  obtain ⟨⟨r, W'⟩, k1, k2, k3⟩ := main
  simp only at k2 k3
  subst k2
  exact ⟨W', by rw [heaps_Queueapi_HoEntry_All_1_om k1, gc_not rfl], k3⟩
end
end Go.Proofs.Ytkpgmabebjmahaa.Ho
/- What ranges over a queue; walked, Same. -/
namespace Go.Proofs.Ytkpgmabebjmahaa.Ho
open Go Go.Eng Go.Hp
set_option linter.unusedVariables false
set_option linter.unusedSimpArgs false
set_option linter.unusedSectionVars false
set_option maxRecDepth 100000
section
variable {W : AW} {In : Nat → Prop} {q mh : Nat} {less : Value} {ls : Int × Int → Int × Int → Bool} {nx : Int} {n : Nat} {f : Nat → En}
theorem Ok_all {X nt : Nat} {R : Nat → Value} {ps : Array Tmp} {ac bd : Code} {ρ : Type} {K : Eng.X × AW → Option ρ} {G : ρ → Prop} (o : Ord (bef ls)) (hl : IsLess1 less ls) (hlz : ∀ D, liesD D less) (h : QS W In q mh less ls nx n f) (hn : n ≤ 10000) (hX : W.get X = some (.cells [qV q])) (hXl : X < W.next) (hp : ps.size = 2)
    (J : List (Int × (Int × Int)) → Nat → List (Int × (Int × Int)) → AW → Prop) (Q : Eng.X → AW → Prop)
    (fr : (Nat → Value) → Int × (Int × Int) → Nat → Nat → Value) (has : ∀ x W', kCode Try.prog omS false nt ac LT (zipGo ps.toList [.int .i64 x.1, hoV x.2] R) W' ret3 = some (.normal, fr R x W'.next, W'.add (.cells [.int .i64 x.2.1, .int .i64 x.2.2])))
    (h0 : ∀ l W1, Srt ls n f l → Le (W.add (.loop .ready none R nt ps ac bd)) W1 → J l W1.next [] W1)
    (hA : ∀ l N pre W' cs, J l N pre W' → W.next < N → N ≤ W'.next → J l N pre (W'.add (.cells cs)))
    (hP : ∀ l N pre W' b, J l N pre W' → J l N pre (W'.put W.next b)) (hQ : ∀ x W' b, Q x W' → Q x (W'.put W.next b))
    (step : ∀ l N pre x W' R' b, R' = fr R x b → W'.get b = some (.cells [.int .i64 x.2.1, .int .i64 x.2.2]) → N ≤ b → b < W'.next → Srt ls n f l → pre ++ [x] <+: l → J l N pre W' → W.next < N → N ≤ W'.next →
      Ok (kCode Try.prog omS false nt bd LT R' W' ret3) fun r => W'.next ≤ r.2.2.next ∧ (∀ b, W.next ≤ b → b < N → r.2.2.get b = W'.get b) ∧ ((r.1 = .normal ∧ J l N (pre ++ [x]) r.2.2) ∨ (r.1 ≠ .normal ∧ Q r.1 r.2.2)))
    (after : ∀ l N x W2, Srt ls n f l → (x = .normal ∧ J l N l W2) ∨ (x ≠ .normal ∧ Q x W2) → Ok (K (x, W2.kill W.next)) G) :
    Ok (bnd (oRange omS (.func (.func 109) #[] #[.pointer (some ⟨X, 0, none⟩)]) (.loop .ready none R nt ps ac bd) W) K) G := by
  generalize hWl : W.add (.loop .ready none R nt ps ac bd) = Wl at *
  have gl : ∀ b, b < W.next → Wl.get b = W.get b := fun b hb => by rw [← hWl]; exact AW.get_add_ne _ _ (by omega)
  have nl : Wl.next = W.next + 1 := by rw [← hWl, AW.add_next]
  have ll : Wl.get W.next = some (.loop .ready none R nt ps ac bd) := by rw [← hWl]; exact AW.get_add _ _
  have hL : QS Wl In q mh less ls nx n f := h.keep (by omega) (fun b hb _ => gl b hb) (fun b _ hi => hi)
  obtain ⟨l, W1, s1, s2, s3⟩ := all1_ok o hl hlz hL hn ((gl X hXl).trans hX) (y := .func (.yield W.next) #[] #[])
  have n1 : W.next < W1.next := by have := s2.next; omega
  obtain ⟨W2, k1, k2⟩ := s3
    (fun pre V => J l W1.next pre V ∧ V.get W.next = some (.loop .ready none R nt ps ac bd) ∧ W1.next ≤ V.next ∧ ∀ b, Wl.next ≤ b → b < W1.next → V.get b = W1.get b)
    (fun V => ∃ x, x ≠ .normal ∧ Q x V ∧ V.get W.next = some (.loop .done x.jump R nt ps ac bd))
    ⟨h0 l W1 s1 s2, (s2.get _ (by omega)).trans ll, Nat.le_refl _, fun b _ _ => rfl⟩ (fun pre V hV => hV.2.2)
    (fun pre x V cs hpre ⟨hJ, hget, hn1, hg⟩ => by
      have hJ1 := hA _ _ _ _ cs hJ n1 hn1
      have hJ2 := hP _ _ _ _ (.loop .busy none R nt ps ac bd) (hA _ _ _ _ [.int .i64 x.2.1, .int .i64 x.2.2] hJ1 n1 (by rw [AW.add_next]; omega))
      obtain ⟨⟨x1, R2, W3⟩, e1, e2, e3, e4⟩ := step l W1.next pre x _ _ (V.add (.cells cs)).next rfl (by rw [AW.get_put_ne _ _ (by rw [AW.add_next]; omega)]; exact AW.get_add _ _) (by rw [AW.add_next]; omega) (by simp only [AW.put_next, AW.add_next]; omega) s1 hpre hJ2 n1 (by rw [AW.put_next, AW.add_next, AW.add_next]; omega)
      simp only at e1 e2 e3 e4
      have hbusy : W3.get W.next = some (.loop .busy none R nt ps ac bd) := by rw [e3 _ (Nat.le_refl _) n1, AW.get_put]
      have hget1 : (V.add (.cells cs)).get W.next = some (.loop .ready none R nt ps ac bd) := by rw [AW.get_add_ne _ _ (by omega)]; exact hget
      have hget2 : ((V.add (.cells cs)).add (.cells [.int .i64 x.2.1, .int .i64 x.2.2])).get W.next = some (.loop .ready none R nt ps ac bd) := by rw [AW.get_add_ne _ _ (by rw [AW.add_next]; omega)]; exact hget1
      have hy := yield_gen (P := Try.prog) (args := [.int .i64 x.1, hoV x.2]) hget1 (by rw [hp]; rfl) (has x _) hget2 e1 hbusy
      have hn3 : W1.next ≤ W3.next := by rw [AW.put_next, AW.add_next, AW.add_next] at e2; omega
      have hg3 : ∀ o' b, Wl.next ≤ b → b < W1.next → (W3.put W.next o').get b = W1.get b := fun o' b hb1 hb2 => by
        rw [AW.get_put_ne _ _ (by omega), e3 b (by omega) hb2, AW.get_put_ne _ _ (by omega), AW.get_add_ne _ _ (by rw [AW.add_next]; omega), AW.get_add_ne _ _ (by omega)]
        exact hg b hb1 hb2
      rcases e4 with ⟨rfl, e4⟩ | ⟨kx, e4⟩
      · exact ⟨true, _, hy, fun _ => ⟨hP _ _ _ _ _ e4, AW.get_put _ _ _, by rw [AW.put_next]; exact hn3, hg3 _⟩, fun h => by cases h⟩
      · refine ⟨false, W3.put W.next (.loop .done x1.jump R nt ps ac bd), ?_, fun h => by (cases h), fun _ => ⟨x1, kx, hQ _ _ _ e4, AW.get_put _ _ _⟩⟩
        refine hy.trans ?_
        cases x1 with
        | normal => exact absurd rfl kx
        | exit i => rfl
        | ret => rfl)
  rcases k2 with ⟨k2, k3, -⟩ | ⟨x, k2, k3, k4⟩
  · rw [range_normal (by rw [hWl]; exact k1) k3 (by simp), bnd_some]
    exact after l _ _ W2 s1 (.inl ⟨rfl, k2⟩)
  · rw [range_jump (by rw [hWl]; exact k1) k4, bnd_some]
    exact after l W1.next _ W2 s1 (.inr ⟨k2, k3⟩)
end
end Go.Proofs.Ytkpgmabebjmahaa.Ho
/- What is sorted is one; Same. -/
namespace Go.Proofs.Ytkpgmabebjmahaa
open Go Go.Eng Go.Hp
set_option linter.unusedVariables false
set_option linter.unusedSimpArgs false
set_option linter.unusedSectionVars false
set_option maxRecDepth 100000
/-- what is sorted, its handles different, is one list -/
theorem sort_uniq {ls : Int → Int → Bool} : ∀ {l l' : List (Int × Int)}, l.Perm l' → l.Pairwise (fun a b => befP ls b a = false) → l'.Pairwise (fun a b => befP ls b a = false) → (∀ a ∈ l, ∀ b ∈ l, a.1 = b.1 → a = b) → l = l'
  | [], l', hp, _, _, _ => (List.nil_perm.1 hp).symm
  | a :: l, [], hp, _, _, _ => absurd hp.length_eq (by simp)
  | a :: l, b :: l', hp, h1, h2, hd => by
    have hab : a = b := by
      by_cases e : a = b
      · exact e
      · exfalso
        have ha : a ∈ l' := by
          rcases List.mem_cons.1 (hp.mem_iff.1 (List.mem_cons_self ..)) with h | h
          · exact absurd h e
          · exact h
        have hb : b ∈ l := by
          rcases List.mem_cons.1 (hp.mem_iff.2 (List.mem_cons_self ..)) with h | h
          · exact absurd h.symm e
          · exact h
        have x1 := List.rel_of_pairwise_cons h1 hb
        have x2 := List.rel_of_pairwise_cons h2 ha
        have x3 : a.1 ≠ b.1 := fun h => e (hd a (List.mem_cons_self ..) b (List.mem_cons_of_mem _ hb) h)
        unfold befP at x1 x2
        simp only [Bool.or_eq_false_iff, Bool.and_eq_false_imp, Bool.not_eq_true', decide_eq_false_iff_not] at x1 x2
        have y1 := x1.2 x2.1
        have y2 := x2.2 x1.1
        omega
    subst hab
    rw [sort_uniq (List.Perm.cons_inv hp) (List.Pairwise.of_cons h1) (List.Pairwise.of_cons h2) fun x hx y hy => hd x (List.mem_cons_of_mem _ hx) y (List.mem_cons_of_mem _ hy)]
/-- the handles of a queue are different -/
theorem QS.diff {W : AW} {In : Nat → Prop} {q mh : Nat} {less : Value} {ls : Int → Int → Bool} {nx : Int} {n : Nat} {f : Nat → En} (h : QS W In q mh less ls nx n f) {l : List (Int × Int)} (hl : l.Perm ((all n f).map hv)) : ∀ a ∈ l, ∀ b ∈ l, a.1 = b.1 → a = b := by
  intro a ha b hb e
  obtain ⟨x, hx, rfl⟩ := List.mem_map.1 (hl.mem_iff.1 ha)
  obtain ⟨y, hy, rfl⟩ := List.mem_map.1 (hl.mem_iff.1 hb)
  obtain ⟨i, hi, rfl⟩ := all_mem.1 hx
  obtain ⟨j, hj, rfl⟩ := all_mem.1 hy
  rw [h.fresh hi hj e]
theorem Srt.eq {W : AW} {In : Nat → Prop} {q mh : Nat} {less : Value} {ls : Int → Int → Bool} {nx : Int} {n m : Nat} {f g : Nat → En} {l l' : List (Int × Int)} (h : QS W In q mh less ls nx n f) (h1 : Srt ls n f l) (h2 : Srt ls m g l') (hp : ((all m g).map hv).Perm ((all n f).map hv)) : l' = l := by
  refine sort_uniq (h2.perm.trans (hp.trans h1.perm.symm)) h2.sort h1.sort (h.diff (h2.perm.trans hp))
theorem Items.get {W : AW} {v : Value} {l : List (Int × Int)} (h : Items W v l) {i : Nat} (hi : i < l.length) :
    ∃ b o, (∀ W' k, ixS 2 v (.int k (i : Int)) W' = some (.pointer (some ⟨b, o, none⟩), W')) ∧ b < W.next ∧ ∀ W', W'.get b = W.get b → ldA 2 (.pointer (some ⟨b, o, none⟩)) W' = some (.agg #[.int .i64 l[i].1, .int .i64 l[i].2], W') ∧ ldC (.pointer (some ⟨b, o, none⟩)) W' = some (.int .i64 l[i].1, W') := by
  obtain ⟨b, o, cs, h1, h2, h3, h4, h5⟩ := h.elem hi
  refine ⟨b, o, h1, h2, fun W' hg => ?_⟩
  have hc : cellsAt W' b = some cs := by
    have : cellsAt W' b = cellsAt W b := by unfold cellsAt; rw [hg]
    rw [this]; exact h3
  refine ⟨?_, ldC_ok hc h4⟩
  have e3 : (cs.drop o).take 2 = [.int .i64 l[i].1, .int .i64 l[i].2] := by
    obtain ⟨a1, a2⟩ := List.getElem?_eq_some_iff.1 h4
    obtain ⟨b1, b2⟩ := List.getElem?_eq_some_iff.1 h5
    rw [List.drop_eq_getElem_cons a1, List.drop_eq_getElem_cons b1, a2, b2]
    rfl
  have := ldA_ok (n := 2) (o := o) hc (by rw [e3]; rfl)
  rw [e3] at this
  exact this
end Go.Proofs.Ytkpgmabebjmahaa
/- HeapsHandles: what it rests on. -/
namespace Go.Proofs.Ytkpgmabebjmahaa
open Go Go.Eng Go.Hp
set_option linter.unusedVariables false
set_option linter.unusedSimpArgs false
set_option linter.unusedSectionVars false
set_option maxRecDepth 100000
/-- the greater one of a number and its complement -/
def mx (a : Int) : Int := max a (IntKind.i64.wrap (-(IntKind.i64.wrap (a + 1))))
/-! ### lists that are built side by side -/
def LstA {α : Type} (W : AW) (z : Nat) (f : α → List Value) (v : Value) (l : List α) (bo : Option Nat) : Prop :=
  (l = [] ∧ v = .slice none 0 0 ∧ bo = none) ∨ (l ≠ [] ∧ ∃ B, bo = some B ∧ B < W.next ∧ v = .slice (some ⟨B, 0, none⟩) l.length (BIG + z) ∧ W.get B = some (.cells (l.flatMap f)))
theorem LstA.keep {α : Type} {W W' : AW} {z : Nat} {f : α → List Value} {v : Value} {l : List α} {bo : Option Nat} (h : LstA W z f v l bo) (hn : W.next ≤ W'.next) (hg : ∀ B, bo = some B → W'.get B = W.get B) : LstA W' z f v l bo := by
  rcases h with h | ⟨h0, B, h1, h2, h3, h4⟩
  · exact .inl h
  · exact .inr ⟨h0, B, h1, by omega, h3, (hg B h1).trans h4⟩
theorem LstA.lt {α : Type} {W : AW} {z : Nat} {f : α → List Value} {v : Value} {l : List α} {bo : Option Nat} (h : LstA W z f v l bo) {B : Nat} (hB : bo = some B) : B < W.next := by
  rcases h with ⟨-, -, h⟩ | ⟨h0, B', h1, h2, -⟩
  · rw [h] at hB; cases hB
  · rw [h1] at hB; injection hB with hB; omega
theorem LstA.push {α : Type} {P : Program} {W : AW} {ts : Array TypeId} {z bytes : Nat} {f : α → List Value} {v : Value} {l : List α} {bo : Option Nat} {a : α} (hk : appOk P ts z bytes = true) (hf : ∀ a, (f a).length = z) (h1 : ∀ a, (f a).all Eng.one = true)
    (h : LstA W z f v l bo) {b c : Nat} (hc : cellsAt W b = some (f a)) (hb : l.length + 1 < 1099511627776) (hb2 : (2 * (l.length + 1) + 192) * bytes ≤ 281474976710656) :
    ∃ v' W', aAppend P W ts v (.slice (some ⟨b, 0, none⟩) 1 c) = some (v', W') ∧ LstA W' z f v' (l ++ [a]) (some W.next) ∧ W'.next = W.next + 1 ∧ ∀ b, b < W.next → bo ≠ some b → W'.get b = W.get b := by
  have hn : f a = ((f a).drop 0).take (1 * z) := by rw [List.drop_zero, Nat.one_mul, ← hf a, List.take_length]
  have hl : (f a).length = 1 * z := by rw [hf]; omega
  rcases h with ⟨rfl, rfl, rfl⟩ | ⟨h0, B, rfl, i2, rfl, i4⟩
  · refine ⟨_, _, app_nil (b := b) (o := 0) (c := c) hk hc hn hl (by omega) (h1 a) (by omega) (by simpa using hb2), .inr ⟨by simp, W.next, rfl, by rw [AW.add_next]; omega, by simp, by rw [AW.get_add]; simp⟩, AW.add_next _ _, fun d hd _ => AW.get_add_ne _ _ (by omega)⟩
  · have hpos : 0 < l.length := List.length_pos_iff.2 h0
    refine ⟨_, _, app_on (b := b) (o := 0) (c := c) hk hc hn hl (by omega) (h1 a) i4 (flatMap_len hf l) (by omega) hb2 hpos, .inr ⟨by simp, W.next, rfl, by rw [AW.add_next, AW.kill_next]; omega, by simp [AW.kill_next], ?_⟩, by rw [AW.add_next, AW.kill_next], fun d hd hne => ?_⟩
    · have := (W.kill B).get_add (.cells (l.flatMap f ++ f a))
      rw [AW.kill_next] at this
      rw [this, List.flatMap_append]
      simp
    · rw [AW.get_add_ne _ _ (by rw [AW.kill_next]; omega), AW.get_kill_ne _ (fun e => hne (by rw [e]))]
/-! ### one push and its removal -/
section
variable {W : AW} {In : Nat → Prop} {q mh : Nat} {less : Value} {ls : Int → Int → Bool} {nx : Int} {n : Nat} {f : Nat → En}
end
end Go.Proofs.Ytkpgmabebjmahaa
/- HeapsHandles: at every kind, numbers and pair. -/
namespace Go.Proofs.Ytkpgmabebjmahaa
open Go Go.Eng Go.Hp
set_option linter.unusedVariables false
set_option linter.unusedSimpArgs false
set_option linter.unusedSectionVars false
set_option maxRecDepth 100000
theorem lz_of (k : Nat) (D : Nat → Prop) : liesD D (.func (.func k) #[] #[]) := liesD_func (by simp) (by simp)
/-- what a list loses -/
def but (h : Int) (l : List (Int × Int)) : List (Int × Int) := l.filter fun x => !decide (x.1 = h)
end Go.Proofs.Ytkpgmabebjmahaa
/- Holds: Save; Same. -/
namespace Go.Proofs.Ytkpgmabebjmahaa.Ho
open Go Go.Eng Go.Hp
set_option linter.unusedVariables false
set_option linter.unusedSimpArgs false
set_option linter.unusedSectionVars false
set_option maxRecDepth 100000
theorem save1_ok (a b : Int × Int) (W : AW) : om1 (.func (.func 84) #[] #[]) [hoV a, hoV b] W = some (.int .i64 (cmpI a.1 b.1), W) := by
  refine om_drop rfl ?_ holds_Holds_Save_1_om1
  unfold holds_Holds_Save_1
  have oB : ∀ (v : Int × Int) W, oBox (hoV v) W = some (.pointer (some ⟨W.next, 0, none⟩), W.add (.cells [.int .i64 v.1, .int .i64 v.2])) := fun v W => oBox_agg _
  generalize hW2 : (W.add (.cells [.int .i64 a.1, .int .i64 a.2])).add (.cells [.int .i64 b.1, .int .i64 b.2]) = W2
  have n1 : (W.add (.cells [.int .i64 a.1, .int .i64 a.2])).next = W.next + 1 := AW.add_next _ _
  have xa : W2.get W.next = some (.cells [.int .i64 a.1, .int .i64 a.2]) := by rw [← hW2, AW.get_add_ne _ _ (by rw [n1]; omega)]; exact AW.get_add _ _
  have xb : W2.get (W.next + 1) = some (.cells [.int .i64 b.1, .int .i64 b.2]) := by
    rw [← hW2]
    have := (W.add (.cells [.int .i64 a.1, .int .i64 a.2])).get_add (.cells [.int .i64 b.1, .int .i64 b.2])
    rwa [n1] at this
  have l2 : Le W W2 := by rw [← hW2]; exact ((Le.refl _).add _).add _
  simp only [SX, oB, n1, hW2, Nat.zero_add, ldR (o := 0) (rwOf xa) rfl, ldR (o := 0) (rwOf xb) rfl, cmp_ok, Ok_some]
  exact ⟨trivial, l2⟩
theorem body84 : HasBody Try.prog 84 := ⟨_, _, Try.func84, by kernel_rfl, rfl⟩
theorem flatC (l : List (Int × Int)) : (l.map hoC).flatten = l.flatMap hoC := by
  induction l with
  | nil => rfl
  | cons a l ih => rw [List.map_cons, List.flatten_cons, ih]; rfl
theorem cmpI_lt (a b : Int) : cmpI a b < 0 ↔ a < b := by
  unfold cmpI
  repeat' split
  all_goals omega
theorem sortC_ok {V : AW} {l : List (Int × Int)} {B c : Nat} (h0 : l ≠ []) (hl : l.length ≤ 10000) (hB : V.get B = some (.cells (l.flatMap hoC))) : ∃ l' : List (Int × Int), l'.Perm l ∧ l'.Pairwise (fun a b => a.1 ≤ b.1) ∧ omS (.func (.func 83) #[] #[]) [.slice (some ⟨B, 0, none⟩) l.length c, .func (.func 84) #[] #[]] V = some (.tuple #[], V.put B (.cells (l'.flatMap hoC))) := by
  have hpos : 0 < l.length := List.length_pos_iff.2 h0
  have hO : OrdN l.length (fun i j => cmpI (l.getD i (0, 0)).1 (l.getD j (0, 0)).1) := ⟨fun i _ h => by rw [cmpI_lt] at h; omega, fun i j k _ _ _ h1 h2 => by rw [cmpI_lt] at *; omega, fun i j k _ _ _ h1 h2 => by rw [cmpI_lt] at *; omega⟩
  obtain ⟨l', e1, e2, e3⟩ := sortR_of l hoC (fun a b => decide (a.1 < b.1)) hO hpos fun i j hi hj => by
    rw [cmpI_lt]
    simp [List.getD_eq_getElem?_getD, hi, hj]
  refine ⟨l', e1, e2.imp fun {a b} h => by have := of_decide_eq_false h; omega, sort83_ok ?_⟩
  refine .inr ⟨B, c, l.map hoC, [], 84, #[], fun i j => cmpI (l.getD i (0, 0)).1 (l.getD j (0, 0)).1, ⟨?_, ?_, ?_, ?_, ?_, ?_, ?_, ?_, ?_, body84, ?_, ?_, ?_⟩⟩
  · intro h
    have := congrArg List.length h
    rw [List.length_map] at this
    simp at this; exact h0 this
  · rw [List.length_map]; omega
  · intro r hr
    obtain ⟨e, -, rfl⟩ := List.mem_map.1 hr
    rfl
  · intro r hr v hv
    obtain ⟨e, -, rfl⟩ := List.mem_map.1 hr
    simp only [hoC, List.mem_cons, List.not_mem_nil, or_false] at hv
    rcases hv with rfl | rfl <;> rfl
  · rw [List.length_map]
  · rw [flatC, List.append_nil]; exact hB
  · intro r hr v hv
    obtain ⟨e, -, rfl⟩ := List.mem_map.1 hr
    simp only [hoC, List.mem_cons, List.not_mem_nil, or_false] at hv
    exact liesD_plain (by rcases hv with rfl | rfl <;> rfl)
  · intro v hv; simp at hv
  · intro g hg; cases hg
  · intro i j hi hj
    rw [List.length_map] at hi hj
    rw [List.getElem_map, List.getElem_map]
    have e4 : ∀ x : Int × Int, elV true (hoC x) = hoV x := fun x => rfl
    rw [e4, e4]
    refine (ansOm_at (save1_ok _ _ _)).trans ?_
    simp [List.getD_eq_getElem?_getD, hi, hj]
  · rw [List.length_map]; exact hO
  · rw [e3, flatC, List.append_nil]
theorem al39 (W : AW) : oAlloc Try.prog 39 W = some (.pointer (some ⟨W.next, 0, none⟩), W.add (.cells [.slice none 0 0])) := Eq.trans (by kernel_rfl) rfl
theorem hv_len {ls : Int × Int → Int × Int → Bool} {n : Nat} {f : Nat → En} {l : List (Int × (Int × Int))} (h : Srt ls n f l) : l.length = n := by rw [h.perm.length_eq, List.length_map, all_len]
section
variable {W : AW} {In : Nat → Prop} {H q mh hm : Nat} {seats nx : Int} {n : Nat} {f : Nat → En}
theorem hSave_ok (h : HS W In H q mh hm seats nx n f) (hn : n ≤ 5000) :
    ∃ W' v, ∃ l : List (Int × Int), omS (.func (.func 43) #[] #[]) [hP H] W = some (v, W') ∧ Le W W' ∧ Lst W.next W' 2 hoC v l ∧ l.Perm (ents n f) ∧ l.Pairwise (fun a b => a.1 ≤ b.1) := by
  have main : Ok (holds_Holds_Save omS (hP H) W) fun r => ∃ l : List (Int × Int), (l.Perm (ents n f) ∧ l.Pairwise fun a b => a.1 ≤ b.1) ∧ Le W r.2 ∧ Lst W.next r.2 2 hoC r.1 l := by
    generalize hW1 : W.add (.cells [.slice none 0 0]) = W1
    have n1 : W1.next = W.next + 1 := by rw [← hW1, AW.add_next]
    have l1 : Le W W1 := by rw [← hW1]; exact (Le.refl _).add _
    have x1 : W1.get W.next = some (.cells [.slice none 0 0]) := by rw [← hW1]; exact AW.get_add _ _
    have h1 : HS W1 In H q mh hm seats nx n f := h.keep l1.next (fun b hb _ => l1.get b hb) (fun b _ hi => hi)
    generalize hW2 : W1.add (.cells [qV q]) = W2
    have n2 : W2.next = W1.next + 1 := by rw [← hW2, AW.add_next]
    have l2 : Le W1 W2 := by rw [← hW2]; exact (Le.refl _).add _
    have x2 : W2.get W.next = some (.cells [.slice none 0 0]) := (l2.get _ (by omega)).trans x1
    have y2 : W2.get W1.next = some (.cells [qV q]) := by rw [← hW2]; exact AW.get_add _ _
    have h2 : QS W2 _ q mh hF hoLs nx n f := h1.qs.keep l2.next (fun b hb _ => l2.get b hb) (fun b _ hi => hi)
    have e0 : ¬ seats = 0 := by have := h.sz; omega
    unfold holds_Holds_Save
    simp only [SX, pEq35, oNilCheck_ptr, Nat.zero_add, h.l0, e0, decide_false, al39, hW1, h1.l1, all_fn, hW2]
    refine Ok_all hoLs_ord hoLess1_ok (fun D => lz_of 55 D) h2 (by omega) y2 (by omega) rfl
      (fun l N pre V => pre <+: l ∧ W2.next < N ∧ N ≤ V.next ∧ (∀ b, b < W.next → V.get b = W.get b) ∧ ∃ out, V.get W.next = some (.cells [out]) ∧ Lst N V 2 hoC out (pre.map (·.2)))
      (fun _ _ => False) (fun R x b => rput (zipGo (#[20, 21] : Array Tmp).toList [.int .i64 x.1, hoV x.2] R) (some 5) (.pointer (some ⟨b, 0, none⟩))) ?_ ?_ ?_ ?_ (fun _ _ _ h => h) ?_ ?_
    · intro x W'
      rw [holds_Holds_Save_Y1a_eq]
      unfold holds_Holds_Save_Y1a
      have r21 : ∀ R : Nat → Value, zipGo (#[20, 21] : Array Tmp).toList [.int .i64 x.1, hoV x.2] R 21 = hoV x.2 := fun R => rfl
      have st := st43 x.2 (AW.get_add W' (.cells [.int .i64 0, .int .i64 0]))
      rw [add_put] at st
      simp only [SX, al43, r21, st]
    · intro l V hs hle
      have hn' := hle.next
      rw [AW.add_next] at hn'
      have hg : ∀ b, b < W2.next → V.get b = W2.get b := fun b hb => by rw [hle.get b (by rw [AW.add_next]; omega), AW.get_add_ne _ _ (by omega)]
      exact ⟨List.nil_prefix, by omega, Nat.le_refl _, fun b hb => by rw [hg b (by omega), l2.get b (by omega), l1.get b hb], _, by rw [hg _ (by omega)]; exact x2, .nil _ _ _ _⟩
    · rintro l N pre V cs ⟨a1, a2, a3, a4, out, a5, a6⟩ - -
      exact ⟨a1, a2, by rw [AW.add_next]; omega, fun b hb => by rw [AW.get_add_ne _ _ (by omega)]; exact a4 b hb, out, by rw [AW.get_add_ne _ _ (by omega)]; exact a5, a6.mono ((Le.refl _).add _)⟩
    · rintro l N pre V b ⟨a1, a2, a3, a4, out, a5, a6⟩
      exact ⟨a1, a2, by rw [AW.put_next]; omega, fun b hb => by rw [AW.get_put_ne _ _ (by omega)]; exact a4 b hb, out, by rw [AW.get_put_ne _ _ (by omega)]; exact a5, lst_at a6 fun b hb1 hb2 => ⟨by rw [AW.put_next]; exact hb2, AW.get_put_ne _ _ (by omega)⟩⟩
    · rintro l N pre x V R' bb hR hbb hbN hbV hs hpre ⟨a1, a2, a3, a4, out, a5, a6⟩ b1 b2
      have hlen := hpre.length_le
      rw [List.length_append, hv_len hs] at hlen
      simp only [List.length_cons, List.length_nil] at hlen
      rw [holds_Holds_Save_Y1b_eq]
      unfold holds_Holds_Save_Y1b
      obtain ⟨v', W4, p1, p2, p3, p4⟩ := lst_push (a := x.2) (b := V.next) (c := 1) ap39 hoC_len hoC_one (a6.mono ((Le.refl V).add (.cells (hoC x.2)))) cellsAt_new (by rw [List.length_map]; omega) (by rw [List.length_map]; omega) (by rw [AW.add_next]; omega)
      have p1' : aAppend Try.prog (V.add (.cells [.int .i64 x.2.1, .int .i64 x.2.2])) #[39, 39] out (.slice (some ⟨V.next, 0, none⟩) 1 1) = some (v', W4) := p1
      obtain ⟨a, c, rfl⟩ := lst_slice p2
      have g4 : ∀ b, b < N → W4.get b = V.get b := fun b hb => by rw [p4 b hb, AW.get_add_ne _ _ (by omega)]
      have x4 := (g4 W.next (by omega)).trans a5
      have st := stA (v := .slice a (pre.map (·.2) ++ [x.2]).length c) (o := 0) x4 (by simp) rfl rfl
      rw [show ([out] : List Value).set 0 (.slice a (pre.map (·.2) ++ [x.2]).length c) = [.slice a (pre.map (·.2) ++ [x.2]).length c] from rfl] at st
      rw [AW.add_next] at p3
      have g5 : ∀ b, b ≠ W.next → (W4.put W.next (.cells [.slice a (pre.map (·.2) ++ [x.2]).length c])).get b = W4.get b := fun b hb => AW.get_put_ne _ _ (Ne.symm hb)
      have x5 : (W4.put W.next (.cells [.slice a (pre.map (·.2) ++ [x.2]).length c])).get W.next = some (.cells [.slice a (pre.map (·.2) ++ [x.2]).length c]) := AW.get_put _ _ _
      have r3 : R' 3 = .pointer (some ⟨W.next, 0, none⟩) := by rw [hR]; rfl
      have r5 : R' 5 = .pointer (some ⟨bb, 0, none⟩) := by rw [hR]; rfl
      simp only [SX, r3, r5, ldR (o := 0) (rwOf a5) rfl, ld43 hbb, bs39, p1', st, Ok_some]
      refine ⟨by rw [AW.put_next]; omega, fun b hb1 hb2 => by rw [g5 b (by omega)]; exact g4 b hb2, .inl ⟨trivial, hpre, a2, by rw [AW.put_next]; omega, fun b hb => ?_, _, x5, ?_⟩⟩
      · rw [g5 b (by omega), g4 b (by omega)]
        exact a4 b hb
      · rw [List.map_append]
        exact lst_at p2 fun b hb1 hb2 => ⟨by rw [AW.put_next]; exact hb2, g5 b (by omega)⟩
    · rintro l N x V hs hV
      rcases hV with ⟨rfl, a1, a2, a3, a4, out, a5, a6⟩ | ⟨-, hV⟩
      · have gk : ∀ b, b ≠ W2.next → (V.kill W2.next).get b = V.get b := fun b hb => AW.get_kill_ne _ (Ne.symm hb)
        have nk : (V.kill W2.next).next = V.next := AW.kill_next _ _
        generalize V.kill W2.next = U at gk nk
        have x5 : U.get W.next = some (.cells [out]) := by rw [gk _ (by omega)]; exact a5
        have hU : Lst N U 2 hoC out (l.map (·.2)) := lst_at a6 fun b hb1 hb2 => ⟨by omega, gk b (by omega)⟩
        have hleU : Le W U := ⟨by omega, fun b hb => by rw [gk b (by omega)]; exact a4 b hb⟩
        have hpe : (l.map (·.2)).Perm (ents n f) := by
          have := hs.perm.map (·.2)
          rw [List.map_map] at this
          exact this
        have hll : (l.map (·.2)).length = n := by rw [List.length_map, hv_len hs]
        generalize l.map (·.2) = l2' at hU hpe hll
        by_cases hl0 : l2' = []
        · subst hl0
          have hout : out = .slice none 0 0 := by
            rcases hU with ⟨-, e⟩ | ⟨e, -⟩
            · exact e
            · exact absurd rfl e
          subst hout
          have hso : omS (.func (.func 83) #[] #[]) [.slice none 0 0, .func (.func 84) #[] #[]] U = some (.tuple #[], U) := sort83_ok (.inl ⟨none, 0, _, rfl, rfl⟩)
          simp only [SX, ldR (o := 0) (rwOf x5) rfl, hso, Ok_some]
          exact ⟨[], ⟨hpe, .nil⟩, hleU, .nil _ _ _ _⟩
        · rcases hU with ⟨e, -⟩ | ⟨-, B, b1, b2, rfl, b3⟩
          · exact absurd e hl0
          · obtain ⟨l3, s1, s2, s3⟩ := sortC_ok (V := U) (c := BIG + 2) hl0 (by omega) b3
            have x6 : (U.put B (.cells (l3.flatMap hoC))).get W.next = some (.cells [.slice (some ⟨B, 0, none⟩) l2'.length (BIG + 2)]) := by rw [AW.get_put_ne _ _ (by omega)]; exact x5
            simp only [SX, ldR (o := 0) (rwOf x5) rfl, s3, ldR (o := 0) (rwOf x6) rfl, Ok_some]
            refine ⟨l3, ⟨s1.trans hpe, s2⟩, ⟨by rw [AW.put_next]; exact hleU.next, fun b hb => by rw [AW.get_put_ne _ _ (by omega)]; exact hleU.get b hb⟩, .inr ⟨fun e => hl0 (by subst e; exact List.nil_perm.1 s1), B, by omega, by rw [AW.put_next]; exact b2, by rw [s1.length_eq], AW.get_put _ _ _⟩⟩
      · exact hV.elim
  obtain ⟨⟨v, W'⟩, k0, l, k1, k2⟩ := main
  obtain ⟨v2, W2, k3, k4, k5⟩ := om_lst ⟨(v, W'), k0, k2⟩ holds_Holds_Save_om
  exact ⟨W2, v2, l, k3, k4, k5, k1.1, k1.2⟩
end
end Go.Proofs.Ytkpgmabebjmahaa.Ho
/- Holds: calls that put, move and drop; Same. -/
namespace Go.Proofs.Ytkpgmabebjmahaa.Ho
open Go Go.Eng Go.Hp
set_option linter.unusedVariables false
set_option linter.unusedSimpArgs false
set_option linter.unusedSectionVars false
set_option maxRecDepth 100000
theorem g43 : Try.prog.eqGuardType Try.prog.depth 43 = false := by kernel_rfl
theorem q43 (a b a' b' : Int) : aEqS Try.prog 8 43 (.agg #[.int .i64 a, .int .i64 b]) (.agg #[.int .i64 a', .int .i64 b']) = eqAll [(a, a'), (b, b')] := by kernel_rfl
theorem neq43 (x y : Int × Int) (c d : Bool) (W : AW) : oBin Try.prog .neq 43 c d (hoV x) (hoV y) W = some (.bool (!decide (x = y)), W) := by
  refine oBin_agg_neq g43 ((q43 ..).trans ?_)
  rw [eqAll_eq]
  congr 1
  simp only [List.all_cons, List.all_nil, Bool.and_true]
  rw [Bool.eq_iff_iff]
  obtain ⟨x1, x2⟩ := x
  obtain ⟨y1, y2⟩ := y
  simp
theorem Same17_ok {W : AW} {va vb : Value} {l m : List (Int × Int)} (ha : HoL W va l) (hb : HoL W vb m) (hl : l.length ≤ 10000) : omS (.func (.func 46) #[] #[]) [va, vb] W = some (.bool (decide (l = m)), W) := by
  refine om_drop rfl ?_ ref17_Same_om
  unfold ref17_Same
  simp only [SX, ha.len len39, hb.len len39]
  by_cases hlm : l.length = m.length
  case neg =>
    have e1 : ¬ ((l.length : Int) = (m.length : Int)) := by omega
    have e2 : ¬ l = m := fun h => hlm (by rw [h])
    simp only [SX, e1, e2, decide_false, Ok_some]
    exact ⟨trivial, .refl _⟩
  have e1 : ((l.length : Int) = (m.length : Int)) := by omega
  simp only [SX, e1]
  refine Ok_loop l.length (by omega) (fun k R W' => W' = W ∧ R 0 = va ∧ R 1 = vb ∧ R 5 = .int .i64 (k : Int) ∧ l.take k = m.take k)
    (fun r => (r.1 = .exit 0 ∧ r.2.2 = W ∧ l = m) ∨ (r.1 = .ret ∧ r.2.2 = W ∧ r.2.1 4 = .bool false ∧ ¬ l = m)) ⟨rfl, rfl, rfl, rfl, by simp⟩ ?_ ?_ ?_
  · rintro k R W' hk ⟨rfl, r0, r1, r5, hE⟩
    unfold ref17_Same_L1
    obtain ⟨b, o, i1, i2, i3⟩ := HoL.get ha hk
    obtain ⟨b', o', j1, j2, j3⟩ := HoL.get hb (show k < m.length by omega)
    have t1 : ((k : Int) < (l.length : Int)) := by omega
    have t2 := fun W' => oBin_add (P := Try.prog) (W := W') (t := 3) (c := false) (d := true) (a := (k : Int)) (b := 1) (by omega) (by omega)
    simp only [SX, r0, r1, r5, ha.len len39, t1, i1, (i3 _ rfl).1, j1, (j3 _ rfl).1, neq43]
    by_cases h : l[k] = m[k]
    · simp only [SX, h, t2, Ok_some]
      refine .inl ⟨trivial, trivial, r0, r1, by rw [show ((k + 1 : Nat) : Int) = (k : Int) + 1 by omega]; rfl, ?_⟩
      rw [List.take_succ_eq_append_getElem hk, List.take_succ_eq_append_getElem (show k < m.length by omega), hE, h]
    · simp only [SX, h, decide_false, Ok_some]
      exact .inr ⟨by simp, .inr ⟨trivial, trivial, rfl, fun e => h (by subst e; rfl)⟩⟩
  · rintro R W' ⟨rfl, r0, r1, r5, hE⟩
    unfold ref17_Same_L1
    have t1 : ¬ ((l.length : Int) < (l.length : Int)) := by omega
    simp only [SX, r0, r1, r5, ha.len len39, t1, Ok_some]
    refine ⟨by simp, .inl ⟨trivial, trivial, ?_⟩⟩
    rwa [List.take_length, hlm, List.take_length] at hE
  · rintro ⟨x, R, W'⟩ hq
    simp only at hq
    rcases hq with ⟨rfl, rfl, hq⟩ | ⟨rfl, rfl, r4, hq⟩
    · simp only [SX, hq, decide_true, Ok_some]
      exact ⟨trivial, .refl _⟩
    · simp only [SX, r4, hq, decide_false, Ok_some]
      exact ⟨trivial, .refl _⟩
/-! ### whatever is called -/
section
variable {W : AW} {In : Nat → Prop} {H q mh hm : Nat} {seats nx : Int} {n : Nat} {f : Nat → En}
theorem HS.which (h : HS W In H q mh hm seats nx n f) (s : Int) : (∃ i, i < n ∧ (f i).v.1 = s) ∨ ∀ i, i < n → (f i).v.1 ≠ s := by
  by_cases hx : ∃ i, i < n ∧ (f i).v.1 = s
  · exact .inl hx
  · exact .inr fun i hi e => hx ⟨i, hi, e⟩
end
/-! ### calls -/
def caC (x : Int × Int × Int) : List Value := [.int .u8 x.1, .int .i64 x.2.1, .int .i64 x.2.2]
def caAt (cs : List Value) (p : Nat) (x : Int × Int × Int) : Prop := cs[p]? = some (.int .u8 x.1) ∧ cs[p + 1]? = some (.int .i64 x.2.1) ∧ cs[p + 2]? = some (.int .i64 x.2.2)
abbrev Cas (W : AW) (v : Value) (l : List (Int × Int × Int)) : Prop := Row W 3 caAt v l
theorem Cas.get {W : AW} {v : Value} {l : List (Int × Int × Int)} (h : Cas W v l) {i : Nat} (hi : i < l.length) :
    ∃ b o, (∀ W' k, ixS 3 v (.int k (i : Int)) W' = some (.pointer (some ⟨b, o, none⟩), W')) ∧ ∀ W', Le W W' → ldC (.pointer (some ⟨b, o, none⟩)) W' = some (.int .u8 l[i].1, W') ∧ ldC (.pointer (some ⟨b, o + 1, none⟩)) W' = some (.int .i64 l[i].2.1, W') ∧ ldC (.pointer (some ⟨b, o + 2, none⟩)) W' = some (.int .i64 l[i].2.2, W') := by
  obtain ⟨b, o, cs, h1, h2, h3, h4, h5, h6⟩ := h.elem hi
  refine ⟨b, o, h1, fun W' hle => ?_⟩
  have hc : cellsAt W' b = some cs := by rw [hle.cellsAt h2]; exact h3
  exact ⟨ldC_ok hc h4, ldC_ok hc h5, ldC_ok hc h6⟩
end Go.Proofs.Ytkpgmabebjmahaa.Ho
/- The queue sorts: the code's answer. -/
namespace Go.Proofs.Ytkpgmabebjmahaa
open Go Go.Eng Go.Hp
set_option linter.unusedVariables false
set_option linter.unusedSimpArgs false
set_option linter.unusedSectionVars false
set_option maxRecDepth 100000
theorem Gr.mono {W W' : AW} {A B : Nat → Prop} (h : Gr W W' A) (hs : ∀ b, A b → B b) : Gr W W' B := ⟨h.next, fun b hb hn => h.get b hb fun ha => hn (hs b ha)⟩
theorem Gr.le {W W' : AW} (h : Gr W W' fun b => W.next ≤ b) : Le W W' := ⟨h.next, fun b hb => h.get b hb (by omega)⟩
end Go.Proofs.Ytkpgmabebjmahaa
/- HoldsDue: it answers true. -/
namespace Go.Proofs.Ytkpgmabebjmahaa.Ho
open Go Go.Eng Go.Hp
set_option linter.unusedVariables false
set_option linter.unusedSimpArgs false
set_option linter.unusedSectionVars false
set_option maxRecDepth 100000
/-! ### plain -/
/-- different seats -/
def Dif (l : List (Int × Int)) : Prop := (l.map (·.1)).Nodup
theorem Dif.perm {l m : List (Int × Int)} (h : Dif l) (hp : m.Perm l) : Dif m := ((hp.map (fun x : Int × Int => x.1)).nodup_iff).2 h
theorem Dif.eq {l : List (Int × Int)} (h : Dif l) {a b : Int × Int} (ha : a ∈ l) (hb : b ∈ l) (e : a.1 = b.1) : a = b := by
  unfold Dif at h
  rw [List.nodup_iff_pairwise_ne, List.pairwise_map] at h
  by_cases hab : a = b
  · exact hab
  · obtain ⟨i, hi, rfl⟩ := List.mem_iff_getElem.1 ha
    obtain ⟨j, hj, rfl⟩ := List.mem_iff_getElem.1 hb
    rw [List.pairwise_iff_getElem] at h
    rcases Nat.lt_trichotomy i j with hij | hij | hij
    · exact absurd e (h i j hi hj hij)
    · subst hij; rfl
    · exact absurd e.symm (h j i hj hi hij)
theorem HS.dif {W : AW} {In : Nat → Prop} {H q mh hm : Nat} {seats nx : Int} {n : Nat} {f : Nat → En} (h : HS W In H q mh hm seats nx n f) : Dif (ents n f) := by
  unfold Dif ents all
  rw [List.map_map, List.map_map, List.nodup_iff_pairwise_ne, List.pairwise_map]
  exact List.nodup_range.imp_of_mem fun {a b} ha hb hab e => hab (h.seat (List.mem_range.1 ha) (List.mem_range.1 hb) e)
/-- what is ascending by seats is one -/
theorem seat_uniq {l m : List (Int × Int)} (hp : l.Perm m) (hl : l.Pairwise fun a b => a.1 ≤ b.1) (hm : m.Pairwise fun a b => a.1 ≤ b.1) (hd : Dif m) : l = m := by
  refine List.Perm.eq_of_pairwise (le := fun a b => a.1 ≤ b.1) (fun a b ha hb h1 h2 => ?_) hl hm hp
  exact hd.eq (hp.mem_iff.1 ha) hb (by omega)
/-- what stays -/
def stay (now : Int) (l : List (Int × Int)) : List (Int × Int) := l.filter fun x => decide (now < x.2)
section
variable {V : AW} {ov bv av : Value} {lo lb la : List (Int × Int)} {R : PlanTab.Fr} {now : Int} {ρ : Type} {K : LT → Option ρ} {G : ρ → Prop}
end
end Go.Proofs.Ytkpgmabebjmahaa.Ho
/- Two holds beside each other. -/
namespace Go.Proofs.Ytkpgmabebjmahaa.Ho
open Go Go.Eng Go.Hp
set_option linter.unusedVariables false
set_option linter.unusedSimpArgs false
set_option linter.unusedSectionVars false
set_option maxRecDepth 100000
theorem Gr.mono {W W' : AW} {A B : Nat → Prop} (h : Gr W W' A) (hs : ∀ b, A b → B b) : Gr W W' B := ⟨h.next, fun b hb hn => h.get b hb fun ha => hn (hs b ha)⟩
/-- what holds have, but for their place -/
structure St where
  q : Nat
  mh : Nat
  hm : Nat
  nx : Int
  n : Nat
  f : Nat → En
abbrev St.es (s : St) : List (Int × Int) := ents s.n s.f
abbrev HT (W : AW) (In : Nat → Prop) (H : Nat) (s : St) : Prop := HS W In H s.q s.mh s.hm 65 s.nx s.n s.f
/-- two holds that share nothing -/
def Two (K : Nat → Prop) (V : AW) (Ha Hb : Nat) (s t : St) : Prop :=
  (∀ b, V.next ≤ b → K b) ∧ ∃ A B : Nat → Prop, HT V A Ha s ∧ HT V B Hb t ∧ (∀ b, A b → K b) ∧ (∀ b, B b → K b) ∧ ∀ b, b < V.next → A b → ¬ B b
section
variable {K : Nat → Prop} {V V' : AW} {Ha Hb : Nat} {s t : St}
theorem Two.symm (h : Two K V Ha Hb s t) : Two K V Hb Ha t s := by
  obtain ⟨h0, A, B, ha, hb, ka, kb, d⟩ := h
  exact ⟨h0, B, A, hb, ha, kb, ka, fun b h1 h2 h3 => d b h1 h3 h2⟩
theorem Two.shift (h : Two K V Ha Hb s t) (l : Le V V') : Two (fun b => K b ∧ b < V.next ∨ V'.next ≤ b) V' Ha Hb s t := by
  obtain ⟨h0, A, B, ha, hb, ka, kb, d⟩ := h
  exact ⟨fun b hb => .inr hb, fun b => A b ∧ b < V.next, fun b => B b ∧ b < V.next, ha.keep l.next (fun b hb _ => l.get b hb) (fun b h1 h2 => ⟨h2, h1⟩), hb.keep l.next (fun b hb _ => l.get b hb) (fun b h1 h2 => ⟨h2, h1⟩), fun b h => .inl ⟨ka b h.1, h.2⟩, fun b h => .inl ⟨kb b h.1, h.2⟩, fun b _ h1 h2 => d b h1.2 h1.1 h2.1⟩
theorem Two.le (h : Two K V Ha Hb s t) (l : Le V V') : Two K V' Ha Hb s t := by
  have k := h.1
  obtain ⟨h0, A, B, ha, hb, ka, kb, d⟩ := h.shift l
  have c : ∀ b, K b ∧ b < V.next ∨ V'.next ≤ b → K b := fun b hb => by
    rcases hb with hb | hb
    · exact hb.1
    · exact k b (Nat.le_trans l.next hb)
  exact ⟨fun b hb => k b (Nat.le_trans l.next hb), A, B, ha, hb, fun b h => c b (ka b h), fun b h => c b (kb b h), d⟩
/-- the first one is worked on -/
theorem Two.on (h : Two K V Ha Hb s t) : ∃ In : Nat → Prop, HT V In Ha s ∧ (∀ b, V.next ≤ b → In b) ∧ (∀ b, In b → K b) ∧ ∀ V' s', Gr V V' In → HT V' In Ha s' → Two K V' Ha Hb s' t := by
  obtain ⟨h0, A, B, ha, hb, ka, kb, d⟩ := h
  refine ⟨fun b => A b ∧ b < V.next ∨ V.next ≤ b, ha.keep (Nat.le_refl _) (fun _ _ _ => rfl) (fun b h1 h2 => .inl ⟨h2, h1⟩), fun b h => .inr h, fun b h => ?_, fun V' s' g hs => ⟨fun b hb => h0 b (Nat.le_trans g.next hb), _, fun b => B b ∧ b < V.next, hs, hb.keep g.next (fun b h1 h2 => g.get b h1 fun h3 => ?_) (fun b h1 h2 => ⟨h2, h1⟩), fun b h => ?_, fun b h => kb b h.1, fun b _ h1 h2 => ?_⟩⟩
  · rcases h with h | h
    · exact ka b h.1
    · exact h0 b h
  · rcases h3 with h3 | h3
    · exact d b h1 h3.1 h2
    · omega
  · rcases h with h | h
    · exact ka b h.1
    · exact h0 b h
  · rcases h1 with h1 | h1
    · exact d b h1.2 h1.1 h2.1
    · omega
/-- Put, or its error -/
theorem twoPut (h : Two K V Ha Hb s t) (hn : s.n < 5000) (hx : s.nx < 1000000000000000) (p : Int × Int) :
    (∃ e : Int, ¬ e = 0 ∧ omS (.func (.func 19) #[] #[]) [hP Ha, .int .i64 p.1, .int .i64 p.2] V = some (.int .i64 e, V) ∧ (hbad 65 p.1 p.2 = true ∨ ∃ x ∈ s.es, x.1 = p.1)) ∨
    ∃ V' s', omS (.func (.func 19) #[] #[]) [hP Ha, .int .i64 p.1, .int .i64 p.2] V = some (.int .i64 0, V') ∧ Two K V' Ha Hb s' t ∧ Gr V V' K ∧ s'.n = s.n + 1 ∧ s'.nx = s.nx + 1 ∧ s'.es.Perm (p :: s.es) ∧ hbad 65 p.1 p.2 = false := by
  obtain ⟨In, h1, h2, h3, h4⟩ := h.on
  cases hb : hbad 65 p.1 p.2
  · rcases h1.which p.1 with ⟨i, hi, e⟩ | hs
    · refine .inl ⟨8, by omega, ?_, .inr ⟨_, ents_mem.2 ⟨i, hi, rfl⟩, e⟩⟩
      rw [← e] at hb ⊢
      exact put8_ok h1 hi hb
    · obtain ⟨V', g, p1, p2, p3, p4⟩ := hPut_ok h1 hb hs hn hx h2
      exact .inr ⟨V', ⟨s.q, s.mh, s.hm, s.nx + 1, s.n + 1, g⟩, p1, h4 _ ⟨s.q, s.mh, s.hm, s.nx + 1, s.n + 1, g⟩ p4 p2, p4.mono h3, rfl, rfl, p3, rfl⟩
  · exact .inl ⟨7, by omega, put7_ok h1 hb, .inl rfl⟩
theorem twoDrop (h : Two K V Ha Hb s t) (hn : s.n ≤ 5000) {p : Int × Int} {l : List (Int × Int)} (hp : s.es.Perm (p :: l)) :
    ∃ V' s', omS (.func (.func 47) #[] #[]) [hP Ha, .int .i64 p.1] V = some (.tuple #[.int .i64 p.2, .int .i64 0], V') ∧ Two K V' Ha Hb s' t ∧ Gr V V' K ∧ s'.n + 1 = s.n ∧ s'.es.Perm l := by
  obtain ⟨In, h1, h2, h3, h4⟩ := h.on
  obtain ⟨i, hi, e⟩ := ents_mem.1 (hp.mem_iff.2 (List.mem_cons_self ..))
  obtain ⟨q, mh, hm, nx, n, f⟩ := s
  simp only at hi e hn h1 hp
  obtain ⟨n, rfl⟩ : ∃ n', n = n' + 1 := ⟨n - 1, by omega⟩
  obtain ⟨V', g, p1, p2, p3, p4⟩ := hDrop_ok h1 hi (by omega)
  rw [e] at p1 p3
  exact ⟨V', ⟨q, mh, hm, nx, n, g⟩, p1, h4 _ ⟨q, mh, hm, nx, n, g⟩ p4 p2, p4.mono h3, rfl, List.Perm.cons_inv (p3.trans hp)⟩
theorem twoSave (h : Two K V Ha Hb s t) (hn : s.n ≤ 5000) : ∃ V' v, ∃ l : List (Int × Int), omS (.func (.func 43) #[] #[]) [hP Ha] V = some (v, V') ∧ Le V V' ∧ Lst V.next V' 2 hoC v l ∧ l.Perm s.es ∧ l.Pairwise (fun a b => a.1 ≤ b.1) ∧ Two K V' Ha Hb s t := by
  obtain ⟨In, h1, h2, h3, h4⟩ := h.on
  obtain ⟨V', v, l, e1, e2, e3, e4, e5⟩ := hSave_ok h1 hn
  exact ⟨V', v, l, e1, e2, e3, e4, e5, h.le e2⟩
theorem Two.dif (h : Two K V Ha Hb s t) : Dif s.es := by
  obtain ⟨In, h1, -⟩ := h.on
  exact h1.dif
theorem Two.lens (h : Two K V Ha Hb s t) {l : List (Int × Int)} (hp : l.Perm s.es) : l.length = s.n := by rw [hp.length_eq, ents_len]
/-- the saved list is looked at again -/
theorem twoSame (h : Two K V Ha Hb s t) (hn : s.n ≤ 5000) {wv : Value} {lw : List (Int × Int)} (hw : HoL V wv lw) (hs : lw.Pairwise fun a b => a.1 ≤ b.1) (hp : lw.Perm s.es) :
    ∃ V' v, omS (.func (.func 43) #[] #[]) [hP Ha] V = some (v, V') ∧ omS (.func (.func 46) #[] #[]) [wv, v] V' = some (.bool true, V') ∧ Le V V' ∧ Two K V' Ha Hb s t := by
  obtain ⟨V', v, l, e1, e2, e3, e4, e5, e6⟩ := twoSave h hn
  have : lw = l := seat_uniq (hp.trans e4.symm) hs e5 (h.dif.perm e4)
  subst this
  have hl := h.lens hp
  refine ⟨V', v, e1, ?_, e2, e6⟩
  rw [Same17_ok (hw.mono e2) (lst_ho e3) (by omega), decide_eq_true rfl]
/-- Of, or its error -/
theorem twoOf (h : Two K V Ha Hb s t) (x : Int) :
    (∃ e : Int, ¬ e = 0 ∧ omS (.func (.func 48) #[] #[]) [hP Ha, .int .i64 x] V = some (.tuple #[.int .i64 0, .int .i64 e], V) ∧ ∀ y ∈ s.es, ¬ y.1 = x) ∨
    ∃ d : Int, omS (.func (.func 48) #[] #[]) [hP Ha, .int .i64 x] V = some (.tuple #[.int .i64 d, .int .i64 0], V) ∧ (x, d) ∈ s.es ∧ hbad 65 x d = false := by
  obtain ⟨In, h1, h2, h3, h4⟩ := h.on
  cases hb : hbad 65 x 0
  · rcases h1.which x with ⟨i, hi, rfl⟩ | hs
    · refine .inr ⟨_, hOf_ok h1 hi, ents_mem.2 ⟨i, hi, rfl⟩, ?_⟩
      have := h1.ok i hi
      unfold hbad
      simp only [Bool.or_eq_false_iff, decide_eq_false_iff_not]
      omega
    · exact .inl ⟨4, by omega, of4_ok h1 hb hs, fun y hy => by
        obtain ⟨i, hi, rfl⟩ := ents_mem.1 hy
        exact hs i hi⟩
  · exact .inl ⟨7, by omega, of7_ok h1 hb, fun y hy e => by
      obtain ⟨i, hi, rfl⟩ := ents_mem.1 hy
      have := h1.good hi
      rw [e, hb] at this
      cases this⟩
theorem ents_upd {n : Nat} {f : Nat → En} {i : Nat} (hi : i < n) {p x : Int × Int} {l : List (Int × Int)} (e : (f i).v = x) (hp : (ents n f).Perm (x :: l)) : (ents n (upd f i p)).Perm (p :: l) := by
  have h0 : (List.range n).Perm (i :: (List.range n).erase i) := List.perm_cons_erase (List.mem_range.2 hi)
  have e1 : ∀ g : Nat → En, ents n g = (List.range n).map fun j => (g j).v := fun g => by unfold ents all; rw [List.map_map]; rfl
  have h1 := h0.map fun j => (f j).v
  have h2 := h0.map fun j => (upd f i p j).v
  rw [← e1, List.map_cons] at h1 h2
  have e2 : ((List.range n).erase i).map (fun j => (upd f i p j).v) = ((List.range n).erase i).map fun j => (f j).v := List.map_congr_left fun j hj => by
    have : j ≠ i := fun e => by
      subst e
      exact absurd hj (List.Nodup.not_mem_erase List.nodup_range)
    rw [upd_ne _ _ this]
  rw [e2, upd_i] at h2
  rw [e] at h1
  exact h2.trans (List.Perm.cons _ (List.Perm.cons_inv (h1.symm.trans hp)))
theorem twoMove (h : Two K V Ha Hb s t) (hn : s.n ≤ 5000) {x d d' : Int} {l : List (Int × Int)} (hp : s.es.Perm ((x, d) :: l)) :
    (hbad 65 x d' = true ∧ ∃ e : Int, ¬ e = 0 ∧ omS (.func (.func 49) #[] #[]) [hP Ha, .int .i64 x, .int .i64 d'] V = some (.int .i64 e, V)) ∨
    ∃ V' s', omS (.func (.func 49) #[] #[]) [hP Ha, .int .i64 x, .int .i64 d'] V = some (.int .i64 0, V') ∧ Two K V' Ha Hb s' t ∧ Gr V V' K ∧ s'.n = s.n ∧ s'.es.Perm ((x, d') :: l) := by
  obtain ⟨In, h1, h2, h3, h4⟩ := h.on
  obtain ⟨i, hi, e⟩ := ents_mem.1 (hp.mem_iff.2 (List.mem_cons_self ..))
  cases hb : hbad 65 x d'
  · have e1 : (s.f i).v.1 = x := by rw [e]
    have hb' : hbad 65 (s.f i).v.1 d' = false := by rw [e1]; exact hb
    obtain ⟨V', g, p1, p2, p3, p4⟩ := hMove_ok h1 hi hb' (by omega)
    rw [e1] at p1 p3
    exact .inr ⟨V', ⟨s.q, s.mh, s.hm, s.nx, s.n, g⟩, p1, h4 _ ⟨s.q, s.mh, s.hm, s.nx, s.n, g⟩ p4 p2, p4.mono h3, rfl, p3.trans (ents_upd hi e hp)⟩
  · exact .inl ⟨rfl, 7, by omega, move7_ok h1 hb⟩
/-- Due of both -/
theorem twoDue (h : Two K V Ha Hb s t) (hn : s.n ≤ 5000) (hst : s.es.Perm t.es) (hm : ∀ x ∈ s.es, x.2 ≤ 9223372036854775807) :
    ∃ V1 V2 lv mv, ∃ l : List (Int × Int), omS (.func (.func 20) #[] #[]) [hP Ha, .int .i64 9223372036854775807] V = some (.tuple #[lv, .int .i64 0], V1) ∧ omS (.func (.func 20) #[] #[]) [hP Hb, .int .i64 9223372036854775807] V1 = some (.tuple #[mv, .int .i64 0], V2) ∧
      omS (.func (.func 46) #[] #[]) [lv, mv] V2 = some (.bool true, V2) ∧ HoL V2 lv l ∧ l.length = s.n ∧ Gr V V2 K := by
  have hdif := h.dif
  obtain ⟨h0, A, B, ha, hb, ka, kb, d⟩ := h
  have ha' : HT V (fun b => A b ∧ b < V.next ∨ V.next ≤ b) Ha s := ha.keep (Nat.le_refl _) (fun _ _ _ => rfl) fun b h1 h2 => .inl ⟨h2, h1⟩
  have htn : t.n = s.n := by rw [← ents_len t.n t.f, ← ents_len s.n s.f]; exact hst.symm.length_eq
  have all : ∀ {n : Nat} {f : Nat → En} {l : List (Int × Int)} {m : Nat} {g : Nat → En}, DueR n f 9223372036854775807 l m g → (∀ x ∈ ents n f, x.2 ≤ 9223372036854775807) → l.Perm (ents n f) := fun {n f l m g} hd hx => by
    have m0 : m = 0 := by
      rcases Nat.eq_zero_or_pos m with h | h
      · exact h
      · have h1 := hd.rest 0 h
        have h2 := hx _ (hd.perm.mem_iff.1 (List.mem_append_right _ (ents_mem.2 ⟨0, h, rfl⟩)))
        omega
    subst m0
    have := hd.perm
    rwa [show ents 0 g = [] from rfl, List.append_nil] at this
  obtain ⟨lv, V1, l, m, g, d1, d2, d3, d4, d5⟩ := hDue_ok ha' (now := 9223372036854775807) (by omega) hn
  have n1 := d3.next
  have hb' : HT V1 (fun b => B b ∧ b < V.next ∨ V1.next ≤ b) Hb t := hb.keep n1 (fun b h1 h2 => d3.get b h1 fun h3 => by
    rcases h3 with h3 | h3
    · exact d b h1 h3.1 h2
    · omega) fun b h1 h2 => .inl ⟨h2, h1⟩
  obtain ⟨mv, V2, l2, m2, g2, e1, e2, e3, e4, e5⟩ := hDue_ok hb' (now := 9223372036854775807) (by omega) (by omega)
  have n2 := e3.next
  have p1 := all d5 hm
  have p2 := all e5 fun x hx => hm x (hst.mem_iff.2 hx)
  have hd1 : Dif l := hdif.perm p1
  have hll : l = l2 := by
    refine List.Perm.eq_of_pairwise (le := fun a b => hoLs b a = false) (fun a b ha hb h1 h2 => ?_) d5.sort e5.sort (p1.trans (hst.trans p2.symm))
    refine hd1.eq ha ((p1.trans (hst.trans p2.symm)).mem_iff.2 hb) ?_
    unfold hoLs at h1 h2
    simp only [Bool.or_eq_false_iff, Bool.and_eq_false_imp, decide_eq_true_eq, decide_eq_false_iff_not] at h1 h2
    have a1 := h1.2
    have a2 := h2.2
    omega
  subst hll
  have l4 : Lst V.next V2 2 hoC lv l := lst_at d4 fun b hb1 hb2 => ⟨by omega, e3.get b hb2 fun h3 => by omega⟩
  have hlen : l.length = s.n := by rw [p1.length_eq, ents_len]
  refine ⟨V1, V2, lv, mv, l, d1, e1, ?_, lst_ho l4, hlen, by omega, fun b hb hk => ?_⟩
  · rw [Same17_ok (lst_ho l4) (lst_ho e4) (by omega), decide_eq_true rfl]
  · rw [e3.get b (by omega) fun h => ?_, d3.get b hb fun h => ?_]
    · rcases h with h | h
      · exact hk (ka b h.1)
      · omega
    · rcases h with h | h
      · exact hk (kb b h.1)
      · omega
end
end Go.Proofs.Ytkpgmabebjmahaa.Ho
/- HoldsOrder: it answers true. -/
namespace Go.Proofs.Ytkpgmabebjmahaa.Ho
open Go Go.Eng Go.Hp
set_option linter.unusedVariables false
set_option linter.unusedSimpArgs false
set_option linter.unusedSectionVars false
set_option maxRecDepth 100000
def dl (ds : List Int) (j : Nat) : Int := ds.getD j 0
theorem dl_eq {ds : List Int} {j : Nat} (h : j < ds.length) : ds[j] = dl ds j := by unfold dl; simp [List.getD, h]
def sg (tn n i : Nat) : Nat := (tn + n - 1 - i) % n
theorem sg_lt {tn n i : Nat} (h : i < n) : sg tn n i < n := Nat.mod_lt _ (by omega)
theorem sg_sg {tn n i : Nat} (h : i < n) : sg tn n (sg tn n i) = i := by
  have h1 := Nat.div_add_mod (tn + n - 1 - i) n
  have h2 : sg tn n i < n := sg_lt h
  have e : tn + n - 1 - sg tn n i = i + n * ((tn + n - 1 - i) / n) := by
    have h3 : sg tn n i = (tn + n - 1 - i) % n := rfl
    omega
  have : sg tn n (sg tn n i) = (tn + n - 1 - sg tn n i) % n := rfl
  rw [this, e, Nat.add_mul_mod_self_left, Nat.mod_eq_of_lt h]
theorem oConv53 {n : Nat} (h1 : n ≤ 255) (W : AW) : oConv Try.prog 5 3 (.int .u8 (n : Int)) W = some (.int .i64 (n : Int), W) := by
  have : oConv Try.prog 5 3 (.int .u8 (n : Int)) W = some (.int .i64 (IntKind.i64.wrap (n : Int)), W) := Eq.trans (by kernel_rfl) rfl
  rw [this, wrap_i64 (by omega) (by omega)]
section
variable {K : Nat → Prop} {V V' : AW} {Ha Hb : Nat} {s t : St}
theorem putStep (h : Two K V Ha Hb s t) (hn : s.n < 5000) (hx : s.nx < 1000000000000000) {j : Nat} (hj : j < 65) (d : Int) (hf : ∀ x ∈ s.es, ¬ x.1 = (j : Int)) :
    ∃ r V' s', omS (.func (.func 19) #[] #[]) [hP Ha, .int .i64 (j : Int), .int .i64 d] V = some (r, V') ∧ Two K V' Ha Hb s' t ∧ Gr V V' K ∧ s'.n ≤ s.n + 1 ∧ s'.nx ≤ s.nx + 1 ∧ ∀ x, x ∈ s'.es ↔ x ∈ s.es ∨ x = ((j : Int), d) ∧ 0 ≤ d := by
  rcases twoPut h hn hx ((j : Int), d) with ⟨e, e0, pe, hw⟩ | ⟨V', s', p1, p2, p3, p4, p5, p6, p7⟩
  · refine ⟨_, V, s, pe, h, .refl _ _, by omega, by omega, fun x => ⟨Or.inl, fun hx => ?_⟩⟩
    rcases hx with hx | ⟨-, hx⟩
    · exact hx
    · rcases hw with hw | ⟨y, hy1, hy2⟩
      · unfold hbad at hw
        simp only [Bool.or_eq_true, decide_eq_true_eq] at hw
        omega
      · exact absurd hy2 (hf y hy1)
  · refine ⟨_, V', s', p1, p2, p3, by omega, by omega, fun x => ?_⟩
    rw [p6.mem_iff, List.mem_cons]
    unfold hbad at p7
    simp only [Bool.or_eq_false_iff, decide_eq_false_iff_not] at p7
    constructor
    · rintro (e | e)
      · exact .inr ⟨e, by omega⟩
      · exact .inl e
    · rintro (e | e)
      · exact .inr e
      · exact .inl e.1
theorem order_L1 {W1 : AW} {ds : List Int} {dv : Value} {tn : Nat} {R : PlanTab.Fr} (hd : ∀ V, Gr W1 V K → Ints V dv ds) (ht : tn ≤ 255) (h0 : 0 < ds.length) (h64 : ds.length ≤ 64) (T : Two K W1 Ha Hb s t) (sn : s.n = 0) (sx : s.nx = 1) (tn0 : t.n = 0) (tx : t.nx = 1)
    (r0 : R 0 = dv) (r1 : R 1 = .int .u8 (tn : Int)) (r7 : R 7 = .int .i64 (ds.length : Int)) (r8 : R 8 = hP Ha) (r10 : R 10 = hP Hb) (r12 : R 12 = .int .i64 0) {ρ : Type} {KK : LT → Option ρ} {G : ρ → Prop}
    (after : ∀ (R' : PlanTab.Fr) (V : AW) (s t : St), (R' 5 = R 5 ∧ R' 8 = R 8 ∧ R' 10 = R 10) → Two K V Ha Hb s t → Gr W1 V K → s.n ≤ 64 → s.nx ≤ 65 → s.es.Perm t.es → (∀ x ∈ s.es, x.2 ∈ ds) → Ok (KK (.exit 0, R', V)) G) : Ok (bnd (loopO (law17_HoldsOrder_L1 omS) R W1) KK) G := by
  refine Ok_loop ds.length (by omega) (fun k R' V => ∃ s t : St, R' 0 = dv ∧ R' 1 = .int .u8 (tn : Int) ∧ R' 7 = .int .i64 (ds.length : Int) ∧ R' 8 = hP Ha ∧ R' 10 = hP Hb ∧ R' 12 = .int .i64 (k : Int) ∧ R' 5 = R 5 ∧ Two K V Ha Hb s t ∧ Gr W1 V K ∧ s.n ≤ k ∧ t.n ≤ k ∧ s.nx ≤ 1 + k ∧ t.nx ≤ 1 + k ∧ (∀ x, x ∈ s.es ↔ ∃ j : Nat, j < k ∧ x = ((j : Int), dl ds j) ∧ 0 ≤ dl ds j) ∧ ∀ x, x ∈ t.es ↔ ∃ j : Nat, j < k ∧ x = ((sg tn ds.length j : Int), dl ds (sg tn ds.length j)) ∧ 0 ≤ dl ds (sg tn ds.length j))
    (fun r => r.1 = .exit 0 ∧ ∃ s t : St, (r.2.1 5 = R 5 ∧ r.2.1 8 = R 8 ∧ r.2.1 10 = R 10) ∧ Two K r.2.2 Ha Hb s t ∧ Gr W1 r.2.2 K ∧ s.n ≤ 64 ∧ s.nx ≤ 65 ∧ s.es.Perm t.es ∧ ∀ x ∈ s.es, x.2 ∈ ds)
    ⟨s, t, r0, r1, r7, r8, r10, r12, rfl, T, .refl _ _, by omega, by omega, by omega, by omega, fun x => ?_, fun x => ?_⟩ ?_ ?_ ?_
  · show x ∈ ents s.n s.f ↔ _
    rw [sn]
    exact ⟨fun h => (by cases h), fun ⟨j, h, _⟩ => absurd h (by omega)⟩
  · show x ∈ ents t.n t.f ↔ _
    rw [tn0]
    exact ⟨fun h => (by cases h), fun ⟨j, h, _⟩ => absurd h (by omega)⟩
  · rintro k R' V hk ⟨s, t, q0, q1, q7, q8, q10, q12, q5, T, hG, sn, tn', sx, tx, hs, ht'⟩
    unfold law17_HoldsOrder_L1
    obtain ⟨V1, s1, ra, V2, p1, T1, g1, n1, x1, m1⟩ : ∃ V1 s1 ra V2, omS (.func (.func 19) #[] #[]) [hP Ha, .int .i64 (k : Int), .int .i64 ds[k]] V = some (ra, V1) ∧ Two K V1 Ha Hb s1 t ∧ Gr V V1 K ∧ s1.n ≤ s.n + 1 ∧ s1.nx ≤ s.nx + 1 ∧ (∀ x, x ∈ s1.es ↔ x ∈ s.es ∨ x = ((k : Int), ds[k]) ∧ 0 ≤ ds[k]) ∧ V2 = V1 := by
      obtain ⟨r, V1, s1, p1, p2, p3, p4, p5, p6⟩ := putStep T (by omega) (by omega) (j := k) (by omega) ds[k] (fun x hx e => by
        obtain ⟨j, hj, rfl, -⟩ := (hs x).1 hx
        simp only at e
        omega)
      exact ⟨V1, s1, r, V1, p1, p2, p3, p4, p5, p6, rfl⟩
    obtain ⟨m1, rfl⟩ := m1
    have hsg : sg tn ds.length k < ds.length := sg_lt hk
    obtain ⟨rb, V3, t1, p2, T2, g2, n2, x2, m2⟩ := putStep T1.symm (by omega) (by omega) (j := sg tn ds.length k) (by omega) ds[sg tn ds.length k] (fun x hx e => by
      obtain ⟨j, hj, rfl, -⟩ := (ht' x).1 hx
      simp only at e
      have e1 := sg_sg (tn := tn) (n := ds.length) (i := j) (by omega)
      have e2 := sg_sg (tn := tn) (n := ds.length) (i := k) (by omega)
      have e3 : sg tn ds.length j = sg tn ds.length k := by omega
      rw [e3] at e1
      omega)
    obtain ⟨pa, i1, i2⟩ := (hd V hG).get hk
    obtain ⟨pb, j1, j2⟩ := (hd V2 (hG.trans g1)).get hsg
    have w1 : ((k : Int) < (ds.length : Int)) := by omega
    have w2 := fun W' => oBin_add (P := Try.prog) (W := W') (t := 3) (c := false) (d := false) (a := (tn : Int)) (b := (ds.length : Int)) (by omega) (by omega)
    have w3 := fun W' => oBin_sub (P := Try.prog) (W := W') (t := 3) (c := false) (d := true) (a := (tn : Int) + (ds.length : Int)) (b := 1) (by omega) (by omega)
    have w4 := fun W' => oBin_sub (P := Try.prog) (W := W') (t := 3) (c := false) (d := false) (a := (tn : Int) + (ds.length : Int) - 1) (b := (k : Int)) (by omega) (by omega)
    have w5 : ∀ W', oBin Try.prog .rem 3 false false (.int .i64 ((tn : Int) + (ds.length : Int) - 1 - (k : Int))) (.int .i64 (ds.length : Int)) W' = some (.int .i64 (sg tn ds.length k : Int), W') := fun W' => by
      rw [oBin_rem (by omega), Int.tmod_eq_emod_of_nonneg (by omega)]
      unfold sg
      congr 3
      rw [Int.natCast_emod]
      congr 1
      omega
    have w6 := fun W' => oBin_add (P := Try.prog) (W := W') (t := 3) (c := false) (d := true) (a := (k : Int)) (b := 1) (by omega) (by omega)
    have e3 : ((k + 1 : Nat) : Int) = (k : Int) + 1 := by omega
    simp only [SX, q0, q1, q7, q8, q10, q12, w1, decide_true, oConv53 ht, w2, w3, w4, w5, i1, i2 _ (.refl _), p1, j1, j2 _ (.refl _), p2, w6, Ok_some]
    refine .inl ⟨trivial, s1, t1, q0, q1, q7, q8, q10, by rw [e3]; rfl, q5, T2.symm, (hG.trans g1).trans g2, by omega, by omega, by omega, by omega, fun x => ?_, fun x => ?_⟩
    · rw [m1, hs]
      constructor
      · rintro (⟨j, a1, a2, a3⟩ | ⟨a1, a2⟩)
        · exact ⟨j, by omega, a2, a3⟩
        · exact ⟨k, by omega, by rw [a1, dl_eq hk], by rw [← dl_eq hk]; exact a2⟩
      · rintro ⟨j, a1, a2, a3⟩
        by_cases e : j = k
        · subst e
          exact .inr ⟨by rw [a2, dl_eq hk], by rw [dl_eq hk]; exact a3⟩
        · exact .inl ⟨j, by omega, a2, a3⟩
    · rw [m2, ht']
      constructor
      · rintro (⟨j, a1, a2, a3⟩ | ⟨a1, a2⟩)
        · exact ⟨j, by omega, a2, a3⟩
        · exact ⟨k, by omega, by rw [a1, dl_eq hsg], by rw [← dl_eq hsg]; exact a2⟩
      · rintro ⟨j, a1, a2, a3⟩
        by_cases e : j = k
        · subst e
          exact .inr ⟨by rw [a2, dl_eq hsg], by rw [dl_eq hsg]; exact a3⟩
        · exact .inl ⟨j, by omega, a2, a3⟩
  · rintro R' V ⟨s, t, q0, q1, q7, q8, q10, q12, q5, T, hG, sn, tn', sx, tx, hs, ht'⟩
    unfold law17_HoldsOrder_L1
    have w1 : ¬ ((ds.length : Int) < (ds.length : Int)) := by omega
    simp only [SX, q7, q12, w1, decide_false, Ok_some]
    refine ⟨by simp, trivial, s, t, ⟨q5, q8.trans r8.symm, q10.trans r10.symm⟩, T, hG, by omega, by omega, ?_, fun x hx => ?_⟩
    · have nd : ∀ {l : List (Int × Int)}, Dif l → l.Nodup := fun {l} h => by
        unfold Dif at h
        rw [List.nodup_iff_pairwise_ne, List.pairwise_map] at h
        rw [List.nodup_iff_pairwise_ne]
        exact h.imp fun {a b} h1 h2 => h1 (by rw [h2])
      refine (List.perm_ext_iff_of_nodup (nd T.dif) (nd T.symm.dif)).2 fun x => ?_
      rw [hs, ht']
      constructor
      · rintro ⟨j, a1, a2, a3⟩
        have e := sg_sg (tn := tn) (n := ds.length) (i := j) a1
        exact ⟨sg tn ds.length j, sg_lt a1, by rw [e]; exact a2, by rw [e]; exact a3⟩
      · rintro ⟨j, a1, a2, a3⟩
        exact ⟨sg tn ds.length j, sg_lt a1, a2, a3⟩
    · obtain ⟨j, a1, rfl, a3⟩ := (hs x).1 hx
      show dl ds j ∈ ds
      rw [← dl_eq a1]
      exact List.getElem_mem a1
  · rintro ⟨x, R', V⟩ ⟨hx, s, t, hR, T, hG, sn, sx, hp, hm⟩
    simp only at hx hR T hG
    subst hx
    exact after R' V s t hR T hG sn sx hp hm
end
theorem order_ok {dv : Value} {ds : List Int} {tn : Nat} {x : Int × Int} {W : AW} (hd : Ints W dv ds) (hmax : ∀ d ∈ ds, d ≤ 9223372036854775807) (ht : tn ≤ 255) : omS (.func (.func 11) #[] #[]) [dv, .int .u8 (tn : Int), hoV x] W = some (.bool true, W) := by
  refine om_drop rfl ?_ law17_HoldsOrder_om
  unfold law17_HoldsOrder
  have oB : oBox (hoV x) W = some (.pointer (some ⟨W.next, 0, none⟩), W.add (.cells [.int .i64 x.1, .int .i64 x.2])) := oBox_agg _
  generalize hW1 : W.add (.cells [.int .i64 x.1, .int .i64 x.2]) = W1 at oB
  have n1 : W1.next = W.next + 1 := by rw [← hW1, AW.add_next]
  have l1 : Le W W1 := by rw [← hW1]; exact (Le.refl _).add _
  have x1 : W1.get W.next = some (.cells [.int .i64 x.1, .int .i64 x.2]) := by rw [← hW1]; exact AW.get_add _ _
  have hd1 := hd.mono l1
  by_cases hl1 : 64 < ds.length
  · have e1 : (64 : Int) < (ds.length : Int) := by omega
    simp only [SX, oB, hd1.len len34, e1, decide_true, awake17_ok, Ok_some]
    exact ⟨trivial, l1⟩
  have e1 : ¬ (64 : Int) < (ds.length : Int) := by omega
  by_cases hl2 : ds.length = 0
  · have e2 : decide ((ds.length : Int) = 0) = true := decide_eq_true (by omega)
    simp only [SX, oB, hd1.len len34, e1, e2, decide_false, decide_true, awake17_ok, Ok_some]
    exact ⟨trivial, l1⟩
  have e2 : decide ((ds.length : Int) = 0) = false := decide_eq_false (by omega)
  obtain ⟨W2, Ha, qa, mha, hma, fa, a1, a2, a3⟩ := hNew_ok (W := W1) (In := fun b => W1.next ≤ b) (s := 65) (by omega) (fun b hb => hb)
  have n2 := a3.next
  obtain ⟨W3, Hb, qb, mhb, hmb, fb, b1, b2, b3⟩ := hNew_ok (W := W2) (In := fun b => W2.next ≤ b) (s := 65) (by omega) (fun b hb => hb)
  have n3 := b3.next
  have T0 : Two (fun b => W1.next ≤ b) W3 Ha Hb ⟨qa, mha, hma, 1, 0, fa⟩ ⟨qb, mhb, hmb, 1, 0, fb⟩ := by
    refine ⟨fun b hb => by show W1.next ≤ b; omega, fun b => W1.next ≤ b ∧ b < W2.next, fun b => W2.next ≤ b, a2.keep n3 (fun b h1 h2 => b3.get b h1 (by omega)) (fun b h1 h2 => ⟨h2, h1⟩), b2, fun b h => h.1, fun b h => ?_, fun b _ h1 h2 => ?_⟩
    · show W1.next ≤ b
      have h' : W2.next ≤ b := h
      omega
    · have h1' := h1.2
      have h2' : W2.next ≤ b := h2
      omega
  have l3 : Le W1 W3 := ⟨by omega, fun b hb => by rw [b3.get b (by omega) (by omega), a3.get b hb (by omega)]⟩
  have lK : ∀ V, Gr W3 V (fun b => W1.next ≤ b) → Le W1 V := fun V hG => ⟨by have := hG.next; omega, fun b hb => by rw [hG.get b (by omega) (by omega), l3.get b hb]⟩
  simp only [SX, oB, hd1.len len34, e1, e2, decide_false, a1, b1, pEq35]
  refine order_L1 (fun V hG => hd1.mono (lK V hG)) ht (by omega) (by omega) T0 rfl rfl rfl rfl ?_ ?_ ?_ ?_ ?_ ?_ ?_
  · rfl
  · rfl
  · rfl
  · rfl
  · rfl
  · rfl
  intro R V s t ⟨r5, r8, r10⟩ T hG sn sx hst hsm
  replace r5 : R 5 = .pointer (some ⟨W.next, 0, none⟩) := r5.trans rfl
  replace r8 : R 8 = hP Ha := r8.trans rfl
  replace r10 : R 10 = hP Hb := r10.trans rfl
  have nV := hG.next
  have lV := lK V hG
  have hm : ∀ x ∈ s.es, x.2 ≤ 9223372036854775807 := fun x hx => hmax _ (hsm x hx)
  have htn : t.n = s.n := by rw [← ents_len t.n t.f, ← ents_len s.n s.f]; exact hst.symm.length_eq
  obtain ⟨V1, wv, lw, v1, v2, v3, v4, v5, -⟩ := twoSave T (by omega)
  have TT := T.shift v2
  generalize hK : (fun b => W1.next ≤ b ∧ b < V.next ∨ V1.next ≤ b) = K at TT
  have nv := v2.next
  have kK : ∀ b, K b → W1.next ≤ b ∧ (b < V.next ∨ V1.next ≤ b) := fun b hb => by
    rw [← hK] at hb
    rcases hb with hb | hb
    · exact ⟨hb.1, .inl hb.2⟩
    · exact ⟨by omega, .inr hb⟩
  have hw : ∀ V', Gr V1 V' K → HoL V' wv lw := fun V' g => lst_ho (lst_at v3 fun b h1 h2 => ⟨by have := g.next; omega, g.get b h2 fun h3 => by have := kK b h3; omega⟩)
  have lw1 : ∀ V', Gr V1 V' K → Le W1 V' := fun V' g => ⟨by have := g.next; have := lV.next; omega, fun b hb => by
    rw [g.get b (by have := lV.next; omega) fun h3 => by have := kK b h3; omega, v2.get b (by have := lV.next; omega), lV.get b hb]⟩
  have lW : ∀ V', Gr V1 V' K → Le W V' := fun V' g => l1.trans (lw1 V' g)
  have bx0 : ∀ V', Gr V1 V' K → ldC (.pointer (some ⟨W.next, 0, none⟩)) V' = some (.int .i64 x.1, V') := fun V' g => ldR (rwOf (by rw [(lw1 V' g).get _ (by omega)]; exact x1)) rfl
  have bx1 : ∀ V', Gr V1 V' K → ldC (.pointer (some ⟨W.next, 1, none⟩)) V' = some (.int .i64 x.2, V') := fun V' g => ldR (rwOf (by rw [(lw1 V' g).get _ (by omega)]; exact x1)) rfl
  have lwn : lw.length = s.n := by rw [v4.length_eq, ents_len]
  obtain ⟨V2, bv, c1, c2, c3, TS⟩ := twoSame TT.symm (by omega) (hw V1 (.refl _ _)) v5 (v4.trans hst)
  have T2 := TS.symm
  have G2 : Gr V1 V2 K := ⟨c3.next, fun b hb _ => c3.get b hb⟩
  have e0 : ¬ (0 : Int) = 1 := by omega

  rcases twoPut T2 (by omega) (by omega) x with ⟨pe, pe0, p1, -⟩ | ⟨V3, s3, p1, T3, g3, m1, m2, m3, m4⟩
  · have pd : decide (pe = 0) = false := decide_eq_false pe0
    rcases twoOf T2 x.1 with ⟨oe, oe0, o1, -⟩ | ⟨d, o1, o2, o3⟩
    · have od : decide (oe = 0) = false := decide_eq_false oe0
      obtain ⟨Vx, Vy, lv, mv, l, u1, u2, u3, u4, u5, u6⟩ := twoDue T2 (by omega) ((List.Perm.refl _).trans hst) (fun y hy => hm y ((List.Perm.refl _).mem_iff.1 hy))
      have Gy := (G2).trans u6
      have e9 : decide ((l.length : Int) = (lw.length : Int)) = true := decide_eq_true (by omega)
      simp only [SX, r5, r8, r10, Nat.zero_add, v1, c1, c2, p1, pd, bx0 _ G2, bx1 _ G2, bx0 _ (G2), bx1 _ (G2), o1, od, u1, u2, u3, u4.len len39, (hw Vy Gy).len len39, e9, decide_true, decide_false, awake17_ok, Ok_some]
      exact ⟨trivial, lW _ Gy⟩
    · obtain ⟨rest, hrest⟩ : ∃ l, (s.es).Perm ((x.1, d) :: l) := ⟨_, List.perm_cons_erase o2⟩
      rcases twoMove T2 (by omega) (d' := x.2) hrest with ⟨-, me, me0, mo1⟩ | ⟨V5, s5, g1, T5, g3, g4, g5⟩
      · have md : decide (me = 0) = false := decide_eq_false me0
        obtain ⟨Vx, Vy, lv, mv, l, u1, u2, u3, u4, u5, u6⟩ := twoDue T2 (by omega) ((List.Perm.refl _).trans hst) (fun y hy => hm y ((List.Perm.refl _).mem_iff.1 hy))
        have Gy := (G2).trans u6
        have e9 : decide ((l.length : Int) = (lw.length : Int)) = true := decide_eq_true (by omega)
        simp only [SX, r5, r8, r10, Nat.zero_add, v1, c1, c2, p1, pd, bx0 _ G2, bx1 _ G2, bx0 _ (G2), bx1 _ (G2), o1, mo1, md, u1, u2, u3, u4.len len39, (hw Vy Gy).len len39, e9, decide_true, decide_false, awake17_ok, Ok_some]
        exact ⟨trivial, lW _ Gy⟩
      · have G5 := (G2).trans g3
        rcases twoOf T5 x.1 with ⟨qe, qe0, q1, q2⟩ | ⟨d2, q1, q2, q3⟩
        · exact absurd rfl (q2 _ (g5.mem_iff.2 (List.mem_cons_self ..)))
        have dd : d2 = x.2 := congrArg Prod.snd (T5.dif.eq q2 (g5.mem_iff.2 (List.mem_cons_self ..)) rfl)
        subst dd
        rcases twoMove T5 (by omega) (d' := d) g5 with ⟨bad, -⟩ | ⟨V6, s6, h1, T6, h3, h4, h5⟩
        · rw [o3] at bad; cases bad
        have G6 := G5.trans h3
        have hp6 : s6.es.Perm s.es := (h5.trans hrest.symm).trans (List.Perm.refl _)
        obtain ⟨V7, sv7, k1, k2, k3, T7⟩ := twoSame T6 (by omega) (hw V6 G6) v5 (v4.trans hp6.symm)
        have G7 : Gr V1 V7 K := G6.trans ⟨k3.next, fun b hb _ => k3.get b hb⟩
        obtain ⟨Vx, Vy, lv, mv, l, u1, u2, u3, u4, u5, u6⟩ := twoDue T7 (by omega) (hp6.trans hst) (fun y hy => hm y (hp6.mem_iff.1 hy))
        have Gy := (G7).trans u6
        have e9 : decide ((l.length : Int) = (lw.length : Int)) = true := decide_eq_true (by omega)
        simp only [SX, r5, r8, r10, Nat.zero_add, v1, c1, c2, p1, pd, bx0 _ G2, bx1 _ G2, bx0 _ (G2), bx1 _ (G2), o1, g1, bx0 _ G5, bx1 _ G5, q1, h1, k1, k2, u1, u2, u3, u4.len len39, (hw Vy Gy).len len39, e9, decide_true, decide_false, awake17_ok, Ok_some]
        exact ⟨trivial, lW _ Gy⟩
  · have G3 := G2.trans g3
    obtain ⟨V4, s4, d1, T4, d3, d4, d5⟩ := twoDrop T3 (by omega) m3
    have G4 := G3.trans d3
    obtain ⟨V4', sv4, k1', k2', k3', T4'⟩ := twoSame T4 (by omega) (hw V4 G4) v5 (v4.trans d5.symm)
    have G4' : Gr V1 V4' K := G4.trans ⟨k3'.next, fun b hb _ => k3'.get b hb⟩
    rcases twoOf T4' x.1 with ⟨oe, oe0, o1, -⟩ | ⟨d, o1, o2, o3⟩
    · have od : decide (oe = 0) = false := decide_eq_false oe0
      obtain ⟨Vx, Vy, lv, mv, l, u1, u2, u3, u4, u5, u6⟩ := twoDue T4' (by omega) ((d5).trans hst) (fun y hy => hm y ((d5).mem_iff.1 hy))
      have Gy := (G4').trans u6
      have e9 : decide ((l.length : Int) = (lw.length : Int)) = true := decide_eq_true (by omega)
      simp only [SX, r5, r8, r10, Nat.zero_add, v1, c1, c2, p1, bx0 _ G2, bx1 _ G2, bx0 _ G3, bx1 _ G3, d1, bx0 _ G4, bx1 _ G4, k1', k2', bx0 _ (G4'), bx1 _ (G4'), o1, od, u1, u2, u3, u4.len len39, (hw Vy Gy).len len39, e9, decide_true, decide_false, awake17_ok, Ok_some]
      exact ⟨trivial, lW _ Gy⟩
    · obtain ⟨rest, hrest⟩ : ∃ l, (s4.es).Perm ((x.1, d) :: l) := ⟨_, List.perm_cons_erase o2⟩
      rcases twoMove T4' (by omega) (d' := x.2) hrest with ⟨-, me, me0, mo1⟩ | ⟨V5, s5, g1, T5, g3, g4, g5⟩
      · have md : decide (me = 0) = false := decide_eq_false me0
        obtain ⟨Vx, Vy, lv, mv, l, u1, u2, u3, u4, u5, u6⟩ := twoDue T4' (by omega) ((d5).trans hst) (fun y hy => hm y ((d5).mem_iff.1 hy))
        have Gy := (G4').trans u6
        have e9 : decide ((l.length : Int) = (lw.length : Int)) = true := decide_eq_true (by omega)
        simp only [SX, r5, r8, r10, Nat.zero_add, v1, c1, c2, p1, bx0 _ G2, bx1 _ G2, bx0 _ G3, bx1 _ G3, d1, bx0 _ G4, bx1 _ G4, k1', k2', bx0 _ (G4'), bx1 _ (G4'), o1, mo1, md, u1, u2, u3, u4.len len39, (hw Vy Gy).len len39, e9, decide_true, decide_false, awake17_ok, Ok_some]
        exact ⟨trivial, lW _ Gy⟩
      · have G5 := (G4').trans g3
        rcases twoOf T5 x.1 with ⟨qe, qe0, q1, q2⟩ | ⟨d2, q1, q2, q3⟩
        · exact absurd rfl (q2 _ (g5.mem_iff.2 (List.mem_cons_self ..)))
        have dd : d2 = x.2 := congrArg Prod.snd (T5.dif.eq q2 (g5.mem_iff.2 (List.mem_cons_self ..)) rfl)
        subst dd
        rcases twoMove T5 (by omega) (d' := d) g5 with ⟨bad, -⟩ | ⟨V6, s6, h1, T6, h3, h4, h5⟩
        · rw [o3] at bad; cases bad
        have G6 := G5.trans h3
        have hp6 : s6.es.Perm s.es := (h5.trans hrest.symm).trans (d5)
        obtain ⟨V7, sv7, k1, k2, k3, T7⟩ := twoSame T6 (by omega) (hw V6 G6) v5 (v4.trans hp6.symm)
        have G7 : Gr V1 V7 K := G6.trans ⟨k3.next, fun b hb _ => k3.get b hb⟩
        obtain ⟨Vx, Vy, lv, mv, l, u1, u2, u3, u4, u5, u6⟩ := twoDue T7 (by omega) (hp6.trans hst) (fun y hy => hm y (hp6.mem_iff.1 hy))
        have Gy := (G7).trans u6
        have e9 : decide ((l.length : Int) = (lw.length : Int)) = true := decide_eq_true (by omega)
        simp only [SX, r5, r8, r10, Nat.zero_add, v1, c1, c2, p1, bx0 _ G2, bx1 _ G2, bx0 _ G3, bx1 _ G3, d1, bx0 _ G4, bx1 _ G4, k1', k2', bx0 _ (G4'), bx1 _ (G4'), o1, g1, bx0 _ G5, bx1 _ G5, q1, h1, k1, k2, u1, u2, u3, u4.len len39, (hw Vy Gy).len len39, e9, decide_true, decide_false, awake17_ok, Ok_some]
        exact ⟨trivial, lW _ Gy⟩
end Go.Proofs.Ytkpgmabebjmahaa.Ho
/- What HoldsOrder is handed, opened. -/
namespace Go.Proofs.Ytkpgmabebjmahaa.Ho
open Go Go.Eng Go.RowKit
set_option linter.unusedVariables false
set_option linter.unusedSimpArgs false
set_option maxRecDepth 100000
theorem u8_in {w : World} {r : Reach} {b0 : Nat} {v : Value} (h : Value.okWide Try.prog w r b0 5 v) : ∃ n : Nat, v = .int .u8 (n : Int) ∧ n ≤ 255 := by
  unfold Value.okWide at h
  rw [Try.underlying5] at h
  simp only at h
  unfold Cell.okWide at h
  rw [Try.underlying5] at h
  simp only at h
  cases v with
  | int k n =>
    simp only [Cell.ok, Try.underlying5] at h
    obtain ⟨rfl, h⟩ := h
    simp only [IntKind.has, IntKind.min, IntKind.max, IntKind.signed, IntKind.bits] at h
    simp at h
    exact ⟨n.toNat, by congr 1; omega, by omega⟩
  | _ => simp only [Cell.ok, Try.underlying5] at h
section
variable {H : Type} {enc : TypeId × Value → H} {w : World} {σ : Inj} {W : AW} {v0 : Value} {d : DataW H} {p : List MemPlace} {r : Reach} {b0 : Nat}
theorem openDl (ho : Opened σ W w) (hv : Value.okWide Try.prog w r b0 34 v0) (h : DataW.Trod enc Try.prog w 0 (fun _ => true) true 34 v0 d p) :
    ∃ (σ2 : Inj) (W2 : AW) (l : List Int) (u : Value), Opened σ2 W2 w ∧ Sub σ σ2 ∧ Le W W2 ∧ VR σ2 u v0 ∧ Row W2 1 (intAt .i64) u l ∧ ∀ x ∈ l, x ≤ 9223372036854775807 := by
  obtain ⟨a, n, c, rfl⟩ := slice_of Try.underlying34 hv
  obtain ⟨m, hm⟩ := h
  obtain ⟨σ2, W2, cs2, o2, s2, l2, r2, a2⟩ := opens_trod sim34 hm σ W ho
  obtain ⟨u, l, rfl, hr, hb⟩ := DR.intsB (n := 1) a2 Try.underlying34 Try.underlying2 ce2
  have hvr : VR σ2 u (.slice a n c) := r2.2 0 _ _ rfl rfl
  exact ⟨σ2, W2, l, u, o2, s2, l2, hvr, hr.1, fun x hx => (hb x hx).2⟩
theorem flat43 : flatK Try.prog 4 43 = some [.i64, .i64] := by kernel_rfl
theorem openHo (hv : Value.okWide Try.prog w r b0 43 v0) (h : DataW.Trod enc Try.prog w 0 (fun _ => true) true 43 v0 d p) : ∃ x : Int × Int, v0 = .agg #[.int .i64 x.1, .int .i64 x.2] := by
  obtain ⟨ns, hn, rfl, rfl, again⟩ := open_flat Try.underlying43 flat43 hv h
  match ns, hn with
  | [a, b], _ => exact ⟨(a, b), rfl⟩
end
end Go.Proofs.Ytkpgmabebjmahaa.Ho
