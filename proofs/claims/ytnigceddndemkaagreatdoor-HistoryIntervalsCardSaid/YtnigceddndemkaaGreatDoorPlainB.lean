/- Contracts of functions, and their laws. -/
import Derived.Test.YtnigceddndemkaaGreatDoorPlainA
import Derived.Test.YtnigceddndemkaaGreatDoorSDec
import Derived.KernelRfl
/- Histories, in plain: calls that overlap two by two. -/
namespace Go.Proofs.YtnigceddndemkaaGreatDoor
open Go Go.Eng
set_option linter.unusedVariables false
set_option linter.unusedSimpArgs false
set_option linter.unusedSectionVars false
theorem callsTo_mono (l : List EvT) {i k : Nat} (h : i ≤ k) : callsTo l i ≤ callsTo l k := by
  unfold callsTo
  have : (l.take i) <+: (l.take k) := by
    rw [show l.take i = (l.take k).take i by rw [List.take_take, Nat.min_eq_left h]]
    exact List.take_prefix _ _
  exact (this.sublist.filter _).length_le
/-- where a call lies, and where it returned -/
theorem Run.at {l : List EvT} {s : TL} (hr : Run l l.length s) {j : Nat} {o : HoT} (hj : s.ops[j]? = some o) :
    ∃ (i : Nat) (x : EvT), i < l.length ∧ l[i]? = some x ∧ o.fr = (i : Int) ∧ x.ret = false ∧ callsTo l i = j ∧ o.id = (j : Int) + 1 ∧ (o.to = -1 ∨ ∃ (i2 : Nat) (x2 : EvT), i < i2 ∧ i2 < l.length ∧ l[i2]? = some x2 ∧ x2.ret = true ∧ o.to = (i2 : Int)) := by
  have I := hr.inv
  obtain ⟨oid, i, x, a1, a2, a3, a4, a5, -⟩ := I.ids j o hj
  obtain ⟨o', b1, b2, -⟩ := op_at hr a2 a4
  have h1 := (I.ids _ _ b1).1
  refine ⟨i, x, a1, a2, a3, a4, by omega, oid, ?_⟩
  rcases I.tos j o hj with ⟨h, -⟩ | ⟨i2, x2, d1, d2, d3, d4, d5⟩
  · exact .inl h
  · obtain ⟨j', o2, c1, c2, c3, c4⟩ := I.ret i2 x2 d1 d2 d4
    have : j' = j := by omega
    subst this
    rw [hj] at c1; injection c1 with c1; subst c1
    refine .inr ⟨i2, x2, ?_, d1, d2, d4, c3⟩
    obtain ⟨s2, h2⟩ := hr.pre (m := i2 + 1) (by omega)
    obtain ⟨s1, x1, r1, r2, r3, -⟩ := h2.prev rfl
    rw [d2] at r2; injection r2 with r2; subst r2
    obtain ⟨hb, -⟩ := stepE_ret d4 r3
    obtain ⟨j3, o3, e1, e2, -⟩ := (r1.inv.bsy _ _).1 hb
    obtain ⟨-, i3, x3, f1, f2, -, f4, f5, -⟩ := r1.inv.ids j3 o3 e1
    have := I.uniq (i := i) (i' := i3) a1 a2 a4 (by omega) f2 f4 (by omega)
    omega
theorem Run.order {l : List EvT} {s : TL} (hr : Run l l.length s) {j k : Nat} {a b : HoT} (hj : s.ops[j]? = some a) (hk : s.ops[k]? = some b) (h : j < k) : a.fr < b.fr := by
  obtain ⟨i, x, a1, a2, a3, a4, a5, -⟩ := hr.at hj
  obtain ⟨i', x', b1, b2, b3, b4, b5, -⟩ := hr.at hk
  by_cases hlt : i < i'
  · omega
  · have := callsTo_mono l (i := i') (k := i) (by omega)
    omega
theorem Run.long {l : List EvT} {s : TL} (hr : Run l l.length s) {j : Nat} {o : HoT} (hj : s.ops[j]? = some o) : o.to = -1 ∨ o.fr < o.to := by
  obtain ⟨i, x, a1, a2, a3, a4, a5, -, h⟩ := hr.at hj
  rcases h with h | ⟨i2, x2, h1, h2, h3, h4, h5⟩
  · exact .inl h
  · exact .inr (by omega)
theorem Run.apart {l : List EvT} {s : TL} (hr : Run l l.length s) {j k : Nat} {a b : HoT} (hj : s.ops[j]? = some a) (hk : s.ops[k]? = some b) : a.to ≠ b.fr := by
  obtain ⟨i, x, a1, a2, a3, a4, a5, -, h⟩ := hr.at hj
  obtain ⟨i', x', b1, b2, b3, b4, b5, -⟩ := hr.at hk
  rcases h with h | ⟨i2, x2, h1, h2, h3, h4, h5⟩
  · omega
  · intro e
    have : i2 = i' := by omega
    subst this
    rw [h3] at b2; injection b2 with b2
    rw [b2, b4] at h4; cases h4
theorem befB_irr {l : List EvT} {s : TL} (hr : Run l l.length s) {j : Nat} {o : HoT} (hj : s.ops[j]? = some o) : befB o o = false := by
  unfold befB
  rcases hr.long hj with h | h
  · rw [h]; rfl
  · rw [decide_eq_false (show ¬ (o.to < o.fr) by omega), Bool.and_false]
theorem befB_iff {a b : HoT} : befB a b = true ↔ 0 ≤ a.to ∧ a.to < b.fr := by
  unfold befB; simp
/-- earlier calls overlap a call exactly if they are open where it begins -/
theorem over_open {l : List EvT} {s : TL} (hr : Run l l.length s) {j k : Nat} {a b : HoT} (hj : s.ops[j]? = some a) (hk : s.ops[k]? = some b) (h : j < k) : (!decide (a.id = b.id) && (!befB a b && !befB b a)) = isOpen b.fr.toNat a := by
  have h1 := hr.order hj hk h
  have h2 := hr.long hk
  have h3 := hr.apart hj hk
  have h4 := (hr.inv.ids _ _ hj).1
  have h5 := (hr.inv.ids _ _ hk).1
  obtain ⟨i', x', b1, b2, b3, -⟩ := hr.at hk
  obtain ⟨i, x, a1, a2, a3, -, -, -, ha⟩ := hr.at hj
  have e1 : decide (a.id = b.id) = false := decide_eq_false (by omega)
  have e2 : befB b a = false := by
    unfold befB
    rcases h2 with h2 | h2
    · rw [h2]; rfl
    · rw [decide_eq_false (show ¬ (b.to < a.fr) by omega), Bool.and_false]
  have hc : ((b.fr.toNat : Nat) : Int) = b.fr := by omega
  rw [e1, e2, Bool.not_false, Bool.true_and, Bool.and_true]
  unfold isOpen befB
  rw [hc, decide_eq_true (show a.fr ≤ b.fr by omega), Bool.true_and]
  by_cases c : a.to < b.fr
  · rw [decide_eq_true c, decide_eq_false (show ¬ (b.fr < a.to) by omega), Bool.and_true, Bool.or_false]
    by_cases c2 : 0 ≤ a.to
    · rw [decide_eq_true c2, decide_eq_false (show ¬ (a.to < 0) by omega)]; rfl
    · rw [decide_eq_false c2, decide_eq_true (show a.to < 0 by omega)]; rfl
  · rw [decide_eq_false c, decide_eq_true (show b.fr < a.to by omega), Bool.and_false, Bool.or_true]; rfl
theorem open_none {l : List HoT} {k : Nat} (h : ∀ o ∈ l, isOpen k o = false) : openAt l k = 0 := by
  unfold openAt
  rw [List.filter_eq_nil_iff.2 (fun o ho => by rw [h o ho]; simp)]; rfl
/-- what is open where a call begins: itself, and some earlier ones -/
theorem open_here {l : List EvT} {s : TL} (hr : Run l l.length s) {k : Nat} {b : HoT} (hk : s.ops[k]? = some b) : openAt s.ops b.fr.toNat = openAt (s.ops.take k) b.fr.toNat + 1 := by
  obtain ⟨i', x', b1, b2, b3, -⟩ := hr.at hk
  have hc : ((b.fr.toNat : Nat) : Int) = b.fr := by omega
  have h1 : isOpen b.fr.toNat b = true := by
    unfold isOpen
    rw [hc, decide_eq_true (Int.le_refl _), Bool.true_and]
    rcases hr.long hk with h | h
    · rw [h]; rfl
    · rw [decide_eq_true h, Bool.or_true]
  have h2 : openAt (s.ops.drop (k + 1)) b.fr.toNat = 0 := open_none fun o ho => by
    obtain ⟨j, hj⟩ := List.getElem?_of_mem ho
    rw [List.getElem?_drop] at hj
    have := hr.order hk hj (by omega)
    unfold isOpen
    rw [hc, decide_eq_false (by omega), Bool.false_and]
  rw [openAt_at hk, h1, if_pos rfl, h2]
theorem last_of (p : Nat → Bool) : ∀ n, (∃ i, i < n ∧ p i = true) → ∃ i, i < n ∧ p i = true ∧ ∀ j, j < n → p j = true → j ≤ i
  | 0, ⟨i, h, _⟩ => by omega
  | n + 1, ⟨i, h, hp⟩ => by
    by_cases c : p n = true
    · exact ⟨n, by omega, c, fun j hj _ => by omega⟩
    · obtain ⟨i', h1, h2, h3⟩ := last_of p n ⟨i, by
        by_cases e : i = n
        · subst e; exact absurd hp c
        · omega, hp⟩
      refine ⟨i', by omega, h2, fun j hj hpj => ?_⟩
      by_cases e : j = n
      · subst e; exact absurd hpj c
      · exact h3 j (by omega) hpj
theorem openAt_imp {ops : List HoT} {k m : Nat} (h : ∀ o ∈ ops, isOpen k o = true → isOpen m o = true) : openAt ops k ≤ openAt ops m := by
  unfold openAt
  induction ops with
  | nil => exact Nat.le_refl _
  | cons a l ih =>
    have ih' := ih fun o ho => h o (by simp [ho])
    rw [List.filter_cons, List.filter_cons]
    have ha := h a (by simp)
    cases c1 : isOpen k a with
    | false =>
      cases c2 : isOpen m a <;> simp <;> omega
    | true =>
      rw [ha c1]
      simp; omega
/-- where calls begin: how many are open -/
def begN (s : TL) : List Int := s.ops.map fun o => ((openAt s.ops o.fr.toNat : Nat) : Int)
theorem begN_max {l : List EvT} {s : TL} (hr : Run l l.length s) : maxN (begN s) = maxN s.opn := by
  have hol := hr.inv.opl
  have hopn := hr.opn_ok.1
  refine Int.le_antisymm (maxN_le (fun a ha => ?_) (maxN_nonneg _)) (maxN_le (fun a ha => ?_) (maxN_nonneg _))
  · obtain ⟨o, ho, rfl⟩ := List.mem_map.1 ha
    obtain ⟨j, hj⟩ := List.getElem?_of_mem ho
    obtain ⟨i, x, a1, a2, a3, -⟩ := hr.at hj
    have := hopn i a1
    rw [a3]
    exact le_maxN (List.mem_of_getElem? this)
  · obtain ⟨k, hk, rfl⟩ := List.mem_iff_getElem.1 ha
    have hv := hopn k (by omega)
    rw [List.getElem?_eq_getElem hk] at hv
    injection hv with hv
    rw [hv]
    by_cases h0 : openAt s.ops k = 0
    · rw [h0]; exact maxN_nonneg _
    · have hex : ∃ i, i < s.ops.length ∧ ((s.ops[i]?).map (isOpen k)).getD false = true := by
        have : ∃ o ∈ s.ops, isOpen k o = true := Classical.byContradiction fun h => h0 (open_none fun o ho => by
          cases c : isOpen k o with
          | false => rfl
          | true => exact absurd ⟨o, ho, c⟩ h)
        obtain ⟨o, ho, hc⟩ := this
        obtain ⟨i, hi⟩ := List.getElem?_of_mem ho
        exact ⟨i, (List.getElem?_eq_some_iff.1 hi).1, by rw [hi]; exact hc⟩
      obtain ⟨i, hi, hp, hlast⟩ := last_of _ _ hex
      have hgi : s.ops[i]? = some s.ops[i] := List.getElem?_eq_getElem hi
      rw [hgi] at hp
      have hp : isOpen k s.ops[i] = true := hp
      have hle : openAt s.ops k ≤ openAt s.ops (s.ops[i]).fr.toNat := openAt_imp fun o ho hc => by
        obtain ⟨j, hj⟩ := List.getElem?_of_mem ho
        have hjl := (List.getElem?_eq_some_iff.1 hj).1
        have hji := hlast j hjl (by rw [hj]; exact hc)
        have hfr : o.fr ≤ (s.ops[i]).fr := by
          by_cases e : j = i
          · subst e; rw [hgi] at hj; injection hj with hj; rw [hj]; exact Int.le_refl _
          · have := hr.order hj hgi (by omega); omega
        obtain ⟨i', x', b1, b2, b3, -⟩ := hr.at hgi
        unfold isOpen at hc hp ⊢
        simp only [Bool.and_eq_true, Bool.or_eq_true, decide_eq_true_eq] at hc hp ⊢
        refine ⟨by omega, ?_⟩
        rcases hc.2 with h | h
        · exact .inl h
        · exact .inr (by omega)
      refine Int.le_trans ?_ (le_maxN (List.mem_map.2 ⟨s.ops[i], List.getElem_mem hi, rfl⟩))
      omega
/-- intervals -/
theorem befB_inter {a b c d : HoT} (h1 : befB a b = true) (h2 : befB c d = true) (h3 : befB a d = false) (h4 : befB c b = false) : False := by
  rw [befB_iff] at h1 h2
  have h3' : ¬ (0 ≤ a.to ∧ a.to < d.fr) := fun h => by rw [befB_iff.2 h] at h3; cases h3
  have h4' : ¬ (0 ≤ c.to ∧ c.to < b.fr) := fun h => by rw [befB_iff.2 h] at h4; cases h4
  omega
theorem befB_trans {a b c : HoT} (hb : b.to = -1 ∨ b.fr < b.to) (h1 : befB a b = true) (h2 : befB b c = true) : befB a c = true := by
  rw [befB_iff] at h1 h2 ⊢
  omega
theorem befB_asym {a b : HoT} (ha : a.to = -1 ∨ a.fr < a.to) (hb : b.to = -1 ∨ b.fr < b.to) (h1 : befB a b = true) : befB b a = false := by
  cases h : befB b a with
  | false => rfl
  | true =>
    rw [befB_iff] at h1 h
    omega
end Go.Proofs.YtnigceddndemkaaGreatDoor
/- Histories: the greatest set of calls that overlap two by two. -/
namespace Go.Proofs.YtnigceddndemkaaGreatDoor
open Go Go.Eng
set_option linter.unusedVariables false
set_option linter.unusedSimpArgs false
set_option linter.unusedSectionVars false
set_option maxRecDepth 100000
/-- Before and Overlap of two calls that are there -/
theorem bef_ovl {W : AW} {v : Ven} {sv ev : Value} {l : List EvT} {s : TL} (hG : GW W) (h : HiA W v sv ev l) {a : Int} (hA : Ans (venE v).2 l a 0) (hs : Run l l.length s) {p q : Nat} {x y : HoT} (hp : s.ops[p]? = some x) (hq : s.ops[q]? = some y) :
    omS (.func (.func 39) #[] #[]) [hiV v sv ev, .int .i64 x.id, .int .i64 y.id] W = some (.tuple #[.bool (befB x y), .int .i64 0], W) ∧ omS (.func (.func 41) #[] #[]) [hiV v sv ev, .int .i64 x.id, .int .i64 y.id] W = some (.tuple #[.bool (!decide (x.id = y.id) && (!befB x y && !befB y x)), .int .i64 0], W) := by
  have e1 := (hs.inv.ids _ _ hp).1
  have e2 := (hs.inv.ids _ _ hq).1
  have hp' : ∀ W1, Le W W1 → omS (.func (.func 102) #[] #[]) [hiV v sv ev, .int .i64 x.id, .int .i64 y.id] W1 = some (.tuple #[hoV x, hoV y, .int .i64 0], W1) := fun W1 hl => by
    rw [e1, e2]
    exact pair_in (hG.mono hl) (h.mono hl) hA hs hp hq
  have b := hisBef_of hp'
  have o := hisOvl_of hp'
  rw [decide_eq_true (rfl : (0 : Int) = 0), Bool.true_and] at b o
  exact ⟨b, o⟩
theorem clique_ok {W : AW} {v : Ven} {sv ev u : Value} {l : List EvT} {s : TL} (hG : GW W) (h : HiA W v sv ev l) {a : Int} (hA : Ans (venE v).2 l a 0) (hs : Run l l.length s) (hu : HoL W u s.ops) : omS (.func (.func 45) #[] #[]) [hiV v sv ev, u] W = some (.int .i64 (maxN s.opn), W) := by
  refine om_drop rfl ?_ law24_clique_om
  unfold law24_clique
  have hle : Le W (W.add (.cells [.int .i64 v.sh, .int .i64 v.ttl, .int .i64 v.ses, sv, ev])) := (Le.refl W).add _
  have hg : (W.add (.cells [.int .i64 v.sh, .int .i64 v.ttl, .int .i64 v.ses, sv, ev])).get W.next = some (.cells [.int .i64 v.sh, .int .i64 v.ttl, .int .i64 v.ses, sv, ev]) := AW.get_add _ _
  simp only [SX, hiBox, Nat.zero_add]
  generalize W.add (.cells [.int .i64 v.sh, .int .i64 v.ttl, .int .i64 v.ses, sv, ev]) = W1 at *
  have cB : ldA 5 (.pointer (some ⟨W.next, 0, none⟩)) W1 = some (hiV v sv ev, W1) := ldA_ok (cellsAt_of hg) rfl
  have hu1 := hu.mono hle
  have h1 := h.mono hle
  have hG1 := hG.mono hle
  have h400 := (hA.good rfl).2.1
  have hop := hs.inv.opk
  have hbl : (begN s).length = s.ops.length := by unfold begN; rw [List.length_map]
  refine Ok_loop s.ops.length (by omega) (fun i R V => V = W1 ∧ R 1 = u ∧ R 2 = .pointer (some ⟨W.next, 0, none⟩) ∧ R 5 = .int .i64 (maxN ((begN s).take i)) ∧ R 6 = .int .i64 (i : Int)) (fun r => r.2.2 = W1 ∧ r.1 = .exit 0 ∧ r.2.1 5 = .int .i64 (maxN s.opn)) ⟨rfl, rfl, rfl, rfl, rfl⟩ ?_ ?_ ?_
  · rintro i R V hi ⟨rfl, r1, r2, r5, r6⟩
    unfold law24_clique_L1
    have t1 : ((i : Int) < (s.ops.length : Int)) := by omega
    have t2 := fun W' => oBin_add (P := Tryz.prog) (W := W') (t := 3) (c := false) (d := true) (a := (i : Int)) (b := 1) (by omega) (by omega)
    have e3 : ((i + 1 : Nat) : Int) = (i : Int) + 1 := by omega
    have hgi : s.ops[i]? = some s.ops[i] := List.getElem?_eq_getElem hi
    have hbi : i < (begN s).length := by omega
    have hval : (begN s)[i] = ((openAt s.ops (s.ops[i]).fr.toNat : Nat) : Int) := (List.getElem?_eq_some_iff.1 (show (begN s)[i]? = some ((openAt s.ops (s.ops[i]).fr.toNat : Nat) : Int) by unfold begN; rw [List.getElem?_map, hgi]; rfl)).2
    obtain ⟨bi, oi, i1, -, i3⟩ := HoL.get hu1 hi
    obtain ⟨-, f0, -⟩ := i3 V rfl
    rw [take_snoc' hbi, maxN_snoc, hval]
    generalize hy : s.ops[i] = y at hgi f0 hval
    have hhere := open_here hs hgi
    simp only [SX, r1, r2, r5, r6, hu1.len len89, t1, decide_true]
    refine Ok_loop i (by omega) (fun k R' V' => V' = V ∧ R' 1 = u ∧ R' 2 = .pointer (some ⟨W.next, 0, none⟩) ∧ R' 5 = .int .i64 (maxN ((begN s).take i)) ∧ R' 6 = .int .i64 (i : Int) ∧ R' 7 = .int .i64 ((openAt (s.ops.take k) y.fr.toNat : Int) + 1) ∧ R' 8 = .int .i64 (k : Int))
      (fun r => r.2.2 = V ∧ r.1 = .exit 2 ∧ r.2.1 1 = u ∧ r.2.1 2 = .pointer (some ⟨W.next, 0, none⟩) ∧ r.2.1 5 = .int .i64 (maxN ((begN s).take i)) ∧ r.2.1 6 = .int .i64 (i : Int) ∧ r.2.1 7 = .int .i64 ((openAt s.ops y.fr.toNat : Nat) : Int)) ⟨rfl, r1, r2, r5, r6, rfl, rfl⟩ ?_ ?_ ?_
    · rintro k R' V' hk ⟨rfl, q1, q2, q5, q6, q7, q8⟩
      unfold law24_clique_L1_L2
      have hk' : k < s.ops.length := by omega
      have u1 : ((k : Int) < (i : Int)) := by omega
      have u2 := fun W' => oBin_add (P := Tryz.prog) (W := W') (t := 3) (c := false) (d := true) (a := (k : Int)) (b := 1) (by omega) (by omega)
      have hcnt : openAt (s.ops.take k) y.fr.toNat ≤ 1000 := by
        have := openAt_le (s.ops.take k) y.fr.toNat
        rw [List.length_take] at this; omega
      have u3 := fun W' => oBin_add (P := Tryz.prog) (W := W') (t := 3) (c := false) (d := true) (a := (openAt (s.ops.take k) y.fr.toNat : Int) + 1) (b := 1) (by omega) (by omega)
      have e4 : ((k + 1 : Nat) : Int) = (k : Int) + 1 := by omega
      have hgk : s.ops[k]? = some s.ops[k] := List.getElem?_eq_getElem hk'
      obtain ⟨bk, ok, j1, -, j3⟩ := HoL.get hu1 hk'
      obtain ⟨-, f1, -⟩ := j3 V' rfl
      have hto := openN_take (k := y.fr.toNat) hk'
      obtain ⟨-, hov⟩ := bef_ovl hG1 h1 hA hs hgk hgi
      rw [over_open hs hgk hgi hk] at hov
      generalize s.ops[k] = x at f1 hto hov
      have d0 : decide ((0 : Int) = 0) = true := rfl
      cases hO : isOpen y.fr.toNat x with
      | false =>
        rw [hO] at hov hto
        rw [if_neg (by simp)] at hto
        simp only [SX, q1, q2, q5, q6, q7, q8, u1, decide_true, cB, j1, f1, i1, Nat.zero_add, Nat.add_zero, f0, hov, d0, u2, Ok_some]
        exact .inl ⟨trivial, trivial, q1, q2, q5, q6, by rw [hto]; exact q7, by rw [e4]; rfl⟩
      | true =>
        rw [hO] at hov hto
        rw [if_pos rfl] at hto
        simp only [SX, q1, q2, q5, q6, q7, q8, u1, decide_true, cB, j1, f1, i1, Nat.zero_add, Nat.add_zero, f0, hov, d0, u2, u3, Ok_some]
        exact .inl ⟨trivial, trivial, q1, q2, q5, q6, by rw [hto]; rfl, by rw [e4]; rfl⟩
    · rintro R' V' ⟨rfl, q1, q2, q5, q6, q7, q8⟩
      unfold law24_clique_L1_L2
      have u1 : ¬ ((i : Int) < (i : Int)) := by omega
      simp only [SX, q6, q8, u1, decide_false, Ok_some]
      exact ⟨by simp, trivial, trivial, q1, q2, q5, q6, by rw [hhere]; exact q7⟩
    · rintro ⟨q, R', V'⟩ ⟨rfl, rfl, q1, q2, q5, q6, q7⟩
      simp only at q1 q2 q5 q6 q7
      simp only [SX, q5, q6, q7, max_ok, t2, Ok_some]
      exact .inl ⟨trivial, trivial, q1, q2, rfl, by rw [e3]; rfl⟩
  · rintro R V ⟨rfl, r1, r2, r5, r6⟩
    unfold law24_clique_L1
    have t1 : ¬ ((s.ops.length : Int) < (s.ops.length : Int)) := by omega
    rw [List.take_of_length_le (by omega), begN_max hs] at r5
    simp only [SX, r1, r6, hu1.len len89, t1, decide_false, Ok_some]
    exact ⟨by simp, trivial, trivial, r5⟩
  · rintro ⟨q, R, V⟩ ⟨rfl, rfl, r5⟩
    simp only at r5 hle
    simp only [SX, r5, Ok_some]
    exact ⟨trivial, hle⟩
end Go.Proofs.YtnigceddndemkaaGreatDoor
/- A history that is handed in, opened: blocks. -/
namespace Go.Proofs.YtnigceddndemkaaGreatDoor
open Go Go.Eng Go.RowKit
set_option linter.unusedVariables false
set_option linter.unusedSimpArgs false
set_option linter.unusedSectionVars false
set_option maxRecDepth 100000
theorem sec_of {W : AW} {n : Nat} {c : List Value} (h : DR Tryz.prog W (n + 3) 130 c) : ∃ s : Sec, ∀ pre post, SecAt W (pre ++ (c ++ post)) pre.length s := by
  obtain ⟨c1, c2, rfl, h1, h2⟩ := (h.struct Tryz.underlying130).cons
  obtain ⟨c3, c4, rfl, h3, h4⟩ := h2.cons
  obtain ⟨c5, c6, rfl, h5, h6⟩ := h4.cons
  obtain rfl := h6.nil
  obtain ⟨s, rfl, _⟩ := h1.str Tryz.underlying9
  obtain ⟨rv, zs, rfl, hz, _⟩ := h3.ints Tryz.underlying69 Tryz.underlying3 (by kernel_rfl)
  obtain ⟨q, rfl⟩ := h5.int Tryz.underlying3
  refine ⟨⟨s.data.toList, zs, q⟩, fun pre post => ⟨?_, ?_, rv, ?_, hz⟩⟩
  · rw [List.getElem?_append_right (by omega), bytesL_back]; simp
  · rw [List.getElem?_append_right (by omega), Nat.add_sub_cancel_left]; rfl
  · rw [List.getElem?_append_right (by omega), Nat.add_sub_cancel_left]; rfl
theorem ven_of {W : AW} {n : Nat} {c : List Value} (h : DR Tryz.prog W (n + 5) 24 c) : ∃ (v : Ven) (sv : Value), c = [.int .i64 v.sh, .int .i64 v.ttl, .int .i64 v.ses, sv] ∧ SecsC W sv v.secs := by
  obtain ⟨c1, c2, rfl, h1, h2⟩ := (h.struct Tryz.underlying24).cons
  obtain ⟨c3, c4, rfl, h3, h4⟩ := h2.cons
  obtain ⟨c5, c6, rfl, h5, h6⟩ := h4.cons
  obtain ⟨c7, c8, rfl, h7, h8⟩ := h6.cons
  obtain rfl := h8.nil
  obtain ⟨a, rfl⟩ := h1.int Tryz.underlying3
  obtain ⟨b, rfl⟩ := h3.int Tryz.underlying2
  obtain ⟨d, rfl⟩ := h5.int Tryz.underlying2
  obtain ⟨sv, l, rfl, hr⟩ := h7.row Tryz.underlying22 (at_ := SecAt W) (fun c _ hc => sec_of hc)
  exact ⟨⟨a, b, d, l⟩, sv, rfl, hr⟩
theorem dr_bool {W : AW} {n : Nat} {t : TypeId} {cs : List Value} (h : DR Tryz.prog W (n + 1) t cs) (ht : Tryz.prog.underlying t = some .bool) : ∃ b, cs = [.bool b] := by
  unfold DR at h; rw [ht] at h; exact h
theorem tk_of {W : AW} {n : Nat} {c : List Value} (h : DR Tryz.prog W (n + 2) 115 c) : ∃ a b d e : Int, c = [.int .u32 a, .int .u32 b, .int .u64 d, .int .u64 e] := by
  obtain ⟨c1, c2, rfl, h1, h2⟩ := (h.struct Tryz.underlying115).cons
  obtain ⟨c3, c4, rfl, h3, h4⟩ := h2.cons
  obtain ⟨c5, c6, rfl, h5, h6⟩ := h4.cons
  obtain ⟨c7, c8, rfl, h7, h8⟩ := h6.cons
  obtain rfl := h8.nil
  obtain ⟨a, rfl⟩ := h1.int Tryz.underlying35
  obtain ⟨b, rfl⟩ := h3.int Tryz.underlying35
  obtain ⟨d, rfl⟩ := h5.int Tryz.underlying36
  obtain ⟨e, rfl⟩ := h7.int Tryz.underlying36
  exact ⟨a, b, d, e, rfl⟩
theorem op_of {W : AW} {n : Nat} {c : List Value} (h : DR Tryz.prog W (n + 3) 117 c) : ∃ o : OpT, c = (opV o).cells.toList := by
  obtain ⟨c1, r1, rfl, h1, h⟩ := (h.struct Tryz.underlying117).cons
  obtain ⟨c2, r2, rfl, h2, h⟩ := h.cons
  obtain ⟨c3, r3, rfl, h3, h⟩ := h.cons
  obtain ⟨c4, r4, rfl, h4, h⟩ := h.cons
  obtain ⟨c5, r5, rfl, h5, h⟩ := h.cons
  obtain ⟨c6, r6, rfl, h6, h⟩ := h.cons
  obtain ⟨c7, r7, rfl, h7, h⟩ := h.cons
  obtain ⟨c8, r8, rfl, h8, h⟩ := h.cons
  obtain ⟨c9, r9, rfl, h9, h⟩ := h.cons
  obtain rfl := h.nil
  obtain ⟨x1, rfl⟩ := h1.int Tryz.underlying3
  obtain ⟨x2, rfl⟩ := h2.int Tryz.underlying35
  obtain ⟨x3, rfl⟩ := h3.int Tryz.underlying2
  obtain ⟨x4, rfl⟩ := h4.int Tryz.underlying3
  obtain ⟨x5, rfl⟩ := h5.int Tryz.underlying3
  obtain ⟨x6, rfl⟩ := h6.int Tryz.underlying3
  obtain ⟨x7, rfl⟩ := h7.int Tryz.underlying35
  obtain ⟨a, b, d, e, rfl⟩ := tk_of h8
  obtain ⟨x9, rfl⟩ := h9.int Tryz.underlying2
  exact ⟨⟨x1, x2, x3, x4, x5, x6, x7, a, b, d, e, x9⟩, rfl⟩
theorem rp_of {W : AW} {n : Nat} {c : List Value} (h : DR Tryz.prog W (n + 3) 119 c) : ∃ o : RpT, c = (rpV o).cells.toList := by
  obtain ⟨c1, r1, rfl, h1, h⟩ := (h.struct Tryz.underlying119).cons
  obtain ⟨c2, r2, rfl, h2, h⟩ := h.cons
  obtain ⟨c3, r3, rfl, h3, h⟩ := h.cons
  obtain ⟨c4, r4, rfl, h4, h⟩ := h.cons
  obtain ⟨c5, r5, rfl, h5, h⟩ := h.cons
  obtain ⟨c6, r6, rfl, h6, h⟩ := h.cons
  obtain rfl := h.nil
  obtain ⟨x1, rfl⟩ := h1.int Tryz.underlying29
  obtain ⟨x2, rfl⟩ := h2.int Tryz.underlying3
  obtain ⟨x3, rfl⟩ := h3.int Tryz.underlying3
  obtain ⟨x4, rfl⟩ := h4.int Tryz.underlying2
  obtain ⟨a, b, d, e, rfl⟩ := tk_of h5
  obtain ⟨x6, rfl⟩ := h6.int Tryz.underlying3
  exact ⟨⟨x1, x2, x3, x4, a, b, d, e, x6⟩, rfl⟩
theorem ev_of {W : AW} {n : Nat} {c : List Value} (h : DR Tryz.prog W (n + 4) 121 c) : ∃ e : EvT, c = evC e := by
  obtain ⟨c1, r1, rfl, h1, h⟩ := (h.struct Tryz.underlying121).cons
  obtain ⟨c2, r2, rfl, h2, h⟩ := h.cons
  obtain ⟨c3, r3, rfl, h3, h⟩ := h.cons
  obtain ⟨c4, r4, rfl, h4, h⟩ := h.cons
  obtain ⟨c5, r5, rfl, h5, h⟩ := h.cons
  obtain rfl := h.nil
  obtain ⟨x1, rfl⟩ := h1.int Tryz.underlying3
  obtain ⟨x2, rfl⟩ := h2.int Tryz.underlying3
  obtain ⟨x3, rfl⟩ := dr_bool h3 Tryz.underlying4
  obtain ⟨o, rfl⟩ := op_of h4
  obtain ⟨r, rfl⟩ := rp_of h5
  exact ⟨⟨x1, x2, x3, o, r⟩, rfl⟩
theorem his_of {W : AW} {n : Nat} {c : List Value} (h : DR Tryz.prog W (n + 6) 82 c) : ∃ (v : Ven) (sv ev : Value) (l : List EvT), c = [.int .i64 v.sh, .int .i64 v.ttl, .int .i64 v.ses, sv, ev] ∧ HiR W v sv ev l := by
  obtain ⟨c1, c2, rfl, h1, h2⟩ := (h.struct Tryz.underlying82).cons
  obtain ⟨c3, c4, rfl, h3, h4⟩ := h2.cons
  obtain rfl := h4.nil
  obtain ⟨v, sv, rfl, hs⟩ := ven_of h1
  obtain ⟨ev, l, rfl, hr⟩ := h3.row Tryz.underlying80 (at_ := flatAt 24 evC) (fun c _ hc => by
    obtain ⟨e, rfl⟩ := ev_of hc
    exact ⟨e, fun pre post => flatAt_in evC_len e pre post⟩)
  exact ⟨v, sv, ev, l, rfl, hs, hr.1⟩
section
variable {H : Type} {enc : TypeId × Value → H} {w : World} {σ : Inj} {W : AW} {v0 : Value} {d : DataW H} {p : List MemPlace} {r : Reach} {b0 : Nat}
theorem agg_of {t : TypeId} {fs : Array Field} (ht : Tryz.prog.underlying t = some (.struct fs)) (hv : Value.okWide Tryz.prog w r b0 t v0) : ∃ cs, v0 = .agg cs := by
  unfold Value.okWide at hv
  rw [ht] at hv
  obtain ⟨cs, h, _⟩ := hv
  exact ⟨cs, h⟩
theorem sim82 : simT Tryz.prog 7 82 = true := by kernel_rfl
theorem openHis (ho : Opened σ W w) (hv : Value.okWide Tryz.prog w r b0 82 v0) (h : DataW.Trod enc Tryz.prog w 0 (fun _ => true) true 82 v0 d p) :
    ∃ (σ2 : Inj) (W2 : AW) (v : Ven) (sv ev : Value) (l : List EvT), Opened σ2 W2 w ∧ Sub σ σ2 ∧ Le W W2 ∧ VR σ2 (hiV v sv ev) v0 ∧ HiR W2 v sv ev l := by
  obtain ⟨cs, rfl⟩ := agg_of Tryz.underlying82 hv
  obtain ⟨m, hm⟩ := h
  obtain ⟨σ2, W2, cs2, o2, s2, l2, r2, a2⟩ := opens_trod sim82 hm σ W ho
  obtain ⟨v, sv, ev, l, rfl, hs⟩ := his_of a2
  exact ⟨σ2, W2, v, sv, ev, l, o2, s2, l2, .agg' (a := #[.int .i64 v.sh, .int .i64 v.ttl, .int .i64 v.ses, sv, ev]) r2, hs⟩
end
theorem openG {w : World} (hl : LaidG globW w.heap) : Opened (σG globW) (WG globW 5) w := ⟨rel_G rfl hl, allRo_G, 1, _, rfl⟩
theorem gw_W : GW (WG globW 5) := globW_G rfl (fun x hx => by
  have h2 : x = (0, usesV) ∨ x = (1, pow10V) ∨ x = (3, bru32V) ∨ x = (4, bru64V) := by simpa [globW] using hx
  rcases h2 with rfl | rfl | rfl | rfl <;> rfl)
theorem gw_le {W : AW} (h : Le (WG globW 5) W) : GW W := gw_W.mono h
theorem kidsT : Kids Tryz.prog (· < Tryz.prog.types.size) := kids_rows (by kernel_rfl) (by kernel_rfl)
theorem fullT : ∀ t e, t < Tryz.prog.types.size → Tryz.prog.underlying t = some (.slice e) → 0 < Tryz.prog.cellsOf e := slices_full_of Tryz.prog (by kernel_rfl)
/-- what is opened is called -/
theorem open_calls (hok : CalleeOK Tryz.prog PlanTab.ng omS) {w : World} {σ : Inj} {W : AW} (ho : Opened σ W w) (hs : Sub (σG globW) σ) {i : Nat} {args args' : List Value} (hr : LR σ args args') (h : omS (.func (.func i) #[] #[]) args W = some (.bool true, W)) :
    Calls Tryz.prog i args'.toArray w fun e w' => e = .returned (.bool true) ∧ Quiet w w' := by
  have hG : Glob σ [0, 1, 3, 4] := fun g hg => by
    obtain ⟨e, he⟩ := (glob_G (gs := globW) (ng := [0, 1, 3, 4]) rfl) g hg
    exact ⟨e, hs _ _ he⟩
  exact om_calls hok ho.rel hG ho.ro hr rfl h
end Go.Proofs.YtnigceddndemkaaGreatDoor
/- HistoryIntervals. -/
namespace Go.Proofs.YtnigceddndemkaaGreatDoor
open Go Go.Eng
set_option linter.unusedVariables false
set_option linter.unusedSimpArgs false
set_option linter.unusedSectionVars false
set_option maxRecDepth 100000
theorem oConv16 {n : Int} (h0 : 0 ≤ n) (h1 : n ≤ 65535) (W : AW) : oConv Tryz.prog 87 3 (.int .u16 n) W = some (.int .i64 n, W) := by
  have : oConv Tryz.prog 87 3 (.int .u16 n) W = some (.int .i64 (IntKind.i64.wrap n), W) := Eq.trans (by kernel_rfl) rfl
  rw [this, wrap_i64 (by omega) (by omega)]
abbrev arC (x : Nat → Int) : List Value := [.int .u16 (x 0), .int .u16 (x 1), .int .u16 (x 2), .int .u16 (x 3)]
def idC (f : Nat → Int) (i : Nat) : List Value := [.int .i64 (if 0 < i then f 0 else 0), .int .i64 (if 1 < i then f 1 else 0), .int .i64 (if 2 < i then f 2 else 0), .int .i64 (if 3 < i then f 3 else 0)]
def isC (f : Nat → Nat → Bool) (m : Nat) : List Value := [.bool (if 0 < m then f 0 0 else false), .bool (if 1 < m then f 0 1 else false), .bool (if 2 < m then f 0 2 else false), .bool (if 3 < m then f 0 3 else false), .bool (if 4 < m then f 1 0 else false), .bool (if 5 < m then f 1 1 else false), .bool (if 6 < m then f 1 2 else false), .bool (if 7 < m then f 1 3 else false), .bool (if 8 < m then f 2 0 else false), .bool (if 9 < m then f 2 1 else false), .bool (if 10 < m then f 2 2 else false), .bool (if 11 < m then f 2 3 else false), .bool (if 12 < m then f 3 0 else false), .bool (if 13 < m then f 3 1 else false), .bool (if 14 < m then f 3 2 else false), .bool (if 15 < m then f 3 3 else false)]
theorem al94 (W : AW) : oAlloc Tryz.prog 94 W = some (.pointer (some ⟨W.next, 0, none⟩), W.add (.cells [.int .i64 0, .int .i64 0, .int .i64 0, .int .i64 0])) := Eq.trans (by kernel_rfl) rfl
theorem al96 (W : AW) : oAlloc Tryz.prog 96 W = some (.pointer (some ⟨W.next, 0, none⟩), W.add (.cells [.bool false, .bool false, .bool false, .bool false, .bool false, .bool false, .bool false, .bool false, .bool false, .bool false, .bool false, .bool false, .bool false, .bool false, .bool false, .bool false])) := Eq.trans (by kernel_rfl) rfl
theorem idC_zero (f : Nat → Int) : idC f 0 = [.int .i64 0, .int .i64 0, .int .i64 0, .int .i64 0] := by unfold idC; simp
theorem isC_zero (f : Nat → Nat → Bool) : isC f 0 = [.bool false, .bool false, .bool false, .bool false, .bool false, .bool false, .bool false, .bool false, .bool false, .bool false, .bool false, .bool false, .bool false, .bool false, .bool false, .bool false] := by unfold isC; simp
theorem idC_set (f : Nat → Int) {i : Nat} (h : i < 4) : (idC f i).set i (.int .i64 (f i)) = idC f (i + 1) := by
  rcases (by omega : i = 0 ∨ i = 1 ∨ i = 2 ∨ i = 3) with rfl | rfl | rfl | rfl <;> (unfold idC; simp)
theorem idC_get (f : Nat → Int) {i : Nat} (h : i < 4) : (idC f 4)[i]? = some (.int .i64 (f i)) := by
  rcases (by omega : i = 0 ∨ i = 1 ∨ i = 2 ∨ i = 3) with rfl | rfl | rfl | rfl <;> (unfold idC; simp)
theorem arC_get (x : Nat → Int) {i : Nat} (h : i < 4) : (arC x)[i]? = some (.int .u16 (x i)) := by
  rcases (by omega : i = 0 ∨ i = 1 ∨ i = 2 ∨ i = 3) with rfl | rfl | rfl | rfl <;> rfl
theorem isC_set (f : Nat → Nat → Bool) {i k : Nat} (h : i < 4) (h2 : k < 4) : (isC f (4 * i + k)).set (i * 4 + k) (.bool (f i k)) = isC f (4 * i + (k + 1)) := by
  rcases (by omega : i = 0 ∨ i = 1 ∨ i = 2 ∨ i = 3) with rfl | rfl | rfl | rfl <;> rcases (by omega : k = 0 ∨ k = 1 ∨ k = 2 ∨ k = 3) with rfl | rfl | rfl | rfl <;> (unfold isC; simp)
theorem stCell {W : AW} {cs : List Value} {o : Nat} {v : Value} (h : o < cs.length) (hv : v.cells = #[v]) (h1 : Eng.one v = true) : stV 1 (.pointer (some ⟨W.next, o, none⟩)) v (W.add (.cells cs)) = some (undef, W.add (.cells (cs.set o v))) := by
  rw [stV_one hv h1, rwOf (AW.get_add _ _), Option.bind_some, if_pos h, put_add_cells]
theorem histIntervals_all {W : AW} {v : Ven} {sv ev : Value} {l : List EvT} (hG : GW W) (h : HiR W v sv ev l) (x : Nat → Int) (hx : ∀ i, i < 4 → 0 ≤ x i ∧ x i ≤ 65535) : omS (.func (.func 9) #[] #[]) [hiV v sv ev, .agg (arC x).toArray] W = some (.bool true, W) := by
  refine om_drop rfl ?_ law24_HistoryIntervals_om
  unfold law24_HistoryIntervals
  obtain ⟨W1, bx1, hle, hg1, hg2, hn1⟩ : ∃ W1, W1 = (W.add (.cells [.int .i64 v.sh, .int .i64 v.ttl, .int .i64 v.ses, sv, ev])).add (.cells (arC x)) ∧ Le W W1 ∧ W1.get W.next = some (.cells [.int .i64 v.sh, .int .i64 v.ttl, .int .i64 v.ses, sv, ev]) ∧ W1.get (W.next + 1) = some (.cells (arC x)) ∧ W1.next = W.next + 2 :=
    ⟨_, rfl, ((Le.refl _).add _).add _, by rw [AW.get_add_ne _ _ (by rw [AW.add_next]; omega), AW.get_add], AW.get_add _ _, by rw [AW.add_next, AW.add_next]⟩
  have bx2 : oBox (.agg (arC x).toArray) (W.add (.cells [.int .i64 v.sh, .int .i64 v.ttl, .int .i64 v.ses, sv, ev])) = some (.pointer (some ⟨W.next + 1, 0, none⟩), W1) := by rw [bx1]; exact oBox_agg _
  simp only [SX, hiBox, bx2]
  have cB : ∀ {V : AW}, Le W1 V → ldA 5 (.pointer (some ⟨W.next, 0, none⟩)) V = some (hiV v sv ev, V) := fun {V} hv => ldA_ok (cellsAt_of ((hv.get _ (by omega)).trans hg1)) rfl
  have hG1 := hG.mono hle
  obtain ⟨cf, hf1, hcf⟩ := far_all (h.mono hle) 80
  cases cf with
  | true =>
    have aw := awake24_ok hG1
    simp only [SX, cB (Le.refl _), hf1, aw, Ok_some]
    exact ⟨trivial, hle⟩
  | false =>
  obtain ⟨h1, -⟩ := hcf rfl
  have d0 : decide ((0 : Int) = 0) = true := rfl
  obtain ⟨a, e, hA, -⟩ := refHis_ok h1
  by_cases he : e = 0
  case neg =>
    have o1 := hisOps_bad hG1 h1 hA he
    have w1 := hisWidth_ok hG1 h1 hA (s := TL.init) (fun h => absurd h he)
    rw [if_neg he] at w1
    have de : decide (e = 0) = false := decide_eq_false he
    have dee : decide (e = e) = true := decide_eq_true rfl
    have aw := awake24_ok hG1
    simp only [SX, wu1, wu2, cB (Le.refl _), hf1, o1, w1, de, Bool.not_false, dee, d0, aw, Ok_some]
    exact ⟨trivial, hle⟩
  subst he
  have h400 := (hA.good rfl).2.1
  obtain ⟨-, -, s, hs⟩ := hA.good rfl
  have hop := hs.inv.opk
  obtain ⟨u, W2, o1, o2, o3⟩ := hisOps_ok hG1 h1 hA hs
  have hG2 := hG1.mono o2
  have h2 := h1.mono o2
  have w1 := hisWidth_ok hG2 h2 hA (fun _ => hs)
  rw [if_pos rfl] at w1
  by_cases h0 : s.ops = []
  · have dn : decide ((s.ops.length : Int) = 0) = true := decide_eq_true (by rw [h0]; rfl)
    have hw : widthV s = 0 := by
      refine Int.le_antisymm (maxN_le (fun b hb => ?_) (Int.le_refl _)) (maxN_nonneg _)
      obtain ⟨k, hk, rfl⟩ := List.mem_iff_getElem.1 hb
      have hol := hs.inv.opl
      have hv := hs.opn_ok.1 k (by omega)
      rw [List.getElem?_eq_getElem hk, h0] at hv
      injection hv with hv
      rw [hv]; exact Int.le_refl _
    rw [hw] at w1
    have aw := awake24_ok hG2
    simp only [SX, wu1, wu2, cB (Le.refl _), hf1, o1, cB o2, w1, d0, Bool.not_true, o3.len len89, dn, aw, Ok_some]
    exact ⟨trivial, hle.trans o2⟩
  have hpos : 0 < s.ops.length := List.length_pos_iff.2 h0
  have dn : decide ((s.ops.length : Int) = 0) = false := decide_eq_false (by omega)
  -- the four calls
  obtain ⟨xo, hxo⟩ : ∃ xo : Nat → HoT, ∀ j, j < 4 → ∃ p : Nat, s.ops[p]? = some (xo j) ∧ 1 + (x j).tmod (s.ops.length : Int) = (xo j).id := by
    refine ⟨fun j => (s.ops[((x j).tmod (s.ops.length : Int)).toNat]?).getD ho0, fun j hj => ⟨((x j).tmod (s.ops.length : Int)).toNat, ?_⟩⟩
    obtain ⟨k1, k2⟩ := hx j hj
    have k3 := Int.tmod_nonneg (s.ops.length : Int) k1
    have k4 := Int.tmod_lt_of_pos (x j) (show 0 < (s.ops.length : Int) by omega)
    have k5 : ((x j).tmod (s.ops.length : Int)).toNat < s.ops.length := by omega
    dsimp only
    rw [List.getElem?_eq_getElem k5, Option.getD_some]
    refine ⟨rfl, ?_⟩
    have := (hs.inv.ids _ _ (List.getElem?_eq_getElem k5)).1
    omega
  have hid : ∀ j, j < 4 → 1 ≤ (xo j).id ∧ (xo j).id ≤ (s.ops.length : Int) := fun j hj => by
    obtain ⟨p, k1, k2⟩ := hxo j hj
    have k3 := (List.getElem?_eq_some_iff.1 k1).1
    have k4 := (hs.inv.ids _ _ k1).1
    omega
  simp only [SX, cB (Le.refl _), hf1, o1, cB o2, w1, d0, Bool.not_true, o3.len len89, dn, al94]
  rw [← idC_zero fun j => (xo j).id]
  refine Ok_loop 4 (by omega) (fun i R V => V = W2.add (.cells (idC (fun j => (xo j).id) i)) ∧ R 2 = .pointer (some ⟨W.next, 0, none⟩) ∧ R 3 = .pointer (some ⟨W.next + 1, 0, none⟩) ∧ R 5 = u ∧ R 7 = .int .i64 (widthV s) ∧ R 8 = .int .i64 0 ∧ R 9 = .pointer (some ⟨W2.next, 0, none⟩) ∧ R 10 = .int .i64 (i : Int))
    (fun r => r.2.2 = W2.add (.cells (idC (fun j => (xo j).id) 4)) ∧ r.1 = .exit 0 ∧ r.2.1 2 = .pointer (some ⟨W.next, 0, none⟩) ∧ r.2.1 5 = u ∧ r.2.1 7 = .int .i64 (widthV s) ∧ r.2.1 8 = .int .i64 0 ∧ r.2.1 9 = .pointer (some ⟨W2.next, 0, none⟩)) ⟨rfl, rfl, rfl, rfl, rfl, rfl, rfl, rfl⟩ ?_ ?_ ?_
  · rintro i R V hi ⟨rfl, r2, r3, r5, r7, r8, r9, r10⟩
    unfold law24_HistoryIntervals_L1
    have t1 : ((i : Int) < 4) := by omega
    have t2 := fun W' => oBin_add (P := Tryz.prog) (W := W') (t := 3) (c := false) (d := true) (a := (i : Int)) (b := 1) (by omega) (by omega)
    have e3 : ((i + 1 : Nat) : Int) = (i : Int) + 1 := by omega
    obtain ⟨p, p1, p2⟩ := hxo i hi
    obtain ⟨y1, y2⟩ := hx i hi
    have y3 := hid i hi
    have ca : ldC (.pointer (some ⟨W.next + 1, i, none⟩)) (W2.add (.cells (idC (fun j => (xo j).id) i))) = some (.int .u16 (x i), W2.add (.cells (idC (fun j => (xo j).id) i))) := ldR (by rw [AW.get_add_ne _ _ (by have := o2.next; omega), o2.get _ (by omega)]; exact hg2) (arC_get x hi)
    have t3 := fun W' => oBin_rem (P := Tryz.prog) (W := W') (t := 3) (c := false) (d := false) (k := .i64) (a := x i) (b := (s.ops.length : Int)) (by omega)
    have t4 := fun W' => oBin_add (P := Tryz.prog) (W := W') (t := 3) (c := true) (d := false) (a := 1) (b := (x i).tmod (s.ops.length : Int)) (by omega) (by omega)
    have hst := stCell (W := W2) (cs := idC (fun j => (xo j).id) i) (o := i) (v := .int .i64 (xo i).id) hi rfl rfl
    rw [idC_set (fun j => (xo j).id) hi] at hst
    simp only [SX, r3, r5, r9, r10, t1, decide_true, ixA_ok hi, Nat.zero_add, Nat.mul_one, ca, oConv16 y1 y2, (o3.mono ((Le.refl W2).add (.cells (idC (fun j => (xo j).id) i)))).len len89, t3, t4, p2, hst, t2, Ok_some]
    exact .inl ⟨trivial, trivial, r2, r3, r5, r7, r8, r9, by rw [e3]; rfl⟩
  · rintro R V ⟨rfl, r2, r3, r5, r7, r8, r9, r10⟩
    unfold law24_HistoryIntervals_L1
    have t1 : ¬ (((4 : Nat) : Int) < 4) := by omega
    simp only [SX, r10, t1, decide_false, Ok_some]
    exact ⟨by simp, trivial, trivial, r2, r5, r7, r8, r9⟩
  · rintro ⟨q, R, V⟩ ⟨rfl, rfl, r2, r5, r7, r8, r9⟩
    simp only at r2 r5 r7 r8 r9
    simp only [SX, al96]
    obtain ⟨W3, hW3⟩ : ∃ W3, W3 = W2.add (.cells (idC (fun j => (xo j).id) 4)) := ⟨_, rfl⟩
    have l3 : Le W2 W3 := by rw [hW3]; exact (Le.refl _).add _
    have g3 : W3.get W2.next = some (.cells (idC (fun j => (xo j).id) 4)) := by rw [hW3]; exact AW.get_add _ _
    have n3 : W3.next = W2.next + 1 := by rw [hW3, AW.add_next]
    rw [← hW3, ← isC_zero fun i k => befB (xo i) (xo k)]
    clear hW3
    refine Ok_loop 4 (by omega) (fun i R V => V = W3.add (.cells (isC (fun i k => befB (xo i) (xo k)) (4 * i))) ∧ R 2 = .pointer (some ⟨W.next, 0, none⟩) ∧ R 5 = u ∧ R 7 = .int .i64 (widthV s) ∧ R 8 = .int .i64 0 ∧ R 9 = .pointer (some ⟨W2.next, 0, none⟩) ∧ R 11 = .pointer (some ⟨W3.next, 0, none⟩) ∧ R 12 = .int .i64 (i : Int))
      (fun r => r.2.2 = W3.add (.cells (isC (fun i k => befB (xo i) (xo k)) 16)) ∧ r.1 = .exit 2 ∧ r.2.1 2 = .pointer (some ⟨W.next, 0, none⟩) ∧ r.2.1 5 = u ∧ r.2.1 7 = .int .i64 (widthV s) ∧ r.2.1 8 = .int .i64 0 ∧ r.2.1 11 = .pointer (some ⟨W3.next, 0, none⟩)) ⟨rfl, r2, r5, r7, r8, r9, rfl, rfl⟩ ?_ ?_ ?_
    · rintro i R V hi ⟨rfl, r2, r5, r7, r8, r9, r11, r12⟩
      unfold law24_HistoryIntervals_L2
      have t1 : ((i : Int) < 4) := by omega
      have t2 := fun W' => oBin_add (P := Tryz.prog) (W := W') (t := 3) (c := false) (d := true) (a := (i : Int)) (b := 1) (by omega) (by omega)
      have e3 : ((i + 1 : Nat) : Int) = (i : Int) + 1 := by omega
      simp only [SX, r12, t1, decide_true]
      refine Ok_loop 4 (by omega) (fun k R V => V = W3.add (.cells (isC (fun i k => befB (xo i) (xo k)) (4 * i + k))) ∧ R 2 = .pointer (some ⟨W.next, 0, none⟩) ∧ R 5 = u ∧ R 7 = .int .i64 (widthV s) ∧ R 8 = .int .i64 0 ∧ R 9 = .pointer (some ⟨W2.next, 0, none⟩) ∧ R 11 = .pointer (some ⟨W3.next, 0, none⟩) ∧ R 12 = .int .i64 (i : Int) ∧ R 13 = .int .i64 (k : Int))
        (fun r => r.2.2 = W3.add (.cells (isC (fun i k => befB (xo i) (xo k)) (4 * (i + 1)))) ∧ r.1 = .exit 4 ∧ r.2.1 2 = .pointer (some ⟨W.next, 0, none⟩) ∧ r.2.1 5 = u ∧ r.2.1 7 = .int .i64 (widthV s) ∧ r.2.1 8 = .int .i64 0 ∧ r.2.1 9 = .pointer (some ⟨W2.next, 0, none⟩) ∧ r.2.1 11 = .pointer (some ⟨W3.next, 0, none⟩) ∧ r.2.1 12 = .int .i64 (i : Int)) ⟨rfl, r2, r5, r7, r8, r9, r11, r12, rfl⟩ ?_ ?_ ?_
      · rintro k R V hk ⟨rfl, r2, r5, r7, r8, r9, r11, r12, r13⟩
        unfold law24_HistoryIntervals_L2_L3
        have t3 : ((k : Int) < 4) := by omega
        have t4 := fun W' => oBin_add (P := Tryz.prog) (W := W') (t := 3) (c := false) (d := true) (a := (k : Int)) (b := 1) (by omega) (by omega)
        have e4 : ((k + 1 : Nat) : Int) = (k : Int) + 1 := by omega
        obtain ⟨p, p1, -⟩ := hxo i hi
        obtain ⟨q, q1, -⟩ := hxo k hk
        have hst := stCell (W := W3) (cs := isC (fun i k => befB (xo i) (xo k)) (4 * i + k)) (o := i * 4 + k) (v := .bool (befB (xo i) (xo k))) (by unfold isC; simp only [List.length_cons, List.length_nil]; omega) rfl rfl
        rw [isC_set (fun i k => befB (xo i) (xo k)) hi hk] at hst
        have lV : Le W3 (W3.add (.cells (isC (fun i k => befB (xo i) (xo k)) (4 * i + k)))) := (Le.refl _).add _
        have gV : (W3.add (.cells (isC (fun i k => befB (xo i) (xo k)) (4 * i + k)))).get W2.next = some (.cells (idC (fun j => (xo j).id) 4)) := (lV.get _ (by omega)).trans g3
        generalize W3.add (.cells (isC (fun i k => befB (xo i) (xo k)) (4 * i + k))) = V at *
        have ci : ldC (.pointer (some ⟨W2.next, i, none⟩)) V = some (.int .i64 (xo i).id, V) := ldR gV (idC_get _ hi)
        have ck : ldC (.pointer (some ⟨W2.next, k, none⟩)) V = some (.int .i64 (xo k).id, V) := ldR gV (idC_get _ hk)
        obtain ⟨b1, b2⟩ := bef_ovl ((hG2.mono l3).mono lV) ((h2.mono l3).mono lV) hA hs p1 q1
        have cBV := cB (o2.trans (l3.trans lV))
        have hirr := befB_irr hs p1
        have hne : (xo i).id = (xo k).id → befB (xo i) (xo k) = false := fun e => by
          have e1 := (hs.inv.ids _ _ p1).1
          have e2 := (hs.inv.ids _ _ q1).1
          have : p = q := by omega
          subst this
          rw [p1] at q1; injection q1 with q1
          rw [← q1]; exact hirr
        generalize (xo i).id = idi at *
        generalize (xo k).id = idk at *
        generalize befB (xo k) (xo i) = cb at *
        cases hab : befB (xo i) (xo k) with
        | true =>
          have hd : decide (idi = idk) = false := decide_eq_false fun e => by rw [hne e] at hab; cases hab
          rw [hab] at b1 b2 hst
          simp only [Bool.not_true, Bool.false_and, Bool.and_false] at b2
          simp only [SX, wu1, wu2, r2, r9, r11, r12, r13, t3, decide_true, cBV, ixA_ok hi, ixA_ok hk, Nat.zero_add, Nat.mul_one, ci, ck, b1, b2, d0, Bool.not_true, hd, hst, t4, Ok_some]
          exact .inl ⟨trivial, trivial, r2, r5, r7, r8, r9, r11, r12, by rw [e4]; rfl⟩
        | false =>
          rw [hab] at b1 b2 hst
          cases hd : decide (idi = idk) with
          | true =>
            rw [hd] at b2
            simp only [Bool.not_true, Bool.false_and] at b2
            simp only [SX, wu1, wu2, r2, r9, r11, r12, r13, t3, decide_true, cBV, ixA_ok hi, ixA_ok hk, Nat.zero_add, Nat.mul_one, ci, ck, b1, b2, d0, Bool.not_true, hd, hst, t4, Ok_some]
            exact .inl ⟨trivial, trivial, r2, r5, r7, r8, r9, r11, r12, by rw [e4]; rfl⟩
          | false =>
            simp only [SX, wu1, wu2, r2, r9, r11, r12, r13, t3, decide_true, cBV, ixA_ok hi, ixA_ok hk, Nat.zero_add, Nat.mul_one, ci, ck, b1, b2, d0, Bool.not_true, hd, hst, t4, Ok_some]
            exact .inl ⟨trivial, trivial, r2, r5, r7, r8, r9, r11, r12, by rw [e4]; rfl⟩
      · rintro R V ⟨rfl, r2, r5, r7, r8, r9, r11, r12, r13⟩
        unfold law24_HistoryIntervals_L2_L3
        have t3 : ¬ (((4 : Nat) : Int) < 4) := by omega
        simp only [SX, r13, t3, decide_false, Ok_some]
        exact ⟨by simp, by rw [show 4 * (i + 1) = 4 * i + 4 by omega], trivial, r2, r5, r7, r8, r9, r11, r12⟩
      · rintro ⟨q, R, V⟩ ⟨rfl, rfl, r2, r5, r7, r8, r9, r11, r12⟩
        simp only at r2 r5 r7 r8 r9 r11 r12
        simp only [SX, r12, t2, Ok_some]
        exact .inl ⟨trivial, trivial, r2, r5, r7, r8, r9, r11, by rw [e3]; rfl⟩
    · rintro R V ⟨rfl, r2, r5, r7, r8, r9, r11, r12⟩
      unfold law24_HistoryIntervals_L2
      have t1 : ¬ (((4 : Nat) : Int) < 4) := by omega
      simp only [SX, r12, t1, decide_false, Ok_some]
      exact ⟨by simp, trivial, trivial, r2, r5, r7, r8, r11⟩
    · rintro ⟨q, R, V⟩ ⟨rfl, rfl, r2, r5, r7, r8, r11⟩
      simp only at r2 r5 r7 r8 r11
      have l4 : Le W3 (W3.add (.cells (isC (fun i k => befB (xo i) (xo k)) 16))) := (Le.refl _).add _
      have g4 : (W3.add (.cells (isC (fun i k => befB (xo i) (xo k)) 16))).get W3.next = some (.cells (isC (fun i k => befB (xo i) (xo k)) 16)) := AW.get_add _ _
      generalize W3.add (.cells (isC (fun i k => befB (xo i) (xo k)) 16)) = V at *
      have lV := o2.trans (l3.trans l4)
      have hq := clique_ok ((hG2.mono l3).mono l4) ((h2.mono l3).mono l4) hA hs ((o3.mono l3).mono l4)
      have ew : decide (maxN s.opn = widthV s) = true := decide_eq_true rfl
      have aw := awake24_ok (hG1.mono lV)
      obtain ⟨p0, y0, -⟩ := hxo 0 (by omega)
      obtain ⟨p1, y1, -⟩ := hxo 1 (by omega)
      obtain ⟨p2, y2, -⟩ := hxo 2 (by omega)
      obtain ⟨p3, y3, -⟩ := hxo 3 (by omega)
      have k0 := hs.long y0
      have k1 := hs.long y1
      have m1 := fun h1 h2 h3 h4 => befB_inter (a := xo 0) (b := xo 1) (c := xo 2) (d := xo 3) h1 h2 h3 h4
      have m2 := befB_trans (a := xo 0) (b := xo 1) (c := xo 2) k1
      have m3 := befB_asym (a := xo 0) (b := xo 1) k0 k1
      have c01 : ldC (.pointer (some ⟨W3.next, 1, none⟩)) V = some (.bool (befB (xo 0) (xo 1)), V) := ldR g4 rfl
      have c23 : ldC (.pointer (some ⟨W3.next, 11, none⟩)) V = some (.bool (befB (xo 2) (xo 3)), V) := ldR g4 rfl
      have c03 : ldC (.pointer (some ⟨W3.next, 3, none⟩)) V = some (.bool (befB (xo 0) (xo 3)), V) := ldR g4 rfl
      have c21 : ldC (.pointer (some ⟨W3.next, 9, none⟩)) V = some (.bool (befB (xo 2) (xo 1)), V) := ldR g4 rfl
      have c12 : ldC (.pointer (some ⟨W3.next, 6, none⟩)) V = some (.bool (befB (xo 1) (xo 2)), V) := ldR g4 rfl
      have c02 : ldC (.pointer (some ⟨W3.next, 2, none⟩)) V = some (.bool (befB (xo 0) (xo 2)), V) := ldR g4 rfl
      have c10 : ldC (.pointer (some ⟨W3.next, 4, none⟩)) V = some (.bool (befB (xo 1) (xo 0)), V) := ldR g4 rfl
      have a0 : ∀ V' : AW, ixA 4 4 (.pointer (some ⟨W3.next, 0, none⟩)) (.int .i64 0) V' = some (.pointer (some ⟨W3.next, 0, none⟩), V') := fun V' => ixA_ok (i := 0) (by omega)
      have a1 : ∀ V' : AW, ixA 4 4 (.pointer (some ⟨W3.next, 0, none⟩)) (.int .i64 1) V' = some (.pointer (some ⟨W3.next, 4, none⟩), V') := fun V' => ixA_ok (i := 1) (by omega)
      have a2 : ∀ V' : AW, ixA 4 4 (.pointer (some ⟨W3.next, 0, none⟩)) (.int .i64 2) V' = some (.pointer (some ⟨W3.next, 8, none⟩), V') := fun V' => ixA_ok (i := 2) (by omega)
      have b01 : ∀ V' : AW, ixA 4 1 (.pointer (some ⟨W3.next, 0, none⟩)) (.int .i64 1) V' = some (.pointer (some ⟨W3.next, 1, none⟩), V') := fun V' => ixA_ok (i := 1) (by omega)
      have b23 : ∀ V' : AW, ixA 4 1 (.pointer (some ⟨W3.next, 8, none⟩)) (.int .i64 3) V' = some (.pointer (some ⟨W3.next, 11, none⟩), V') := fun V' => ixA_ok (i := 3) (by omega)
      have b03 : ∀ V' : AW, ixA 4 1 (.pointer (some ⟨W3.next, 0, none⟩)) (.int .i64 3) V' = some (.pointer (some ⟨W3.next, 3, none⟩), V') := fun V' => ixA_ok (i := 3) (by omega)
      have b21 : ∀ V' : AW, ixA 4 1 (.pointer (some ⟨W3.next, 8, none⟩)) (.int .i64 1) V' = some (.pointer (some ⟨W3.next, 9, none⟩), V') := fun V' => ixA_ok (i := 1) (by omega)
      have b12 : ∀ V' : AW, ixA 4 1 (.pointer (some ⟨W3.next, 4, none⟩)) (.int .i64 2) V' = some (.pointer (some ⟨W3.next, 6, none⟩), V') := fun V' => ixA_ok (i := 2) (by omega)
      have b02 : ∀ V' : AW, ixA 4 1 (.pointer (some ⟨W3.next, 0, none⟩)) (.int .i64 2) V' = some (.pointer (some ⟨W3.next, 2, none⟩), V') := fun V' => ixA_ok (i := 2) (by omega)
      have b10 : ∀ V' : AW, ixA 4 1 (.pointer (some ⟨W3.next, 4, none⟩)) (.int .i64 0) V' = some (.pointer (some ⟨W3.next, 4, none⟩), V') := fun V' => ixA_ok (i := 0) (by omega)
      generalize befB (xo 0) (xo 1) = z01 at *
      generalize befB (xo 2) (xo 3) = z23 at *
      generalize befB (xo 0) (xo 3) = z03 at *
      generalize befB (xo 2) (xo 1) = z21 at *
      generalize befB (xo 1) (xo 2) = z12 at *
      generalize befB (xo 0) (xo 2) = z02 at *
      generalize befB (xo 1) (xo 0) = z10 at *
      cases z01 with
      | false =>
        simp only [SX, wu1, wu2, r2, r5, r7, r8, r11, c01, c23, c03, c21, c12, c02, c10, b01, b23, b03, b21, b12, b02, b10, a0, a1, a2, Bool.not_true, Bool.not_false, d0, cB lV, hq, ew, aw, Ok_some]
        exact ⟨trivial, hle.trans lV⟩
      | true =>
        obtain rfl : z10 = false := m3 rfl
        cases z12 with
        | false =>
          cases z23 with
          | false =>
            simp only [SX, wu1, wu2, r2, r5, r7, r8, r11, c01, c23, c03, c21, c12, c02, c10, b01, b23, b03, b21, b12, b02, b10, a0, a1, a2, Bool.not_true, Bool.not_false, d0, cB lV, hq, ew, aw, Ok_some]
            exact ⟨trivial, hle.trans lV⟩
          | true =>
            cases z03 with
            | true =>
              simp only [SX, wu1, wu2, r2, r5, r7, r8, r11, c01, c23, c03, c21, c12, c02, c10, b01, b23, b03, b21, b12, b02, b10, a0, a1, a2, Bool.not_true, Bool.not_false, d0, cB lV, hq, ew, aw, Ok_some]
              exact ⟨trivial, hle.trans lV⟩
            | false =>
              cases z21 with
              | true =>
                simp only [SX, wu1, wu2, r2, r5, r7, r8, r11, c01, c23, c03, c21, c12, c02, c10, b01, b23, b03, b21, b12, b02, b10, a0, a1, a2, Bool.not_true, Bool.not_false, d0, cB lV, hq, ew, aw, Ok_some]
                exact ⟨trivial, hle.trans lV⟩
              | false => exact (m1 rfl rfl rfl rfl).elim
        | true =>
          obtain rfl : z02 = true := m2 rfl rfl
          cases z23 with
          | false =>
            simp only [SX, wu1, wu2, r2, r5, r7, r8, r11, c01, c23, c03, c21, c12, c02, c10, b01, b23, b03, b21, b12, b02, b10, a0, a1, a2, Bool.not_true, Bool.not_false, d0, cB lV, hq, ew, aw, Ok_some]
            exact ⟨trivial, hle.trans lV⟩
          | true =>
            cases z03 with
            | true =>
              simp only [SX, wu1, wu2, r2, r5, r7, r8, r11, c01, c23, c03, c21, c12, c02, c10, b01, b23, b03, b21, b12, b02, b10, a0, a1, a2, Bool.not_true, Bool.not_false, d0, cB lV, hq, ew, aw, Ok_some]
              exact ⟨trivial, hle.trans lV⟩
            | false =>
              cases z21 with
              | true =>
                simp only [SX, wu1, wu2, r2, r5, r7, r8, r11, c01, c23, c03, c21, c12, c02, c10, b01, b23, b03, b21, b12, b02, b10, a0, a1, a2, Bool.not_true, Bool.not_false, d0, cB lV, hq, ew, aw, Ok_some]
                exact ⟨trivial, hle.trans lV⟩
              | false => exact (m1 rfl rfl rfl rfl).elim
end Go.Proofs.YtnigceddndemkaaGreatDoor
/- HistoryIntervals at any history. -/
namespace Go.Proofs.YtnigceddndemkaaGreatDoor
open Go Go.Eng
set_option linter.unusedVariables false
set_option linter.unusedSimpArgs false
set_option linter.unusedSectionVars false
set_option maxRecDepth 100000
theorem cell16 {w : World} {r : Reach} {b0 : Nat} {v : Value} (h : Cell.okWide Tryz.prog w r b0 87 v) : ∃ n, v = .int .u16 n ∧ 0 ≤ n ∧ n ≤ 65535 := by
  simp only [Cell.okWide, Tryz.underlying87] at h
  cases v <;> try (simp_all [Cell.ok, Tryz.underlying87]; done)
  rename_i k n
  simp only [Cell.ok, Tryz.underlying87] at h
  obtain ⟨rfl, h1⟩ := h
  exact ⟨n, rfl, h1⟩
theorem ct88 : Tryz.prog.cellTypes Tryz.prog.depth 88 = some [87, 87, 87, 87] := by kernel_rfl
theorem co88 : Tryz.prog.cellsOf 88 = 4 := by kernel_rfl
theorem openArr {w : World} {r : Reach} {b0 : Nat} {v0 : Value} (hv : Value.okWide Tryz.prog w r b0 88 v0) : ∃ x : Nat → Int, (∀ i, i < 4 → 0 ≤ x i ∧ x i ≤ 65535) ∧ v0 = .agg (arC x).toArray := by
  unfold Value.okWide at hv
  rw [Tryz.underlying88] at hv
  obtain ⟨cs, rfl, hsz, ts, hts, -, hc⟩ := hv
  rw [co88] at hsz
  rw [ct88] at hts
  injection hts with hts
  subst hts
  have hcell : ∀ i, i < 4 → ∃ n, cs[i]? = some (.int .u16 n) ∧ 0 ≤ n ∧ n ≤ 65535 := fun i hi => by
    have hg : cs[i]? = some (cs[i]'(by omega)) := Array.getElem?_eq_getElem _
    obtain ⟨u, h1, h2⟩ := hc i _ hg
    have : u = 87 := by
      rcases (by omega : i = 0 ∨ i = 1 ∨ i = 2 ∨ i = 3) with rfl | rfl | rfl | rfl <;> (simp at h1; exact h1.symm)
    subst this
    obtain ⟨n, e, h3⟩ := cell16 h2
    exact ⟨n, by rw [hg, e], h3⟩
  refine ⟨fun i => if h : i < 4 then Classical.choose (hcell i h) else 0, fun i hi => ?_, ?_⟩
  · simp only [dif_pos hi]
    exact (Classical.choose_spec (hcell i hi)).2
  · congr 1
    apply Array.ext'
    apply List.ext_getElem?
    intro i
    by_cases hi : i < 4
    · rw [Array.getElem?_toList, (Classical.choose_spec (hcell i hi)).1]
      rcases (by omega : i = 0 ∨ i = 1 ∨ i = 2 ∨ i = 3) with rfl | rfl | rfl | rfl <;> simp
    · rw [List.getElem?_eq_none (by simp; omega), List.getElem?_eq_none (by simp; omega)]
end Go.Proofs.YtnigceddndemkaaGreatDoor
