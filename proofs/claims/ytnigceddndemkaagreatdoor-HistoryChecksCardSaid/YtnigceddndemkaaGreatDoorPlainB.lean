/- Contracts of functions, and their laws. -/
import Derived.Test.YtnigceddndemkaaGreatDoorPlainA
import Derived.Test.YtnigceddndemkaaGreatDoorSDec
import Derived.Test.YtnigceddndemkaaGreatDoorOpnA
import Derived.KernelRfl
/- Histories: Width, the program's and the specification's. -/
namespace Go.Proofs.YtnigceddndemkaaGreatDoor
open Go Go.Eng
set_option linter.unusedVariables false
set_option linter.unusedSimpArgs false
set_option linter.unusedSectionVars false
set_option maxRecDepth 100000
theorem take_snoc' {α : Type} {l : List α} {i : Nat} (h : i < l.length) : l.take (i + 1) = l.take i ++ [l[i]] := List.take_succ_eq_append_getElem h
theorem maxInts_ok {W : AW} {v : Value} {l : List Int} (h : Ints W v l) (hl : l.length ≤ 1000) (h0 : l ≠ []) (hp : ∀ a ∈ l, 0 ≤ a) : omS (.func (.func 107) #[] #[]) [v] W = some (.int .i64 (maxN l), W) := by
  refine om_drop rfl ?_ slices_Maxintint_om
  unfold slices_Maxintint
  have hpos : 0 < l.length := List.length_pos_iff.2 h0
  have t0 : ¬ ((l.length : Int) < 1) := by omega
  obtain ⟨p0, i0, k0⟩ := Ints.get h hpos
  have i0' : ∀ W', ixS 1 v (.int .i64 0) W' = some (p0, W') := fun W' => i0 W' .i64
  have hm1 : maxN (l.take 1) = l[0] := by
    rw [take_snoc' (i := 0) hpos, maxN_snoc]
    have := hp l[0] (List.getElem_mem _)
    show max 0 _ = _
    omega
  simp only [SX, h.len len69, t0, decide_false, i0', k0 _ (Le.refl _)]
  refine Ok_loop (l.length - 1) (by omega) (fun i R V => V = W ∧ R 0 = v ∧ R 3 = .int .i64 (maxN (l.take (i + 1))) ∧ R 4 = .int .i64 ((i : Int) + 1)) (fun r => r.2.2 = W ∧ r.1 = .exit 0 ∧ r.2.1 3 = .int .i64 (maxN l)) ⟨rfl, rfl, by rw [hm1]; rfl, rfl⟩ ?_ ?_ ?_
  · rintro i R V hi ⟨rfl, r0, r3, r4⟩
    unfold slices_Maxintint_L2
    have hi' : i + 1 < l.length := by omega
    have t1 : ((i : Int) + 1 < (l.length : Int)) := by omega
    have t2 := fun W' => oBin_add (P := Tryz.prog) (W := W') (t := 3) (c := false) (d := true) (a := (i : Int) + 1) (b := 1) (by omega) (by omega)
    have e3 : ((i + 1 : Nat) : Int) + 1 = (i : Int) + 1 + 1 := by omega
    obtain ⟨p1, i1, i3⟩ := Ints.get h hi'
    have i1' : ∀ W', ixS 1 v (.int .i64 ((i : Int) + 1)) W' = some (p1, W') := fun W' => i1 W' .i64
    simp only [SX, r0, r3, r4, h.len len69, t1, decide_true, i1', i3 _ (Le.refl _), max_ok, t2, Ok_some]
    exact .inl ⟨trivial, trivial, r0, by rw [take_snoc' hi', maxN_snoc]; rfl, by rw [e3]; rfl⟩
  · rintro R V ⟨rfl, r0, r3, r4⟩
    unfold slices_Maxintint_L2
    have e : ((l.length - 1 : Nat) : Int) + 1 = (l.length : Int) := by omega
    rw [e] at r4
    rw [show l.length - 1 + 1 = l.length by omega, List.take_length] at r3
    have t1 : ¬ ((l.length : Int) < (l.length : Int)) := by omega
    simp only [SX, r0, r4, h.len len69, t1, decide_false, Ok_some]
    exact ⟨by simp, trivial, trivial, r3⟩
  · rintro ⟨q, R, V⟩ ⟨rfl, rfl, r3⟩
    simp only at r3
    simp only [SX, r3, Ok_some]
    exact ⟨trivial, Le.refl _⟩
/-- Width answers so -/
noncomputable def widthV (s : TL) : Int := maxN s.opn
theorem opn_pos {l : List EvT} {s : TL} (hs : Run l l.length s) : ∀ a ∈ s.opn, 0 ≤ a := fun a ha => by
  obtain ⟨k, hk, rfl⟩ := List.mem_iff_getElem.1 ha
  have hol := hs.inv.opl
  have := hs.opn_ok.1 k (by omega)
  rw [List.getElem?_eq_getElem hk] at this
  injection this with this
  rw [this]; omega
theorem hisWidth_ok {W : AW} {v : Ven} {sv ev : Value} {l : List EvT} (hG : GW W) (h : HiA W v sv ev l) {a e : Int} (hA : Ans (venE v).2 l a e) {s : TL} (hs : e = 0 → Run l l.length s) : omS (.func (.func 44) #[] #[]) [hiV v sv ev] W = some (.tuple #[.int .i64 (if e = 0 then widthV s else 0), .int .i64 e], W) := by
  refine om_drop rfl ?_ history_Width_om
  unfold history_Width
  have hle : Le W (W.add (.cells [.int .i64 v.sh, .int .i64 v.ttl, .int .i64 v.ses, sv, ev])) := (Le.refl W).add _
  have hg : (W.add (.cells [.int .i64 v.sh, .int .i64 v.ttl, .int .i64 v.ses, sv, ev])).get W.next = some (.cells [.int .i64 v.sh, .int .i64 v.ttl, .int .i64 v.ses, sv, ev]) := AW.get_add _ _
  simp only [SX, hiBox, Nat.zero_add]
  generalize W.add (.cells [.int .i64 v.sh, .int .i64 v.ttl, .int .i64 v.ses, sv, ev]) = W1 at *
  have cB : ldA 5 (.pointer (some ⟨W.next, 0, none⟩)) W1 = some (hiV v sv ev, W1) := ldA_ok (cellsAt_of hg) rfl
  obtain ⟨q, W', hc, a', e', p, hA', rfl, l3, hp⟩ := read_ok (hG.mono hle) (h.mono hle)
  obtain ⟨rfl, rfl⟩ := hA.det hA'
  by_cases he : e = 0
  case neg =>
    have d : decide (e = 0) = false := decide_eq_false he
    simp only [SX, cB, hc, d, Bool.not_false, if_neg he, Ok_some]
    exact ⟨trivial, hle.trans l3⟩
  subst he
  rcases hp with ⟨hp, -⟩ | ⟨-, s', tb, ov, pv, hs', rfl, m1, m2, m3, m4, m5⟩
  · exact absurd rfl hp
  have := (hs rfl).det hs'
  subst this
  have d : decide ((0 : Int) = 0) = true := rfl
  have c6 : ldC (.pointer (some ⟨tb, 6, none⟩)) W' = some (pv, W') := ldR m3 rfl
  have hol := hs'.inv.opl
  have h400 := (hA.good rfl).2.1
  by_cases hz : s'.opn = []
  · have d2 : decide ((s'.opn.length : Int) = 0) = true := decide_eq_true (by rw [hz]; rfl)
    have hw : widthV s' = 0 := by unfold widthV; rw [hz]; rfl
    simp only [SX, cB, hc, d, Bool.not_true, oNilCheck_ptr, Nat.zero_add, c6, m5.len len69, d2, if_true, hw, Ok_some]
    exact ⟨trivial, hle.trans l3⟩
  · have hpos : 0 < s'.opn.length := List.length_pos_iff.2 hz
    have d2 : decide ((s'.opn.length : Int) = 0) = false := decide_eq_false (by omega)
    have hm := maxInts_ok m5 (by omega) hz (opn_pos hs')
    simp only [SX, cB, hc, d, Bool.not_true, oNilCheck_ptr, Nat.zero_add, c6, m5.len len69, d2, hm, if_true, Ok_some]
    exact ⟨rfl, hle.trans l3⟩
theorem openN_take {ops : List HoT} {i k : Nat} (h : i < ops.length) : openAt (ops.take (i + 1)) k = openAt (ops.take i) k + if isOpen k ops[i] = true then 1 else 0 := by
  rw [take_snoc' h, openAt_snoc]
theorem openAt_le (ops : List HoT) (k : Nat) : openAt ops k ≤ ops.length := List.length_filter_le _ _
theorem refWidth_ok {W : AW} {v : Ven} {sv ev : Value} {l : List EvT} (h : HiA W v sv ev l) {a e : Int} (hA : Ans (venE v).2 l a e) {s : TL} (hs : e = 0 → Run l l.length s) : omS (.func (.func 50) #[] #[]) [hiV v sv ev] W = some (.tuple #[.int .i64 (if e = 0 then widthV s else 0), .int .i64 e], W) := by
  refine om_drop rfl ?_ ref24_Width_om
  unfold ref24_Width
  have hle : Le W (W.add (.cells [.int .i64 v.sh, .int .i64 v.ttl, .int .i64 v.ses, sv, ev])) := (Le.refl W).add _
  have hg : (W.add (.cells [.int .i64 v.sh, .int .i64 v.ttl, .int .i64 v.ses, sv, ev])).get W.next = some (.cells [.int .i64 v.sh, .int .i64 v.ttl, .int .i64 v.ses, sv, ev]) := AW.get_add _ _
  have hn1 : (W.add (.cells [.int .i64 v.sh, .int .i64 v.ttl, .int .i64 v.ses, sv, ev])).next = W.next + 1 := AW.add_next _ _
  simp only [SX, hiBox, Nat.zero_add]
  generalize W.add (.cells [.int .i64 v.sh, .int .i64 v.ttl, .int .i64 v.ses, sv, ev]) = W1 at *
  have cB : ldA 5 (.pointer (some ⟨W.next, 0, none⟩)) W1 = some (hiV v sv ev, W1) := ldA_ok (cellsAt_of hg) rfl
  by_cases he : e = 0
  case neg =>
    have hc := refOpsAll_bad (h.mono hle) hA he
    have d : decide (e = 0) = false := decide_eq_false he
    simp only [SX, cB, hc, d, Bool.not_false, if_neg he, Ok_some]
    exact ⟨trivial, hle⟩
  subst he
  have hs := hs rfl
  obtain ⟨u, W', hc, l3, hu⟩ := refOpsAll_ok (h.mono hle) hA hs
  have d : decide ((0 : Int) = 0) = true := rfl
  have h400 := (hA.good rfl).2.1
  have hop := hs.inv.opk
  have hol := hs.inv.opl
  have hopn := hs.opn_ok.1
  have c4 : ldC (.pointer (some ⟨W.next, 4, none⟩)) W' = some (ev, W') := ldR ((l3.get _ (by omega)).trans hg) rfl
  have evs := h.evs.mono (hle.trans l3)
  simp only [SX, cB, hc, d, Bool.not_true, if_true]
  refine Ok_loop l.length (by omega) (fun k R V => V = W' ∧ R 1 = .pointer (some ⟨W.next, 0, none⟩) ∧ R 4 = u ∧ R 6 = .int .i64 (maxN (s.opn.take k)) ∧ R 7 = .int .i64 (k : Int)) (fun r => r.2.2 = W' ∧ r.1 = .exit 0 ∧ r.2.1 6 = .int .i64 (maxN s.opn)) ⟨rfl, rfl, rfl, rfl, rfl⟩ ?_ ?_ ?_
  · rintro k R V hk ⟨rfl, r1, r4, r6, r7⟩
    unfold ref24_Width_L1
    have t1 : ((k : Int) < (l.length : Int)) := by omega
    have t2 := fun W' => oBin_add (P := Tryz.prog) (W := W') (t := 3) (c := false) (d := true) (a := (k : Int)) (b := 1) (by omega) (by omega)
    have e3 : ((k + 1 : Nat) : Int) = (k : Int) + 1 := by omega
    have hk' : k < s.opn.length := by omega
    have hval : s.opn[k] = ((openAt s.ops k : Nat) : Int) := by
      have := hopn k hk
      rw [List.getElem?_eq_getElem hk'] at this
      injection this
    simp only [SX, r1, r4, r6, r7, Nat.zero_add, c4, evs.len len80, t1, decide_true]
    refine Ok_loop s.ops.length (by omega) (fun i R' V' => V' = V ∧ R' 1 = .pointer (some ⟨W.next, 0, none⟩) ∧ R' 4 = u ∧ R' 6 = .int .i64 (maxN (s.opn.take k)) ∧ R' 7 = .int .i64 (k : Int) ∧ R' 8 = .int .i64 (openAt (s.ops.take i) k : Int) ∧ R' 9 = .int .i64 (i : Int))
      (fun r => r.2.2 = V ∧ r.1 = .exit 2 ∧ r.2.1 1 = .pointer (some ⟨W.next, 0, none⟩) ∧ r.2.1 4 = u ∧ r.2.1 6 = .int .i64 (maxN (s.opn.take k)) ∧ r.2.1 7 = .int .i64 (k : Int) ∧ r.2.1 8 = .int .i64 (openAt s.ops k : Int)) ⟨rfl, r1, r4, r6, r7, rfl, rfl⟩ ?_ ?_ ?_
    · rintro i R' V' hi ⟨rfl, q1, q4, q6, q7, q8, q9⟩
      unfold ref24_Width_L1_L2
      have u1 : ((i : Int) < (s.ops.length : Int)) := by omega
      have u2 := fun W' => oBin_add (P := Tryz.prog) (W := W') (t := 3) (c := false) (d := true) (a := (i : Int)) (b := 1) (by omega) (by omega)
      have hcnt : openAt (s.ops.take i) k ≤ 1000 := by
        have := openAt_le (s.ops.take i) k
        rw [List.length_take] at this; omega
      have u3 := fun W' => oBin_add (P := Tryz.prog) (W := W') (t := 3) (c := false) (d := true) (a := (openAt (s.ops.take i) k : Int)) (b := 1) (by omega) (by omega)
      have e4 : ((i + 1 : Nat) : Int) = (i : Int) + 1 := by omega
      obtain ⟨b, o, i1, -, i3⟩ := HoL.get hu hi
      obtain ⟨-, f0, f1, f2, f3⟩ := i3 V' rfl
      have hto := openN_take (k := k) hi
      generalize s.ops[i] = x at f0 f1 f2 f3 hto
      have no : isOpen k x = false → openAt (s.ops.take (i + 1)) k = openAt (s.ops.take i) k := fun h => by rw [hto, h]; simp
      have yes : isOpen k x = true → ((openAt (s.ops.take (i + 1)) k : Nat) : Int) = (openAt (s.ops.take i) k : Int) + 1 := fun h => by rw [hto, h]; simp
      cases c1 : decide (x.fr ≤ (k : Int))
      · have hO : isOpen k x = false := by unfold isOpen; rw [c1]; rfl
        simp only [SX, wu1, wu2, q1, q4, q6, q7, q8, q9, hu.len len89, u1, decide_true, i1, f2, c1, u2, Ok_some]
        exact .inl ⟨trivial, trivial, q1, q4, q6, q7, by rw [no hO]; exact q8, by rw [e4]; rfl⟩
      cases c2 : decide (x.to < 0)
      · cases c3 : decide ((k : Int) < x.to)
        · have hO : isOpen k x = false := by unfold isOpen; rw [c1, c2, c3]; rfl
          simp only [SX, q1, q4, q6, q7, q8, q9, hu.len len89, u1, decide_true, i1, f2, c1, f3, c2, c3, u2, Ok_some]
          exact .inl ⟨trivial, trivial, q1, q4, q6, q7, by rw [no hO]; exact q8, by rw [e4]; rfl⟩
        · have hO : isOpen k x = true := by unfold isOpen; rw [c1, c2, c3]; rfl
          simp only [SX, q1, q4, q6, q7, q8, q9, hu.len len89, u1, decide_true, i1, f2, c1, f3, c2, c3, u2, u3, Ok_some]
          exact .inl ⟨trivial, trivial, q1, q4, q6, q7, by rw [yes hO]; rfl, by rw [e4]; rfl⟩
      · have hO : isOpen k x = true := by unfold isOpen; rw [c1, c2]; rfl
        simp only [SX, q1, q4, q6, q7, q8, q9, hu.len len89, u1, decide_true, i1, f2, c1, f3, c2, u2, u3, Ok_some]
        exact .inl ⟨trivial, trivial, q1, q4, q6, q7, by rw [yes hO]; rfl, by rw [e4]; rfl⟩
    · rintro R' V' ⟨rfl, q1, q4, q6, q7, q8, q9⟩
      unfold ref24_Width_L1_L2
      have u1 : ¬ ((s.ops.length : Int) < (s.ops.length : Int)) := by omega
      rw [List.take_length] at q8
      simp only [SX, q4, q9, hu.len len89, u1, decide_false, Ok_some]
      exact ⟨by simp, trivial, trivial, q1, q4, q6, q7, q8⟩
    · rintro ⟨q, R', V'⟩ ⟨rfl, rfl, q1, q4, q6, q7, q8⟩
      simp only at q1 q4 q6 q7 q8
      simp only [SX, q6, q7, q8, max_ok, t2, Ok_some]
      exact .inl ⟨trivial, trivial, q1, q4, by rw [take_snoc' hk', maxN_snoc, hval]; rfl, by rw [e3]; rfl⟩
  · rintro R V ⟨rfl, r1, r4, r6, r7⟩
    unfold ref24_Width_L1
    have t1 : ¬ ((l.length : Int) < (l.length : Int)) := by omega
    rw [List.take_of_length_le (by omega)] at r6
    simp only [SX, r1, r7, Nat.zero_add, c4, evs.len len80, t1, decide_false, Ok_some]
    exact ⟨by simp, trivial, trivial, r6⟩
  · rintro ⟨q, R, V⟩ ⟨rfl, rfl, r6⟩
    simp only at r6 l3
    simp only [SX, r6, Ok_some]
    exact ⟨rfl, hle.trans l3⟩
end Go.Proofs.YtnigceddndemkaaGreatDoor
/- What ranges over the rows of a venue: the rule, and how many seats there are. -/
namespace Go.Proofs.YtnigceddndemkaaGreatDoor
open Go Go.Eng
set_option linter.unusedVariables false
set_option linter.unusedSimpArgs false
set_option maxRecDepth 100000
/-- how many seats rows have -/
def manyS (l : List RowT) : Int := sumI (l.map (·.many))
end Go.Proofs.YtnigceddndemkaaGreatDoor
/- Histories: what ranges over some of the calls. -/
namespace Go.Proofs.YtnigceddndemkaaGreatDoor
open Go Go.Eng
set_option linter.unusedVariables false
set_option linter.unusedSimpArgs false
set_option linter.unusedSectionVars false
set_option maxRecDepth 100000
theorem oBox_ptr (p : Option Addr) (W : AW) : oBox (.pointer p) W = some (.pointer (some ⟨W.next, 0, none⟩), W.add (.cells [.pointer p])) := Eq.trans rfl rfl
theorem hoBox2 (o : HoT) (W : AW) : stV 25 (.pointer (some ⟨W.next, 0, none⟩)) (hoV o) (W.add (.cells (hoC ho0))) = some (undef, W.add (.cells (hoC o))) := by
  rw [stHo (AW.get_add _ _), put_add_cells]
theorem some_fn (tp : Option Addr) (i : Fn) (a b : Array Value) (W : AW) : ∃ W1, omS (.func (.func 111) #[] #[]) [.pointer tp, .func i a b] W = some (.func (.func 167) #[] #[.pointer (some ⟨W.next, 0, none⟩), .pointer (some ⟨W.next + 1, 0, none⟩)], W1) ∧ Le W W1 ∧ W1.next = W.next + 2 ∧
    W1.get W.next = some (.cells [.pointer tp]) ∧ W1.get (W.next + 1) = some (.cells [.func i a b]) := by
  refine ⟨(W.add (.cells [.pointer tp])).add (.cells [.func i a b]), ?_, ((Le.refl _).add _).add _, by rw [AW.add_next, AW.add_next], by rw [AW.get_add_ne _ _ (by rw [AW.add_next]; omega), AW.get_add], AW.get_add _ _⟩
  have : history_timeline_some omS (.pointer tp) (.func i a b) W = some (.func (.func 167) #[] #[.pointer (some ⟨W.next, 0, none⟩), .pointer (some ⟨W.next + 1, 0, none⟩)], (W.add (.cells [.pointer tp])).add (.cells [.func i a b])) := by
    unfold history_timeline_some
    simp only [SX, oBox_ptr, oBox_func, AW.add_next]
  rw [history_timeline_some_om this, gc_not rfl]
theorem some_ok {b1 b2 tb : Nat} {isF f ov : Value} {ops : List HoT} {W0 W : AW} (hr : HoL W0 ov ops) (hl : ops.length ≤ 1000) (P : HoT → Bool) (h1 : ldC (.pointer (some ⟨b1, 0, none⟩)) W = some (.pointer (some ⟨tb, 0, none⟩), W)) (h5 : ldC (.pointer (some ⟨tb, 5, none⟩)) W = some (ov, W))
    (I : List HoT → AW → Prop) (Q : AW → Prop) (hI : I [] W) (hS : ∀ pre W', I pre W' → Le W0 W' ∧ ldC (.pointer (some ⟨b2, 0, none⟩)) W' = some (isF, W')) (hA : ∀ pre W' cs, I pre W' → I pre (W'.add (.cells cs)))
    (his : ∀ pre o W', I pre W' → omS isF [hoV o] W' = some (.bool (P o), W')) (skip : ∀ pre o W', pre ++ [o] <+: ops → I pre W' → P o = false → I (pre ++ [o]) W')
    (step : ∀ pre o W', pre ++ [o] <+: ops → I pre W' → P o = true → ∃ b W2, omS f [hoV o] W' = some (.bool b, W2) ∧ (b = true → I (pre ++ [o]) W2) ∧ (b = false → Q W2)) :
    ∃ W2, omS (.func (.func 167) #[] #[.pointer (some ⟨b1, 0, none⟩), .pointer (some ⟨b2, 0, none⟩)]) [f] W = some (.tuple #[], W2) ∧ (I ops W2 ∨ Q W2) := by
  have main : Ok (history_timeline_some_1 omS f (.pointer (some ⟨b1, 0, none⟩)) (.pointer (some ⟨b2, 0, none⟩)) W) fun r => r.1 = .tuple #[] ∧ (I ops r.2 ∨ Q r.2) := by
    unfold history_timeline_some_1
    have l0 := (hS _ _ hI).1
    simp only [SX, h1, oNilCheck_ptr, Nat.zero_add, h5, (hr.mono l0).len len89]
    refine Ok_loop ops.length (by omega) (fun k R V => R 0 = f ∧ R 2 = .pointer (some ⟨b2, 0, none⟩) ∧ R 9 = ov ∧ R 10 = .int .i64 (ops.length : Int) ∧ R 11 = .int .i64 (k : Int) ∧ I (ops.take k) V)
      (fun r => (r.1 = .exit 0 ∧ I ops r.2.2) ∨ (r.1 = .ret ∧ Q r.2.2)) ⟨rfl, rfl, rfl, rfl, rfl, hI⟩ ?_ ?_ ?_
    · rintro k R V hk ⟨r0, r2, r9, r10, r11, hi⟩
      unfold history_timeline_some_1_L1
      have t1 : ((k : Int) < (ops.length : Int)) := by omega
      have t2 := fun W' => oBin_add (P := Tryz.prog) (W := W') (t := 3) (c := false) (d := true) (a := (k : Int)) (b := 1) (by omega) (by omega)
      have e3 : ((k + 1 : Nat) : Int) = (k : Int) + 1 := by omega
      obtain ⟨b, o, i1, i2, i3⟩ := HoL.get (hr.mono (hS _ _ hi).1) hk
      obtain ⟨f0, -⟩ := i3 V rfl
      have hpre : ops.take k ++ [ops[k]] <+: ops := by rw [← List.take_succ_eq_append_getElem hk]; exact List.take_prefix _ _
      have etk : ops.take (k + 1) = ops.take k ++ [ops[k]] := List.take_succ_eq_append_getElem hk
      rw [etk]
      generalize ops[k] = x at f0 hpre
      have hi2 := hA _ _ (hoC x) hi
      have g2 : ldA 25 (.pointer (some ⟨V.next, 0, none⟩)) (V.add (.cells (hoC x))) = some (hoV x, V.add (.cells (hoC x))) := hoB_all (AW.get_add _ _)
      have k2 := (hS _ _ hi2).2
      have hp := his _ x _ hi2
      cases hP : P x with
      | false =>
        rw [hP] at hp
        simp only [SX, r0, r2, r9, r10, r11, t1, decide_true, i1, f0, al176, hoBox2, k2, g2, hp, t2, Ok_some]
        exact .inl ⟨trivial, r0, r2, r9, r10, by rw [e3]; rfl, skip _ _ _ hpre hi2 hP⟩
      | true =>
        rw [hP] at hp
        obtain ⟨c, W2, s1, s2, s3⟩ := step _ x _ hpre hi2 hP
        cases c with
        | true =>
          simp only [SX, r0, r2, r9, r10, r11, t1, decide_true, i1, f0, al176, hoBox2, k2, g2, hp, s1, Bool.not_true, t2, Ok_some]
          exact .inl ⟨trivial, r0, r2, r9, r10, by rw [e3]; rfl, s2 rfl⟩
        | false =>
          simp only [SX, r0, r2, r9, r10, r11, t1, decide_true, i1, f0, al176, hoBox2, k2, g2, hp, s1, Bool.not_false, Ok_some]
          exact .inr ⟨by simp, .inr ⟨trivial, s3 rfl⟩⟩
    · rintro R V ⟨r0, r2, r9, r10, r11, hi⟩
      unfold history_timeline_some_1_L1
      have t1 : ¬ ((ops.length : Int) < (ops.length : Int)) := by omega
      rw [List.take_length] at hi
      simp only [SX, r10, r11, t1, decide_false, Ok_some]
      exact ⟨by simp, .inl ⟨trivial, hi⟩⟩
    · rintro ⟨x, R, V⟩ hq
      rcases hq with ⟨rfl, hi⟩ | ⟨rfl, hq⟩
      · simp only [SX, Ok_some]
        exact ⟨trivial, .inl hi⟩
      · simp only [SX, Ok_some]
        exact ⟨trivial, .inr hq⟩
  obtain ⟨⟨r, W'⟩, h1, h2, h3⟩ := main
  simp only at h2 h3
  subst h2
  exact ⟨W', by rw [history_timeline_some_1_om h1, gc_not rfl], h3⟩
theorem some_range {b1 b2 tb nt : Nat} {isF ov : Value} {ops : List HoT} {W0 W : AW} {R : Nat → Value} {ps : Array Tmp} {ac bd : Code} (hr : HoL W0 ov ops) (hl : ops.length ≤ 1000) (P : HoT → Bool) (hp : ps.size = 1)
    (h1 : ldC (.pointer (some ⟨b1, 0, none⟩)) (W.add (.loop .ready none R nt ps ac bd)) = some (.pointer (some ⟨tb, 0, none⟩), W.add (.loop .ready none R nt ps ac bd))) (h5 : ldC (.pointer (some ⟨tb, 5, none⟩)) (W.add (.loop .ready none R nt ps ac bd)) = some (ov, W.add (.loop .ready none R nt ps ac bd)))
    (J : List HoT → AW → Prop) (Q : X → AW → Prop) (h0 : J [] (W.add (.loop .ready none R nt ps ac bd)))
    (hS : ∀ pre W', J pre W' → Le W0 W' ∧ ldC (.pointer (some ⟨b2, 0, none⟩)) W' = some (isF, W')) (hA : ∀ pre W' cs, J pre W' → W.next < W'.next → J pre (W'.add (.cells cs))) (hP : ∀ pre W' o, J pre W' → J pre (W'.put W.next o)) (hQ : ∀ x W' o, Q x W' → Q x (W'.put W.next o))
    (his : ∀ pre o W', J pre W' → omS isF [hoV o] W' = some (.bool (P o), W')) (skip : ∀ pre o W', pre ++ [o] <+: ops → J pre W' → P o = false → J (pre ++ [o]) W')
    (d : Nat) (has : ∀ o W' R', R' = zipGo ps.toList [hoV o] R → kCode Tryz.prog omS false nt ac LT R' W' ret3 = some (.normal, rput R' (some d) (.pointer (some ⟨W'.next, 0, none⟩)), W'.add (.cells (hoC o))))
    (step : ∀ pre o W' b R', R' = rput (zipGo ps.toList [hoV o] R) (some d) (.pointer (some ⟨b, 0, none⟩)) → pre ++ [o] <+: ops → P o = true → J pre W' → W.next < W'.next → W'.get b = some (.cells (hoC o)) → W.next < b → b < W'.next →
      Ok (kCode Tryz.prog omS false nt bd LT R' W' ret3) fun q => W'.next ≤ q.2.2.next ∧ q.2.2.get W.next = W'.get W.next ∧ ((q.1 = .normal ∧ J (pre ++ [o]) q.2.2) ∨ (q.1 ≠ .normal ∧ Q q.1 q.2.2))) :
    ∃ x W2, oRange omS (.func (.func 167) #[] #[.pointer (some ⟨b1, 0, none⟩), .pointer (some ⟨b2, 0, none⟩)]) (.loop .ready none R nt ps ac bd) W = some (x, W2.kill W.next) ∧ ((x = .normal ∧ J ops W2) ∨ (x ≠ .normal ∧ Q x W2)) := by
  obtain ⟨W2, k1, k2⟩ := some_ok (f := .func (.yield W.next) #[] #[]) (W := W.add (.loop .ready none R nt ps ac bd)) (b2 := b2) (isF := isF) hr hl P h1 h5
    (fun pre W' => J pre W' ∧ W.next < W'.next ∧ W'.get W.next = some (.loop .ready none R nt ps ac bd))
    (fun W' => ∃ x, x ≠ .normal ∧ Q x W' ∧ W'.get W.next = some (.loop .done x.jump R nt ps ac bd))
    ⟨h0, by rw [AW.add_next]; omega, AW.get_add _ _⟩ (fun pre W' h => hS _ _ h.1)
    (fun pre W' cs h => ⟨hA _ _ _ h.1 h.2.1, by rw [AW.add_next]; omega, by rw [AW.get_add_ne _ _ (by omega)]; exact h.2.2⟩)
    (fun pre o W' h => his _ _ _ h.1) (fun pre o W' hpre h hn => ⟨skip _ _ _ hpre h.1 hn, h.2⟩)
    (fun pre o W' hpre ⟨hJ, hlt, hget⟩ hyes => by
      have hJ2 := hP _ _ (.loop .busy none R nt ps ac bd) (hA _ _ (hoC o) hJ hlt)
      obtain ⟨⟨x, R2, W3⟩, k1, k2, k3, k4⟩ := step pre o _ W'.next _ rfl hpre hyes hJ2 (by rw [AW.put_next, AW.add_next]; omega) (by rw [AW.get_put_ne _ _ (by omega)]; exact AW.get_add _ _) hlt (by rw [AW.put_next, AW.add_next]; omega)
      simp only at k1 k2 k3 k4
      rw [AW.get_put] at k3
      have hy := yield_gen (P := Tryz.prog) (args := [hoV o]) hget (by rw [hp]; rfl) (has o W' _ rfl) (by rw [AW.get_add_ne _ _ (by omega)]; exact hget) k1 k3
      have hn3 : W.next < W3.next := by rw [AW.put_next, AW.add_next] at k2; omega
      rcases k4 with ⟨rfl, k4⟩ | ⟨kx, k4⟩
      · exact ⟨true, _, hy, fun _ => ⟨hP _ _ _ k4, by rw [AW.put_next]; exact hn3, AW.get_put _ _ _⟩, fun h => by cases h⟩
      · refine ⟨false, W3.put W.next (.loop .done x.jump R nt ps ac bd), ?_, fun h => by (cases h), fun _ => ⟨x, kx, hQ _ _ _ k4, AW.get_put _ _ _⟩⟩
        refine hy.trans ?_
        cases x with
        | normal => exact absurd rfl kx
        | exit i => rfl
        | ret => rfl)
  rcases k2 with ⟨h2, h3, h4⟩ | ⟨x, h2, h3, h4⟩
  · exact ⟨.normal, W2, range_normal k1 h4 (by simp), .inl ⟨rfl, h2⟩⟩
  · exact ⟨x, W2, range_jump k1 h4, .inr ⟨h2, h3⟩⟩
theorem Ok_calls {b1 b2 tb nt : Nat} {isF ov : Value} {ops : List HoT} {W0 W : AW} {R : Nat → Value} {ps : Array Tmp} {ac bd : Code} {ρ : Type} {K : X × AW → Option ρ} {G : ρ → Prop} (hr : HoL W0 ov ops) (hl : ops.length ≤ 1000) (P : HoT → Bool) (hp : ps.size = 1)
    (h1 : ldC (.pointer (some ⟨b1, 0, none⟩)) (W.add (.loop .ready none R nt ps ac bd)) = some (.pointer (some ⟨tb, 0, none⟩), W.add (.loop .ready none R nt ps ac bd))) (h5 : ldC (.pointer (some ⟨tb, 5, none⟩)) (W.add (.loop .ready none R nt ps ac bd)) = some (ov, W.add (.loop .ready none R nt ps ac bd)))
    (J : List HoT → AW → Prop) (Q : X → AW → Prop) (h0 : J [] (W.add (.loop .ready none R nt ps ac bd)))
    (hS : ∀ pre W', J pre W' → Le W0 W' ∧ ldC (.pointer (some ⟨b2, 0, none⟩)) W' = some (isF, W')) (hA : ∀ pre W' cs, J pre W' → W.next < W'.next → J pre (W'.add (.cells cs))) (hP : ∀ pre W' o, J pre W' → J pre (W'.put W.next o)) (hQ : ∀ x W' o, Q x W' → Q x (W'.put W.next o))
    (his : ∀ pre o W', J pre W' → omS isF [hoV o] W' = some (.bool (P o), W')) (skip : ∀ pre o W', pre ++ [o] <+: ops → J pre W' → P o = false → J (pre ++ [o]) W')
    (d : Nat) (has : ∀ o W' R', R' = zipGo ps.toList [hoV o] R → kCode Tryz.prog omS false nt ac LT R' W' ret3 = some (.normal, rput R' (some d) (.pointer (some ⟨W'.next, 0, none⟩)), W'.add (.cells (hoC o))))
    (step : ∀ pre o W' b R', R' = rput (zipGo ps.toList [hoV o] R) (some d) (.pointer (some ⟨b, 0, none⟩)) → pre ++ [o] <+: ops → P o = true → J pre W' → W.next < W'.next → W'.get b = some (.cells (hoC o)) → W.next < b → b < W'.next →
      Ok (kCode Tryz.prog omS false nt bd LT R' W' ret3) fun q => W'.next ≤ q.2.2.next ∧ q.2.2.get W.next = W'.get W.next ∧ ((q.1 = .normal ∧ J (pre ++ [o]) q.2.2) ∨ (q.1 ≠ .normal ∧ Q q.1 q.2.2)))
    (after : ∀ x W2, (x = .normal ∧ J ops W2) ∨ (x ≠ .normal ∧ Q x W2) → Ok (K (x, W2.kill W.next)) G) :
    Ok (bnd (oRange omS (.func (.func 167) #[] #[.pointer (some ⟨b1, 0, none⟩), .pointer (some ⟨b2, 0, none⟩)]) (.loop .ready none R nt ps ac bd) W) K) G := by
  obtain ⟨x, W2, k1, k2⟩ := some_range hr hl P hp h1 h5 J Q h0 hS hA hP hQ his skip d has step
  rw [k1, bnd_some]
  exact after x W2 k2
end Go.Proofs.YtnigceddndemkaaGreatDoor
/- Histories: Thread, the program's and the specification's. -/
namespace Go.Proofs.YtnigceddndemkaaGreatDoor
open Go Go.Eng
set_option linter.unusedVariables false
set_option linter.unusedSimpArgs false
set_option linter.unusedSectionVars false
set_option maxRecDepth 100000
/-- the calls of a thread -/
def thIs (t : Int) (o : HoT) : Bool := decide (o.th = t)
def thIds (ops : List HoT) (t : Int) : List Int := (ops.filter (thIs t)).map (·.id)
theorem thIds_yes {pre : List HoT} {o : HoT} {t : Int} (h : thIs t o = true) : thIds (pre ++ [o]) t = thIds pre t ++ [o.id] := by
  unfold thIds
  rw [List.filter_append, List.map_append]
  simp [h]
theorem thIds_no {pre : List HoT} {o : HoT} {t : Int} (h : thIs t o = false) : thIds (pre ++ [o]) t = thIds pre t := by
  unfold thIds
  rw [List.filter_append, List.map_append]
  simp [h]
theorem thIds_le (ops : List HoT) (t : Int) : (thIds ops t).length ≤ ops.length := by
  unfold thIds
  rw [List.length_map]
  exact List.length_filter_le _ _
theorem thIs_ok (o : HoT) (t : Int) {tb : Nat} {W : AW} (h : W.get tb = some (.cells [.int .i64 t])) (hlt : tb < W.next) : omS (.func (.func 112) #[] #[.pointer (some ⟨tb, 0, none⟩)]) [hoV o] W = some (.bool (thIs t o), W) := by
  refine om_drop rfl ?_ history_Thread_1_om
  unfold history_Thread_1
  have x1 : (W.add (.cells (hoC o))).get W.next = some (.cells (hoC o)) := AW.get_add _ _
  have x2 : (W.add (.cells (hoC o))).get tb = some (.cells [.int .i64 t]) := by rw [AW.get_add_ne _ _ (by omega)]; exact h
  have c : ldC (.pointer (some ⟨tb, 0, none⟩)) (W.add (.cells (hoC o))) = some (.int .i64 t, W.add (.cells (hoC o))) := ldR x2 rfl
  simp only [SX, hoBox', Nat.zero_add, hoB_th x1, c, Ok_some]
  exact ⟨rfl, (Le.refl _).add _⟩
theorem al69 (W : AW) : oAlloc Tryz.prog 69 W = some (.pointer (some ⟨W.next, 0, none⟩), W.add (.cells [.slice none 0 0])) := Eq.trans (by kernel_rfl) rfl
/-- a list that grows in a place of its own -/
theorem pushOut {U : AW} {ob : Nat} {v : Value} {l : List Int} {bo : Option Nat} (hc : U.get ob = some (.cells [v])) (hp : LstA U 1 intC v l bo) (hbp : bo ≠ some ob) (htb : ob < U.next) (hl : l.length ≤ 1000) (n : Int) :
    ∃ v' U1 U2, aAppend Tryz.prog (U.add (.cells (intC n))) #[69, 69] v (.slice (some ⟨U.next, 0, none⟩) 1 1) = some (v', U1) ∧ stV 1 (.pointer (some ⟨ob, 0, none⟩)) v' U1 = some (undef, U2) ∧ U2.get ob = some (.cells [v']) ∧ LstA U2 1 intC v' (l ++ [n]) (some (U.next + 1)) ∧ U2.next = U.next + 2 ∧
      ∀ b, b < U.next → b ≠ ob → bo ≠ some b → U2.get b = U.get b := by
  obtain ⟨v', U1, a1, a2, a3, a4⟩ := lgrow n ap69 intC_len intC_one hp (by omega) (by omega)
  have ht : U1.get ob = some (.cells [v]) := (a4 ob htb hbp).trans hc
  refine ⟨v', U1, U1.put ob (.cells [v']), a1, ?_, AW.get_put _ _ _, a2.keep (by rw [AW.put_next]; omega) fun B hB => AW.get_put_ne _ _ (by injection hB with hB; omega), by rw [AW.put_next, a3], fun b hb hne hbb => (AW.get_put_ne _ _ (Ne.symm hne)).trans (a4 b hb hbb)⟩
  rw [stV_one (lcells1 a2).1 (lcells1 a2).2, rwOf ht]
  rfl
theorem hisThread_bad {W : AW} {v : Ven} {sv ev : Value} {l : List EvT} (hG : GW W) (h : HiA W v sv ev l) {a e : Int} (hA : Ans (venE v).2 l a e) (t : Int) (hb : e ≠ 0 ∨ t < 1 ∨ 64 < t) : omS (.func (.func 51) #[] #[]) [hiV v sv ev, .int .i64 t] W = some (.tuple #[.slice none 0 0, .int .i64 (if e = 0 then 7 else e)], W) := by
  refine om_drop rfl ?_ history_Thread_om
  unfold history_Thread
  have hle : Le W ((W.add (.cells [.int .i64 v.sh, .int .i64 v.ttl, .int .i64 v.ses, sv, ev])).add (.cells [.int .i64 t])) := ((Le.refl W).add _).add _
  have hn1 : (W.add (.cells [.int .i64 v.sh, .int .i64 v.ttl, .int .i64 v.ses, sv, ev])).next = W.next + 1 := AW.add_next _ _
  have hg : ((W.add (.cells [.int .i64 v.sh, .int .i64 v.ttl, .int .i64 v.ses, sv, ev])).add (.cells [.int .i64 t])).get W.next = some (.cells [.int .i64 v.sh, .int .i64 v.ttl, .int .i64 v.ses, sv, ev]) := by
    rw [AW.get_add_ne _ _ (by omega), AW.get_add]
  have hg2 : ((W.add (.cells [.int .i64 v.sh, .int .i64 v.ttl, .int .i64 v.ses, sv, ev])).add (.cells [.int .i64 t])).get (W.next + 1) = some (.cells [.int .i64 t]) := by rw [← hn1]; exact AW.get_add _ _
  have hn2 : ((W.add (.cells [.int .i64 v.sh, .int .i64 v.ttl, .int .i64 v.ses, sv, ev])).add (.cells [.int .i64 t])).next = W.next + 2 := by rw [AW.add_next, hn1]
  simp only [SX, hiBox, hn1, Nat.zero_add]
  generalize (W.add (.cells [.int .i64 v.sh, .int .i64 v.ttl, .int .i64 v.ses, sv, ev])).add (.cells [.int .i64 t]) = W1 at *
  have cB : ldA 5 (.pointer (some ⟨W.next, 0, none⟩)) W1 = some (hiV v sv ev, W1) := ldA_ok (cellsAt_of hg) rfl
  obtain ⟨q, W', hc, a', e', p, hA', rfl, l3, hp⟩ := read_ok (hG.mono hle) (h.mono hle)
  obtain ⟨rfl, rfl⟩ := hA.det hA'
  by_cases he : e = 0
  case neg =>
    have d : decide (e = 0) = false := decide_eq_false he
    simp only [SX, cB, hc, d, Bool.not_false, if_neg he, Ok_some]
    exact ⟨trivial, hle.trans l3⟩
  subst he
  have d : decide ((0 : Int) = 0) = true := rfl
  have ct : ldC (.pointer (some ⟨W.next + 1, 0, none⟩)) W' = some (.int .i64 t, W') := ldR ((l3.get _ (by omega)).trans hg2) rfl
  by_cases c1 : t < 1
  · have d1 : decide (t < 1) = true := decide_eq_true c1
    simp only [SX, cB, hc, d, Bool.not_true, ct, d1, if_true, Ok_some]
    exact ⟨trivial, hle.trans l3⟩
  · have d1 : decide (t < 1) = false := decide_eq_false c1
    have d2 : decide (64 < t) = true := decide_eq_true (by rcases hb with h | h | h <;> first | omega | exact absurd rfl h)
    simp only [SX, cB, hc, d, Bool.not_true, ct, d1, d2, if_true, Ok_some]
    exact ⟨trivial, hle.trans l3⟩
theorem hisThread_ok {W : AW} {v : Ven} {sv ev : Value} {l : List EvT} {s : TL} (hG : GW W) (h : HiA W v sv ev l) {a : Int} (hA : Ans (venE v).2 l a 0) (hs : Run l l.length s) {t : Int} (ht : 1 ≤ t ∧ t ≤ 64) :
    ∃ u W', omS (.func (.func 51) #[] #[]) [hiV v sv ev, .int .i64 t] W = some (.tuple #[u, .int .i64 0], W') ∧ Le W W' ∧ Ints W' u (thIds s.ops t) := by
  refine om_row2 (k := .i64) (e := 0) ?_ history_Thread_om
  unfold history_Thread
  have hle : Le W ((W.add (.cells [.int .i64 v.sh, .int .i64 v.ttl, .int .i64 v.ses, sv, ev])).add (.cells [.int .i64 t])) := ((Le.refl W).add _).add _
  have hn1 : (W.add (.cells [.int .i64 v.sh, .int .i64 v.ttl, .int .i64 v.ses, sv, ev])).next = W.next + 1 := AW.add_next _ _
  have hg : ((W.add (.cells [.int .i64 v.sh, .int .i64 v.ttl, .int .i64 v.ses, sv, ev])).add (.cells [.int .i64 t])).get W.next = some (.cells [.int .i64 v.sh, .int .i64 v.ttl, .int .i64 v.ses, sv, ev]) := by
    rw [AW.get_add_ne _ _ (by omega), AW.get_add]
  have hg2 : ((W.add (.cells [.int .i64 v.sh, .int .i64 v.ttl, .int .i64 v.ses, sv, ev])).add (.cells [.int .i64 t])).get (W.next + 1) = some (.cells [.int .i64 t]) := by rw [← hn1]; exact AW.get_add _ _
  have hn2 : ((W.add (.cells [.int .i64 v.sh, .int .i64 v.ttl, .int .i64 v.ses, sv, ev])).add (.cells [.int .i64 t])).next = W.next + 2 := by rw [AW.add_next, hn1]
  simp only [SX, hiBox, hn1, Nat.zero_add]
  generalize (W.add (.cells [.int .i64 v.sh, .int .i64 v.ttl, .int .i64 v.ses, sv, ev])).add (.cells [.int .i64 t]) = W1 at *
  have cB : ldA 5 (.pointer (some ⟨W.next, 0, none⟩)) W1 = some (hiV v sv ev, W1) := ldA_ok (cellsAt_of hg) rfl
  obtain ⟨q, W', hc, a', e', p, hA', rfl, l3, hp⟩ := read_ok (hG.mono hle) (h.mono hle)
  obtain ⟨rfl, rfl⟩ := hA.det hA'
  rcases hp with ⟨hp, -⟩ | ⟨-, s', tb, ov, pv, hs', rfl, m1, m2, m3, m4, m5⟩
  · exact absurd rfl hp
  have := hs.det hs'
  subst this
  have d : decide ((0 : Int) = 0) = true := rfl
  have ct0 : W'.get (W.next + 1) = some (.cells [.int .i64 t]) := (l3.get _ (by omega)).trans hg2
  have ct : ldC (.pointer (some ⟨W.next + 1, 0, none⟩)) W' = some (.int .i64 t, W') := ldR ct0 rfl
  have d1 : decide (t < 1) = false := decide_eq_false (by omega)
  have d2 : decide (64 < t) = false := decide_eq_false (by omega)
  have h400 := (hA.good rfl).2.1
  have hop := hs.inv.opk
  have l3n := l3.next
  obtain ⟨W2, b1, b2, b3, b4⟩ : ∃ W2, oAlloc Tryz.prog 69 W' = some (.pointer (some ⟨W'.next, 0, none⟩), W2) ∧ W2.get W'.next = some (.cells [.slice none 0 0]) ∧ W2.next = W'.next + 1 ∧ Le W' W2 := ⟨_, al69 W', AW.get_add _ _, AW.add_next _ _, (Le.refl _).add _⟩
  obtain ⟨W3, s1, s2, s3, s4, s5⟩ := some_fn (some ⟨tb, 0, none⟩) (.func 112) #[] #[.pointer (some ⟨W.next + 1, 0, none⟩)] W2
  have g3 : ∀ b, b < W'.next → W3.get b = W'.get b := fun b hb => (s2.get b (by omega)).trans (b4.get b hb)
  simp only [SX, cB, hc, d, Bool.not_true, ct, d1, d2, b1, s1]
  refine Ok_calls (W0 := W') (isF := .func (.func 112) #[] #[.pointer (some ⟨W.next + 1, 0, none⟩)]) m4 (by omega) (thIs t) rfl (ldR (by rw [AW.get_add_ne _ _ (by omega)]; exact s4) rfl) (ldR (by rw [AW.get_add_ne _ _ (by omega), g3 _ m2]; exact m3) rfl)
    (fun pre V => W3.next ≤ V.next ∧ (∀ b, b < W3.next → b ≠ W'.next → V.get b = W3.get b) ∧ ∃ u bo, V.get W'.next = some (.cells [u]) ∧ LstA V 1 intC u (thIds pre t) bo ∧ ∀ B, bo = some B → W3.next < B) (fun _ _ => False)
    ⟨by rw [AW.add_next]; omega, fun b hb _ => AW.get_add_ne _ _ (by omega), .slice none 0 0, none, by rw [AW.get_add_ne _ _ (by omega), s2.get _ (by omega)]; exact b2, .inl ⟨rfl, rfl, rfl⟩, fun B h => by cases h⟩
    (fun pre V ⟨g1, g2, _⟩ => ⟨⟨by omega, fun b hb => (g2 b (by omega) (by omega)).trans (g3 b hb)⟩, ldR ((g2 _ (by omega) (by omega)).trans s5) rfl⟩)
    (fun pre V cs ⟨g1, g2, u, bo, g4, g5, g6⟩ hl => ⟨by rw [AW.add_next]; omega, fun b hb hne => (AW.get_add_ne _ _ (by omega)).trans (g2 b hb hne), u, bo, by rw [AW.get_add_ne _ _ (by omega)]; exact g4, g5.keep (by rw [AW.add_next]; omega) (fun B hB => AW.get_add_ne _ _ (by have := g5.lt hB; omega)), g6⟩)
    (fun pre V o ⟨g1, g2, u, bo, g4, g5, g6⟩ => ⟨by rw [AW.put_next]; omega, fun b hb hne => (AW.get_put_ne _ _ (by omega)).trans (g2 b hb hne), u, bo, by rw [AW.get_put_ne _ _ (by omega)]; exact g4, g5.keep (by rw [AW.put_next]; omega) (fun B hB => AW.get_put_ne _ _ (by have := g6 B hB; omega)), g6⟩)
    (fun _ _ _ h => h)
    (fun pre o V ⟨g1, g2, _⟩ => thIs_ok o t ((g2 _ (by omega) (by omega)).trans ((g3 _ (by omega)).trans ct0)) (by omega))
    (fun pre o V _ ⟨g1, g2, g⟩ hn => ⟨g1, g2, by rw [thIds_no hn]; exact g⟩) 10 ?_ ?_ ?_
  · intro o V R' hR
    have r29 : R' 29 = hoV o := by rw [hR]; rfl
    rw [history_Thread_Y1a_eq]
    unfold history_Thread_Y1a
    simp only [SX, al176, r29, hoBox2]
  · intro pre o V b R' hR hpre hyes ⟨g1, g2, u, bo, g4, g5, g6⟩ hl hb hb1 hb2
    have r9 : R' 9 = .pointer (some ⟨W'.next, 0, none⟩) := by rw [hR]; rfl
    have r10 : R' 10 = .pointer (some ⟨b, 0, none⟩) := by rw [hR]; rfl
    clear hR
    rw [history_Thread_Y1b_eq]
    unfold history_Thread_Y1b
    have cu : ldC (.pointer (some ⟨W'.next, 0, none⟩)) V = some (u, V) := ldR g4 rfl
    have hlen : (thIds pre t).length ≤ 1000 := by
      have h1 := thIds_le pre t
      have h2 := hpre.length_le
      rw [List.length_append] at h2; omega
    obtain ⟨v', U1, U2, k1, k2, k3, k4, k5, k6⟩ := pushOut g4 g5 (fun e => by have := g6 _ e; omega) (by omega) hlen o.id
    simp only [SX, r9, r10, cu, Nat.zero_add, hoB_id hb, bs69, k1, k2, Ok_some]
    refine ⟨by omega, k6 _ (by omega) (by omega) (fun e => by have := g6 _ e; omega), .inl ⟨trivial, by omega, fun b' hb' hne => (k6 b' (by omega) hne (fun e => by have := g6 _ e; omega)).trans (g2 b' hb' hne), v', some (V.next + 1), k3, by rw [thIds_yes hyes]; exact k4, fun B hB => by injection hB with hB; omega⟩⟩
  · rintro x V (⟨rfl, g1, g2, u, bo, g4, g5, g6⟩ | ⟨_, h⟩)
    case inr => exact h.elim
    have cu : ldC (.pointer (some ⟨W'.next, 0, none⟩)) (V.kill W3.next) = some (u, V.kill W3.next) := ldR (by rw [AW.get_kill_ne _ (by omega)]; exact g4) rfl
    simp only [SX, cu, Ok_some]
    have hle' : Le W' (V.kill W3.next) := ⟨by rw [AW.kill_next]; omega, fun b hb => by rw [AW.get_kill_ne _ (by omega), g2 b (by omega) (by omega), g3 b hb]⟩
    exact ⟨u, rfl, (hle.trans l3).trans hle', (g5.keep (by rw [AW.kill_next]; omega) (fun B hB => AW.get_kill_ne _ (by have := g6 B hB; omega))).lst.ints⟩
theorem refThread_bad {W : AW} {v : Ven} {sv ev : Value} {l : List EvT} {s : TL} (h : HiA W v sv ev l) {a e : Int} (hA : Ans (venE v).2 l a e) (hs : e = 0 → Run l l.length s) (t : Int) (hb : e ≠ 0 ∨ t < 1 ∨ 64 < t) : omS (.func (.func 52) #[] #[]) [hiV v sv ev, .int .i64 t] W = some (.tuple #[.slice none 0 0, .int .i64 (if e = 0 then 7 else e)], W) := by
  refine om_drop rfl ?_ ref24_Thread_om
  unfold ref24_Thread
  have hle : Le W (W.add (.cells [.int .i64 v.sh, .int .i64 v.ttl, .int .i64 v.ses, sv, ev])) := (Le.refl W).add _
  have hg : (W.add (.cells [.int .i64 v.sh, .int .i64 v.ttl, .int .i64 v.ses, sv, ev])).get W.next = some (.cells [.int .i64 v.sh, .int .i64 v.ttl, .int .i64 v.ses, sv, ev]) := AW.get_add _ _
  simp only [SX, hiBox, Nat.zero_add]
  generalize W.add (.cells [.int .i64 v.sh, .int .i64 v.ttl, .int .i64 v.ses, sv, ev]) = W1 at *
  have cB : ldA 5 (.pointer (some ⟨W.next, 0, none⟩)) W1 = some (hiV v sv ev, W1) := ldA_ok (cellsAt_of hg) rfl
  by_cases he : e = 0
  case neg =>
    have hc := refOpsAll_bad (h.mono hle) hA he
    have d : decide (e = 0) = false := decide_eq_false he
    simp only [SX, wu1, wu2, cB, hc, d, Bool.not_false, if_neg he, Ok_some]
    exact ⟨trivial, hle⟩
  subst he
  have hs := hs rfl
  obtain ⟨u, W', hc, l3, hu⟩ := refOpsAll_ok (h.mono hle) hA hs
  have d : decide ((0 : Int) = 0) = true := rfl
  have d7 : decide ((7 : Int) = 0) = false := rfl
  by_cases c1 : t < 1
  · have d1 : decide (t < 1) = true := decide_eq_true c1
    simp only [SX, wu1, wu2, cB, hc, d, d1, d7, Bool.not_false, if_true, Ok_some]
    exact ⟨trivial, hle.trans l3⟩
  · have d1 : decide (t < 1) = false := decide_eq_false c1
    have d2 : decide (64 < t) = true := decide_eq_true (by rcases hb with h | h | h <;> first | omega | exact absurd rfl h)
    simp only [SX, wu1, wu2, cB, hc, d, d1, d2, d7, Bool.not_false, if_true, Ok_some]
    exact ⟨trivial, hle.trans l3⟩
theorem refThread_ok {W : AW} {v : Ven} {sv ev : Value} {l : List EvT} {s : TL} (h : HiA W v sv ev l) {a : Int} (hA : Ans (venE v).2 l a 0) (hs : Run l l.length s) {t : Int} (ht : 1 ≤ t ∧ t ≤ 64) :
    ∃ u W', omS (.func (.func 52) #[] #[]) [hiV v sv ev, .int .i64 t] W = some (.tuple #[u, .int .i64 0], W') ∧ Le W W' ∧ Ints W' u (thIds s.ops t) := by
  refine om_row2 (k := .i64) (e := 0) ?_ ref24_Thread_om
  unfold ref24_Thread
  have hle : Le W (W.add (.cells [.int .i64 v.sh, .int .i64 v.ttl, .int .i64 v.ses, sv, ev])) := (Le.refl W).add _
  have hg : (W.add (.cells [.int .i64 v.sh, .int .i64 v.ttl, .int .i64 v.ses, sv, ev])).get W.next = some (.cells [.int .i64 v.sh, .int .i64 v.ttl, .int .i64 v.ses, sv, ev]) := AW.get_add _ _
  simp only [SX, hiBox, Nat.zero_add]
  generalize W.add (.cells [.int .i64 v.sh, .int .i64 v.ttl, .int .i64 v.ses, sv, ev]) = W1 at *
  have cB : ldA 5 (.pointer (some ⟨W.next, 0, none⟩)) W1 = some (hiV v sv ev, W1) := ldA_ok (cellsAt_of hg) rfl
  obtain ⟨u, W', hc, l3, hu⟩ := refOpsAll_ok (h.mono hle) hA hs
  have d : decide ((0 : Int) = 0) = true := rfl
  have d1 : decide (t < 1) = false := decide_eq_false (by omega)
  have d2 : decide (64 < t) = false := decide_eq_false (by omega)
  have h400 := (hA.good rfl).2.1
  have hop := hs.inv.opk
  simp only [SX, wu1, wu2, cB, hc, d, d1, d2, Bool.not_true]
  refine Ok_loop s.ops.length (by omega) (fun i R V => Le W' V ∧ R 1 = .int .i64 t ∧ R 6 = u ∧ R 9 = .int .i64 (i : Int) ∧ Lst W'.next V 1 intC (R 8) (thIds (s.ops.take i) t)) (fun r => r.1 = .exit 0 ∧ Le W' r.2.2 ∧ Lst W'.next r.2.2 1 intC (r.2.1 8) (thIds s.ops t)) ⟨Le.refl _, rfl, rfl, rfl, Lst.nil _ _ _ _⟩ ?_ ?_ ?_
  · rintro i R V hi ⟨g1, r1, r6, r9, g5⟩
    unfold ref24_Thread_L2
    have t1 : ((i : Int) < (s.ops.length : Int)) := by omega
    have t2 := fun W' => oBin_add (P := Tryz.prog) (W := W') (t := 3) (c := false) (d := true) (a := (i : Int)) (b := 1) (by omega) (by omega)
    have e3 : ((i + 1 : Nat) : Int) = (i : Int) + 1 := by omega
    obtain ⟨b, o, i1, -, i3⟩ := HoL.get (hu.mono g1) hi
    obtain ⟨-, f0, f1, -⟩ := i3 V rfl
    have etk := take_snoc' hi
    rw [etk]
    have hlen : (thIds (s.ops.take i) t).length ≤ 1000 := by
      have h1 := thIds_le (s.ops.take i) t
      rw [List.length_take] at h1; omega
    generalize s.ops[i] = x at f0 f1
    cases hc : decide (x.th = t) with
    | false =>
      simp only [SX, r1, r6, r9, (hu.mono g1).len len89, t1, decide_true, i1, f1, hc, t2, Ok_some]
      exact .inl ⟨trivial, g1, r1, r6, by rw [e3]; rfl, by rw [thIds_no (by unfold thIs; exact hc)]; exact g5⟩
    | true =>
      have L5 : Lst W'.next (V.add (.cells (intC x.id))) 1 intC (R 8) (thIds (s.ops.take i) t) := g5.mono ((Le.refl _).add _)
      obtain ⟨u', V6, k1, k2, k3, k4⟩ := L5.push (a := x.id) ap69 intC_len intC_one (b := V.next) (c := 1) cellsAt_new (by omega) (by omega) (by rw [AW.add_next]; have := g1.next; omega)
      simp only [SX, r1, r6, r9, (hu.mono g1).len len89, t1, decide_true, i1, f1, hc, Nat.zero_add, Nat.add_zero, f0, bs69, k1, t2, Ok_some]
      exact .inl ⟨trivial, k4 _ (g1.add _) (Nat.le_refl _), r1, r6, by rw [e3]; rfl, by rw [thIds_yes (by unfold thIs; exact hc)]; exact k2⟩
  · rintro R V ⟨g1, r1, r6, r9, g5⟩
    unfold ref24_Thread_L2
    have t1 : ¬ ((s.ops.length : Int) < (s.ops.length : Int)) := by omega
    rw [List.take_length] at g5
    simp only [SX, r6, r9, (hu.mono g1).len len89, t1, decide_false, Ok_some]
    exact ⟨by simp, trivial, g1, g5⟩
  · rintro ⟨q, R, V⟩ ⟨rfl, g1, g5⟩
    simp only [SX, Ok_some]
    exact ⟨_, rfl, (hle.trans l3).trans g1, g5.ints⟩
end Go.Proofs.YtnigceddndemkaaGreatDoor
/- HistoryChecks. -/
namespace Go.Proofs.YtnigceddndemkaaGreatDoor
open Go Go.Eng
set_option linter.unusedVariables false
set_option linter.unusedSimpArgs false
set_option linter.unusedSectionVars false
set_option maxRecDepth 100000
theorem hoNil (W : AW) : HoL W (.slice none 0 0) [] := ⟨none, 0, rfl, .inl rfl⟩
theorem intsNil (W : AW) : Ints W (.slice none 0 0) [] := ⟨none, 0, rfl, .inl rfl⟩
theorem ops_both {W : AW} {v : Ven} {sv ev : Value} {l : List EvT} {s : TL} (hG : GW W) (h : HiA W v sv ev l) {a e : Int} (hA : Ans (venE v).2 l a e) (hs : e = 0 → Run l l.length s) :
    ∃ x y W1 W2, omS (.func (.func 43) #[] #[]) [hiV v sv ev] W = some (.tuple #[x, .int .i64 e], W1) ∧ omS (.func (.func 48) #[] #[]) [hiV v sv ev] W1 = some (.tuple #[y, .int .i64 e], W2) ∧ Le W W1 ∧ Le W W2 ∧ omS (.func (.func 49) #[] #[]) [x, y] W2 = some (.bool true, W2) := by
  by_cases he : e = 0
  · subst he
    have hs := hs rfl
    obtain ⟨x, W1, x1, x2, x3⟩ := hisOps_ok hG h hA hs
    obtain ⟨y, W2, y1, y2, y3⟩ := refOpsAll_ok (h.mono x2) hA hs
    have h400 := (hA.good rfl).2.1
    have hop := hs.inv.opk
    exact ⟨x, y, W1, W2, x1, y1, x2, x2.trans y2, sameOps_ok (x3.mono y2) y3 (by omega)⟩
  · exact ⟨_, _, W, W, hisOps_bad hG h hA he, refOpsAll_bad h hA he, Le.refl _, Le.refl _, sameOps_ok (hoNil _) (hoNil _) (by simp)⟩
theorem thread_both {W : AW} {v : Ven} {sv ev : Value} {l : List EvT} {s : TL} (hG : GW W) (h : HiA W v sv ev l) {a e : Int} (hA : Ans (venE v).2 l a e) (hs : e = 0 → Run l l.length s) (t : Int) :
    ∃ (x y : Value) (W1 W2 : AW) (f : Int), omS (.func (.func 51) #[] #[]) [hiV v sv ev, .int .i64 t] W = some (.tuple #[x, .int .i64 f], W1) ∧ omS (.func (.func 52) #[] #[]) [hiV v sv ev, .int .i64 t] W1 = some (.tuple #[y, .int .i64 f], W2) ∧ Le W W1 ∧ Le W W2 ∧ omS (.func (.func 53) #[] #[]) [x, y] W2 = some (.bool true, W2) := by
  by_cases hb : e ≠ 0 ∨ t < 1 ∨ 64 < t
  · exact ⟨_, _, W, W, _, hisThread_bad hG h hA t hb, refThread_bad h hA hs t hb, Le.refl _, Le.refl _, sameInts_ok (intsNil _) (intsNil _) (by simp)⟩
  · have he : e = 0 := Classical.byContradiction fun he => hb (.inl he)
    subst he
    have hs := hs rfl
    obtain ⟨x, W1, x1, x2, x3⟩ := hisThread_ok hG h hA hs (t := t) (by omega)
    obtain ⟨y, W2, y1, y2, y3⟩ := refThread_ok (h.mono x2) hA hs (t := t) (by omega)
    have h400 := (hA.good rfl).2.1
    have hop := hs.inv.opk
    have hth := thIds_le s.ops t
    exact ⟨x, y, W1, W2, 0, x1, y1, x2, x2.trans y2, sameInts_ok (x3.mono y2) y3 (by omega)⟩
theorem Ans.run {e0 : Int} {l : List EvT} {a e : Int} (h : Ans e0 l a e) : ∃ s, e = 0 → Run l l.length s := by
  by_cases he : e = 0
  · obtain ⟨-, -, s, hs⟩ := h.good he
    exact ⟨s, fun _ => hs⟩
  · exact ⟨TL.init, fun h => absurd h he⟩
theorem histChecks_all {W : AW} {v : Ven} {sv ev : Value} {l : List EvT} (hG : GW W) (h : HiR W v sv ev l) (t : Int) : omS (.func (.func 10) #[] #[]) [hiV v sv ev, .int .i64 t] W = some (.bool true, W) := by
  refine om_drop rfl ?_ law24_HistoryChecks_om
  unfold law24_HistoryChecks
  have hle : Le W (W.add (.cells [.int .i64 v.sh, .int .i64 v.ttl, .int .i64 v.ses, sv, ev])) := (Le.refl W).add _
  have hg : (W.add (.cells [.int .i64 v.sh, .int .i64 v.ttl, .int .i64 v.ses, sv, ev])).get W.next = some (.cells [.int .i64 v.sh, .int .i64 v.ttl, .int .i64 v.ses, sv, ev]) := AW.get_add _ _
  have hn1 : (W.add (.cells [.int .i64 v.sh, .int .i64 v.ttl, .int .i64 v.ses, sv, ev])).next = W.next + 1 := AW.add_next _ _
  simp only [SX, hiBox, Nat.zero_add]
  generalize W.add (.cells [.int .i64 v.sh, .int .i64 v.ttl, .int .i64 v.ses, sv, ev]) = W1 at *
  have cB : ∀ {V : AW}, Le W1 V → ldA 5 (.pointer (some ⟨W.next, 0, none⟩)) V = some (hiV v sv ev, V) := fun {V} hv => ldA_ok (cellsAt_of ((hv.get _ (by omega)).trans hg)) rfl
  obtain ⟨c, hf, hc⟩ := far_all (h.mono hle) 80
  have aw := fun {V : AW} (hv : Le W1 V) => awake24_ok ((hG.mono hle).mono hv)
  cases c with
  | true =>
    simp only [SX, cB (Le.refl _), hf, aw (Le.refl _), Ok_some]
    exact ⟨trivial, hle⟩
  | false =>
    obtain ⟨k, -⟩ := hc rfl
    have hG1 := hG.mono hle
    obtain ⟨a, e, hA, p2⟩ := refHis_ok k
    have p1 := hisCheck_ok hG1 k hA
    obtain ⟨s, hs⟩ := hA.run
    obtain ⟨x, y, W2, W3, o1, o2, o2', o3, o4⟩ := ops_both hG1 k hA hs
    have w1 := hisWidth_ok (hG1.mono o3) (k.mono o3) hA hs
    have w2 := refWidth_ok (k.mono o3) hA hs
    obtain ⟨x', y', W4, W5, f, t1, t2, t3, t3', t4⟩ := thread_both (hG1.mono o3) (k.mono o3) hA hs t
    have ea : decide (a = a) = true := decide_eq_true rfl
    have ee : decide (e = e) = true := decide_eq_true rfl
    have ef : decide (f = f) = true := decide_eq_true rfl
    have ew := decide_eq_true (show (if e = 0 then widthV s else 0) = (if e = 0 then widthV s else 0) from rfl)
    simp only [SX, cB (Le.refl _), hf, p1, p2, cB o2', cB o3, o1, o2, o4, ea, ee, Bool.not_true, w1, w2, ew, t1, cB (o3.trans t3), t2, t4, ef, aw (o3.trans t3'), Ok_some]
    exact ⟨trivial, hle.trans (o3.trans t3')⟩
end Go.Proofs.YtnigceddndemkaaGreatDoor
/- A history that is handed in, opened: blocks. -/
namespace Go.Proofs.YtnigceddndemkaaGreatDoor
open Go Go.Eng Go.RowKit
set_option linter.unusedVariables false
set_option linter.unusedSimpArgs false
set_option linter.unusedSectionVars false
set_option maxRecDepth 100000
theorem sec_of {W : AW} {n : Nat} {c : List Value} (h : DR Tryz.prog W (n + 3) 130 c) : ∃ s : Sec, ∀ pre post, SecAt W (pre ++ (c ++ post)) pre.length s := by
  obtain ⟨c1, c2, rfl, h1, h2⟩ := (h.struct Tryz.underlying130).cons
  obtain ⟨c3, c4, rfl, h3, h4⟩ := h2.cons
  obtain ⟨c5, c6, rfl, h5, h6⟩ := h4.cons
  obtain rfl := h6.nil
  obtain ⟨s, rfl, _⟩ := h1.str Tryz.underlying9
  obtain ⟨rv, zs, rfl, hz, _⟩ := h3.ints Tryz.underlying69 Tryz.underlying3 (by kernel_rfl)
  obtain ⟨q, rfl⟩ := h5.int Tryz.underlying3
  refine ⟨⟨s.data.toList, zs, q⟩, fun pre post => ⟨?_, ?_, rv, ?_, hz⟩⟩
  · rw [List.getElem?_append_right (by omega), bytesL_back]; simp
  · rw [List.getElem?_append_right (by omega), Nat.add_sub_cancel_left]; rfl
  · rw [List.getElem?_append_right (by omega), Nat.add_sub_cancel_left]; rfl
theorem ven_of {W : AW} {n : Nat} {c : List Value} (h : DR Tryz.prog W (n + 5) 24 c) : ∃ (v : Ven) (sv : Value), c = [.int .i64 v.sh, .int .i64 v.ttl, .int .i64 v.ses, sv] ∧ SecsC W sv v.secs := by
  obtain ⟨c1, c2, rfl, h1, h2⟩ := (h.struct Tryz.underlying24).cons
  obtain ⟨c3, c4, rfl, h3, h4⟩ := h2.cons
  obtain ⟨c5, c6, rfl, h5, h6⟩ := h4.cons
  obtain ⟨c7, c8, rfl, h7, h8⟩ := h6.cons
  obtain rfl := h8.nil
  obtain ⟨a, rfl⟩ := h1.int Tryz.underlying3
  obtain ⟨b, rfl⟩ := h3.int Tryz.underlying2
  obtain ⟨d, rfl⟩ := h5.int Tryz.underlying2
  obtain ⟨sv, l, rfl, hr⟩ := h7.row Tryz.underlying22 (at_ := SecAt W) (fun c _ hc => sec_of hc)
  exact ⟨⟨a, b, d, l⟩, sv, rfl, hr⟩
theorem dr_bool {W : AW} {n : Nat} {t : TypeId} {cs : List Value} (h : DR Tryz.prog W (n + 1) t cs) (ht : Tryz.prog.underlying t = some .bool) : ∃ b, cs = [.bool b] := by
  unfold DR at h; rw [ht] at h; exact h
theorem tk_of {W : AW} {n : Nat} {c : List Value} (h : DR Tryz.prog W (n + 2) 115 c) : ∃ a b d e : Int, c = [.int .u32 a, .int .u32 b, .int .u64 d, .int .u64 e] := by
  obtain ⟨c1, c2, rfl, h1, h2⟩ := (h.struct Tryz.underlying115).cons
  obtain ⟨c3, c4, rfl, h3, h4⟩ := h2.cons
  obtain ⟨c5, c6, rfl, h5, h6⟩ := h4.cons
  obtain ⟨c7, c8, rfl, h7, h8⟩ := h6.cons
  obtain rfl := h8.nil
  obtain ⟨a, rfl⟩ := h1.int Tryz.underlying35
  obtain ⟨b, rfl⟩ := h3.int Tryz.underlying35
  obtain ⟨d, rfl⟩ := h5.int Tryz.underlying36
  obtain ⟨e, rfl⟩ := h7.int Tryz.underlying36
  exact ⟨a, b, d, e, rfl⟩
theorem op_of {W : AW} {n : Nat} {c : List Value} (h : DR Tryz.prog W (n + 3) 117 c) : ∃ o : OpT, c = (opV o).cells.toList := by
  obtain ⟨c1, r1, rfl, h1, h⟩ := (h.struct Tryz.underlying117).cons
  obtain ⟨c2, r2, rfl, h2, h⟩ := h.cons
  obtain ⟨c3, r3, rfl, h3, h⟩ := h.cons
  obtain ⟨c4, r4, rfl, h4, h⟩ := h.cons
  obtain ⟨c5, r5, rfl, h5, h⟩ := h.cons
  obtain ⟨c6, r6, rfl, h6, h⟩ := h.cons
  obtain ⟨c7, r7, rfl, h7, h⟩ := h.cons
  obtain ⟨c8, r8, rfl, h8, h⟩ := h.cons
  obtain ⟨c9, r9, rfl, h9, h⟩ := h.cons
  obtain rfl := h.nil
  obtain ⟨x1, rfl⟩ := h1.int Tryz.underlying3
  obtain ⟨x2, rfl⟩ := h2.int Tryz.underlying35
  obtain ⟨x3, rfl⟩ := h3.int Tryz.underlying2
  obtain ⟨x4, rfl⟩ := h4.int Tryz.underlying3
  obtain ⟨x5, rfl⟩ := h5.int Tryz.underlying3
  obtain ⟨x6, rfl⟩ := h6.int Tryz.underlying3
  obtain ⟨x7, rfl⟩ := h7.int Tryz.underlying35
  obtain ⟨a, b, d, e, rfl⟩ := tk_of h8
  obtain ⟨x9, rfl⟩ := h9.int Tryz.underlying2
  exact ⟨⟨x1, x2, x3, x4, x5, x6, x7, a, b, d, e, x9⟩, rfl⟩
theorem rp_of {W : AW} {n : Nat} {c : List Value} (h : DR Tryz.prog W (n + 3) 119 c) : ∃ o : RpT, c = (rpV o).cells.toList := by
  obtain ⟨c1, r1, rfl, h1, h⟩ := (h.struct Tryz.underlying119).cons
  obtain ⟨c2, r2, rfl, h2, h⟩ := h.cons
  obtain ⟨c3, r3, rfl, h3, h⟩ := h.cons
  obtain ⟨c4, r4, rfl, h4, h⟩ := h.cons
  obtain ⟨c5, r5, rfl, h5, h⟩ := h.cons
  obtain ⟨c6, r6, rfl, h6, h⟩ := h.cons
  obtain rfl := h.nil
  obtain ⟨x1, rfl⟩ := h1.int Tryz.underlying29
  obtain ⟨x2, rfl⟩ := h2.int Tryz.underlying3
  obtain ⟨x3, rfl⟩ := h3.int Tryz.underlying3
  obtain ⟨x4, rfl⟩ := h4.int Tryz.underlying2
  obtain ⟨a, b, d, e, rfl⟩ := tk_of h5
  obtain ⟨x6, rfl⟩ := h6.int Tryz.underlying3
  exact ⟨⟨x1, x2, x3, x4, a, b, d, e, x6⟩, rfl⟩
theorem ev_of {W : AW} {n : Nat} {c : List Value} (h : DR Tryz.prog W (n + 4) 121 c) : ∃ e : EvT, c = evC e := by
  obtain ⟨c1, r1, rfl, h1, h⟩ := (h.struct Tryz.underlying121).cons
  obtain ⟨c2, r2, rfl, h2, h⟩ := h.cons
  obtain ⟨c3, r3, rfl, h3, h⟩ := h.cons
  obtain ⟨c4, r4, rfl, h4, h⟩ := h.cons
  obtain ⟨c5, r5, rfl, h5, h⟩ := h.cons
  obtain rfl := h.nil
  obtain ⟨x1, rfl⟩ := h1.int Tryz.underlying3
  obtain ⟨x2, rfl⟩ := h2.int Tryz.underlying3
  obtain ⟨x3, rfl⟩ := dr_bool h3 Tryz.underlying4
  obtain ⟨o, rfl⟩ := op_of h4
  obtain ⟨r, rfl⟩ := rp_of h5
  exact ⟨⟨x1, x2, x3, o, r⟩, rfl⟩
theorem his_of {W : AW} {n : Nat} {c : List Value} (h : DR Tryz.prog W (n + 6) 82 c) : ∃ (v : Ven) (sv ev : Value) (l : List EvT), c = [.int .i64 v.sh, .int .i64 v.ttl, .int .i64 v.ses, sv, ev] ∧ HiR W v sv ev l := by
  obtain ⟨c1, c2, rfl, h1, h2⟩ := (h.struct Tryz.underlying82).cons
  obtain ⟨c3, c4, rfl, h3, h4⟩ := h2.cons
  obtain rfl := h4.nil
  obtain ⟨v, sv, rfl, hs⟩ := ven_of h1
  obtain ⟨ev, l, rfl, hr⟩ := h3.row Tryz.underlying80 (at_ := flatAt 24 evC) (fun c _ hc => by
    obtain ⟨e, rfl⟩ := ev_of hc
    exact ⟨e, fun pre post => flatAt_in evC_len e pre post⟩)
  exact ⟨v, sv, ev, l, rfl, hs, hr.1⟩
section
variable {H : Type} {enc : TypeId × Value → H} {w : World} {σ : Inj} {W : AW} {v0 : Value} {d : DataW H} {p : List MemPlace} {r : Reach} {b0 : Nat}
theorem agg_of {t : TypeId} {fs : Array Field} (ht : Tryz.prog.underlying t = some (.struct fs)) (hv : Value.okWide Tryz.prog w r b0 t v0) : ∃ cs, v0 = .agg cs := by
  unfold Value.okWide at hv
  rw [ht] at hv
  obtain ⟨cs, h, _⟩ := hv
  exact ⟨cs, h⟩
theorem sim82 : simT Tryz.prog 7 82 = true := by kernel_rfl
theorem openHis (ho : Opened σ W w) (hv : Value.okWide Tryz.prog w r b0 82 v0) (h : DataW.Trod enc Tryz.prog w 0 (fun _ => true) true 82 v0 d p) :
    ∃ (σ2 : Inj) (W2 : AW) (v : Ven) (sv ev : Value) (l : List EvT), Opened σ2 W2 w ∧ Sub σ σ2 ∧ Le W W2 ∧ VR σ2 (hiV v sv ev) v0 ∧ HiR W2 v sv ev l := by
  obtain ⟨cs, rfl⟩ := agg_of Tryz.underlying82 hv
  obtain ⟨m, hm⟩ := h
  obtain ⟨σ2, W2, cs2, o2, s2, l2, r2, a2⟩ := opens_trod sim82 hm σ W ho
  obtain ⟨v, sv, ev, l, rfl, hs⟩ := his_of a2
  exact ⟨σ2, W2, v, sv, ev, l, o2, s2, l2, .agg' (a := #[.int .i64 v.sh, .int .i64 v.ttl, .int .i64 v.ses, sv, ev]) r2, hs⟩
end
theorem openG {w : World} (hl : LaidG globW w.heap) : Opened (σG globW) (WG globW 5) w := ⟨rel_G rfl hl, allRo_G, 1, _, rfl⟩
theorem gw_W : GW (WG globW 5) := globW_G rfl (fun x hx => by
  have h2 : x = (0, usesV) ∨ x = (1, pow10V) ∨ x = (3, bru32V) ∨ x = (4, bru64V) := by simpa [globW] using hx
  rcases h2 with rfl | rfl | rfl | rfl <;> rfl)
theorem gw_le {W : AW} (h : Le (WG globW 5) W) : GW W := gw_W.mono h
theorem kidsT : Kids Tryz.prog (· < Tryz.prog.types.size) := kids_rows (by kernel_rfl) (by kernel_rfl)
theorem fullT : ∀ t e, t < Tryz.prog.types.size → Tryz.prog.underlying t = some (.slice e) → 0 < Tryz.prog.cellsOf e := slices_full_of Tryz.prog (by kernel_rfl)
/-- what is opened is called -/
theorem open_calls (hok : CalleeOK Tryz.prog PlanTab.ng omS) {w : World} {σ : Inj} {W : AW} (ho : Opened σ W w) (hs : Sub (σG globW) σ) {i : Nat} {args args' : List Value} (hr : LR σ args args') (h : omS (.func (.func i) #[] #[]) args W = some (.bool true, W)) :
    Calls Tryz.prog i args'.toArray w fun e w' => e = .returned (.bool true) ∧ Quiet w w' := by
  have hG : Glob σ [0, 1, 3, 4] := fun g hg => by
    obtain ⟨e, he⟩ := (glob_G (gs := globW) (ng := [0, 1, 3, 4]) rfl) g hg
    exact ⟨e, hs _ _ he⟩
  exact om_calls hok ho.rel hG ho.ro hr rfl h
end Go.Proofs.YtnigceddndemkaaGreatDoor
