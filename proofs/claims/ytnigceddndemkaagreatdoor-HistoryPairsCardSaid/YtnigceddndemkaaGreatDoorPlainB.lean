/- Contracts of functions, and their laws. -/
import Derived.Test.YtnigceddndemkaaGreatDoorPlainA
import Derived.Test.YtnigceddndemkaaGreatDoorOpnA
import Derived.KernelRfl
/- Histories: law24.far. -/
namespace Go.Proofs.YtnigceddndemkaaGreatDoor
open Go Go.Eng
set_option linter.unusedVariables false
set_option linter.unusedSimpArgs false
set_option linter.unusedSectionVars false
set_option maxRecDepth 100000
theorem lenStr9 (s : ByteArray) (W : AW) : ∃ n : Int, oBuiltin Tryz.prog .len #[9] 3 #[false] [.string s] W = some (.int .i64 n, W) := ⟨_, rfl⟩
theorem far_ok {W : AW} {v : Ven} {sv ev : Value} {l : List EvT} (h : HiA W v sv ev l) (n : Int) : ∃ c : Bool, omS (.func (.func 37) #[] #[]) [hiV v sv ev, .int .i64 n] W = some (.bool c, W) := by
  have main : Ok (law24_far omS (hiV v sv ev) (.int .i64 n) W) fun r => ∃ c : Bool, r.1 = .bool c ∧ Le W r.2 := by
    unfold law24_far
    have hle : Le W (W.add (.cells [.int .i64 v.sh, .int .i64 v.ttl, .int .i64 v.ses, sv, ev])) := (Le.refl W).add _
    have hg : (W.add (.cells [.int .i64 v.sh, .int .i64 v.ttl, .int .i64 v.ses, sv, ev])).get W.next = some (.cells [.int .i64 v.sh, .int .i64 v.ttl, .int .i64 v.ses, sv, ev]) := AW.get_add _ _
    simp only [SX, hiBox, Nat.zero_add]
    generalize W.add (.cells [.int .i64 v.sh, .int .i64 v.ttl, .int .i64 v.ses, sv, ev]) = W1 at *
    have h1 := h.mono hle
    have c3 : ldC (.pointer (some ⟨W.next, 3, none⟩)) W1 = some (sv, W1) := ldR hg rfl
    have c4 : ldC (.pointer (some ⟨W.next, 4, none⟩)) W1 = some (ev, W1) := ldR hg rfl
    refine Ok_loop v.secs.length (by have := h.small; omega) (fun i R V => V = W1 ∧ R 1 = .int .i64 n ∧ R 2 = .pointer (some ⟨W.next, 0, none⟩) ∧ R 5 = .int .i64 (i : Int))
      (fun r => r.2.2 = W1 ∧ ((r.1 = .exit 0 ∧ r.2.1 1 = .int .i64 n ∧ r.2.1 2 = .pointer (some ⟨W.next, 0, none⟩)) ∨ (r.1 = .ret ∧ ∃ c : Bool, r.2.1 4 = .bool c))) ⟨rfl, rfl, rfl, rfl⟩ ?_ ?_ ?_
    · rintro i R V hi ⟨rfl, r1, r2, r5⟩
      unfold law24_far_L1
      have t1 : ((i : Int) < (v.secs.length : Int)) := by omega
      have hsm := h.small
      have t2 := fun W' => oBin_add (P := Tryz.prog) (W := W') (t := 3) (c := false) (d := true) (a := (i : Int)) (b := 1) (by omega) (by omega)
      have e3 : ((i + 1 : Nat) : Int) = (i : Int) + 1 := by omega
      obtain ⟨b, o, rv, i1, i2, -, i4, i5, -⟩ := Secs.get h1.secs.1 hi
      obtain ⟨m, hm⟩ := lenStr9 (bytesL v.secs[i].name) V
      cases d1 : decide ((i : Int) < 20)
      · simp only [SX, r1, r2, r5, Nat.zero_add, c3, h1.secs.1.len lenS, t1, decide_true, d1, Ok_some]
        exact .inr ⟨by simp, trivial, .inl ⟨trivial, r1, r2⟩⟩
      cases d2 : decide (100 < m)
      · cases d3 : decide ((20 : Int) < (v.secs[i].rows.length : Int))
        · simp only [SX, r1, r2, r5, Nat.zero_add, Nat.add_zero, c3, h1.secs.1.len lenS, t1, decide_true, d1, i1, i4 _ (Le.refl _), hm, d2, i5 _ (Le.refl _), i2.len len69, d3, t2, Ok_some]
          exact .inl ⟨trivial, trivial, r1, r2, by rw [e3]; rfl⟩
        · simp only [SX, r1, r2, r5, Nat.zero_add, Nat.add_zero, c3, h1.secs.1.len lenS, t1, decide_true, d1, i1, i4 _ (Le.refl _), hm, d2, i5 _ (Le.refl _), i2.len len69, d3, t2, Ok_some]
          exact .inr ⟨by simp, trivial, .inr ⟨trivial, _, rfl⟩⟩
      · simp only [SX, r1, r2, r5, Nat.zero_add, Nat.add_zero, c3, h1.secs.1.len lenS, t1, decide_true, d1, i1, i4 _ (Le.refl _), hm, d2, t2, Ok_some]
        exact .inr ⟨by simp, trivial, .inr ⟨trivial, _, rfl⟩⟩
    · rintro R V ⟨rfl, r1, r2, r5⟩
      unfold law24_far_L1
      have t1 : ¬ ((v.secs.length : Int) < (v.secs.length : Int)) := by omega
      simp only [SX, r2, r5, Nat.zero_add, c3, h1.secs.1.len lenS, t1, decide_false, Ok_some]
      exact ⟨by simp, trivial, .inl ⟨trivial, r1, r2⟩⟩
    · rintro ⟨q, R, V⟩ ⟨rfl, hq⟩
      simp only at hq
      rcases hq with ⟨rfl, r1, r2⟩ | ⟨rfl, c, r4⟩
      · cases d1 : decide ((10 : Int) < (v.secs.length : Int)) <;> cases d2 : decide (n < (l.length : Int)) <;> cases d3 : decide ((l.length : Int) ≤ 400) <;> cases d4 : decide ((410 : Int) < (l.length : Int)) <;>
          (simp only [SX, wu1, wu2, r1, r2, Nat.zero_add, c3, c4, h1.secs.1.len lenS, h1.evs.len len80, d1, d2, d3, d4, Ok_some]; exact ⟨_, rfl, hle⟩)
      · simp only [SX, r4, Ok_some]
        exact ⟨c, rfl, hle⟩
  obtain ⟨⟨q, W'⟩, h1, c, h2, h3⟩ := main
  simp only at h2
  subst h2
  exact ⟨c, om_drop rfl ⟨_, h1, rfl, h3⟩ law24_far_om⟩
end Go.Proofs.YtnigceddndemkaaGreatDoor
/- HistoryPairs. -/
namespace Go.Proofs.YtnigceddndemkaaGreatDoor
open Go Go.Eng
set_option linter.unusedVariables false
set_option linter.unusedSimpArgs false
set_option linter.unusedSectionVars false
set_option maxRecDepth 100000
theorem triple {W : AW} {v : Ven} {sv ev : Value} {l : List EvT} (hG : GW W) (h : HiA W v sv ev l) (i j : Int) : ∃ (x y : HoT) (e : Int), (∀ W1, Le W W1 → omS (.func (.func 102) #[] #[]) [hiV v sv ev, .int .i64 i, .int .i64 j] W1 = some (.tuple #[hoV x, hoV y, .int .i64 e], W1)) ∧ ∀ W1, Le W W1 → omS (.func (.func 104) #[] #[]) [hiV v sv ev, .int .i64 i, .int .i64 j] W1 = some (.tuple #[hoV x, hoV y, .int .i64 e], W1) := by
  obtain ⟨a, e, hA, -⟩ := refHis_ok h
  by_cases he : e = 0
  case neg => exact ⟨ho0, ho0, e, fun W1 hl => pair_bad (hG.mono hl) (h.mono hl) hA he i j, fun W1 hl => two_bad (h.mono hl) hA he i j⟩
  subst he
  obtain ⟨-, -, s, hs⟩ := hA.good rfl
  by_cases ho : i < 1 ∨ (s.ops.length : Int) < i ∨ j < 1 ∨ (s.ops.length : Int) < j
  · exact ⟨ho0, ho0, 4, fun W1 hl => pair_out (hG.mono hl) (h.mono hl) hA hs ho, fun W1 hl => two_out (h.mono hl) hA hs ho⟩
  obtain ⟨p, rfl⟩ : ∃ p : Nat, i = (p : Int) + 1 := ⟨(i - 1).toNat, by omega⟩
  obtain ⟨q, rfl⟩ : ∃ q : Nat, j = (q : Int) + 1 := ⟨(j - 1).toNat, by omega⟩
  have hp : s.ops[p]? = some (s.ops[p]'(by omega)) := List.getElem?_eq_getElem _
  have hq : s.ops[q]? = some (s.ops[q]'(by omega)) := List.getElem?_eq_getElem _
  exact ⟨_, _, 0, fun W1 hl => pair_in (hG.mono hl) (h.mono hl) hA hs hp hq, fun W1 hl => two_in (h.mono hl) hA hs hp hq⟩
theorem histPairs_om {W : AW} {v : Ven} {sv ev : Value} {l : List EvT} (hG : GW W) (h : HiA W v sv ev l) (i j : Int) : omS (.func (.func 8) #[] #[]) [hiV v sv ev, .int .i64 i, .int .i64 j] W = some (.bool true, W) := by
  refine om_drop rfl ?_ law24_HistoryPairs_om
  unfold law24_HistoryPairs
  have hle : Le W (W.add (.cells [.int .i64 v.sh, .int .i64 v.ttl, .int .i64 v.ses, sv, ev])) := (Le.refl W).add _
  have hg : (W.add (.cells [.int .i64 v.sh, .int .i64 v.ttl, .int .i64 v.ses, sv, ev])).get W.next = some (.cells [.int .i64 v.sh, .int .i64 v.ttl, .int .i64 v.ses, sv, ev]) := AW.get_add _ _
  simp only [SX, hiBox, Nat.zero_add]
  generalize W.add (.cells [.int .i64 v.sh, .int .i64 v.ttl, .int .i64 v.ses, sv, ev]) = W1 at *
  have cB : ldA 5 (.pointer (some ⟨W.next, 0, none⟩)) W1 = some (hiV v sv ev, W1) := ldA_ok (cellsAt_of hg) rfl
  obtain ⟨c, hf⟩ := far_ok (h.mono hle) 80
  have aw := awake24_ok (hG.mono hle)
  cases c with
  | true =>
    simp only [SX, cB, hf, aw, Ok_some]
    exact ⟨trivial, hle⟩
  | false =>
    obtain ⟨x, y, e, p1, p2⟩ := triple (hG.mono hle) (h.mono hle) i j
    have ub4 : Tryz.prog.underlying 4 = some .bool := by kernel_rfl
    have eqb := fun (b : Bool) W => oBin_bools_eql (P := Tryz.prog) (W := W) (t := 4) (c := false) (d := false) (a := b) (b := b) ub4
    simp only [beq_self_eq_true] at eqb
    have eqi := show decide (e = e) = true from decide_eq_true rfl
    simp only [SX, cB, hf, hisBef_of p1, refBef_of p2, hisOvl_of p1, refOvl_of p2, aw, eqb, eqi, Ok_some]
    exact ⟨trivial, hle⟩
end Go.Proofs.YtnigceddndemkaaGreatDoor
/- A history that is handed in, opened; what is looked at. -/
namespace Go.Proofs.YtnigceddndemkaaGreatDoor
open Go Go.Eng Go.RowKit
set_option linter.unusedVariables false
set_option linter.unusedSimpArgs false
set_option linter.unusedSectionVars false
set_option maxRecDepth 100000
/-- a history of any size -/
structure HiR (W : AW) (v : Ven) (sv ev : Value) (l : List EvT) : Prop where
  secs : SecsC W sv v.secs
  evs : EvL W ev l
theorem HiR.mono {W W' : AW} {v : Ven} {sv ev : Value} {l : List EvT} (h : HiR W v sv ev l) (hle : Le W W') : HiR W' v sv ev l := ⟨h.secs.mono hle, h.evs.mono hle⟩
theorem far_all {W : AW} {v : Ven} {sv ev : Value} {l : List EvT} (h : HiR W v sv ev l) (n : Int) : ∃ c : Bool, omS (.func (.func 37) #[] #[]) [hiV v sv ev, .int .i64 n] W = some (.bool c, W) ∧ (c = false → HiA W v sv ev l ∧ l.length ≤ 410 ∧ ((l.length : Int) ≤ n ∨ 400 < l.length)) := by
  have main : Ok (law24_far omS (hiV v sv ev) (.int .i64 n) W) fun r => ∃ c : Bool, r.1 = .bool c ∧ Le W r.2 ∧ (c = false → v.secs.length ≤ 10 ∧ (∀ s ∈ v.secs, s.rows.length ≤ 20) ∧ l.length ≤ 410 ∧ ((l.length : Int) ≤ n ∨ 400 < l.length)) := by
    unfold law24_far
    have hle : Le W (W.add (.cells [.int .i64 v.sh, .int .i64 v.ttl, .int .i64 v.ses, sv, ev])) := (Le.refl W).add _
    have hg : (W.add (.cells [.int .i64 v.sh, .int .i64 v.ttl, .int .i64 v.ses, sv, ev])).get W.next = some (.cells [.int .i64 v.sh, .int .i64 v.ttl, .int .i64 v.ses, sv, ev]) := AW.get_add _ _
    simp only [SX, hiBox, Nat.zero_add]
    generalize W.add (.cells [.int .i64 v.sh, .int .i64 v.ttl, .int .i64 v.ses, sv, ev]) = W1 at *
    have h1 := h.mono hle
    have c3 : ldC (.pointer (some ⟨W.next, 3, none⟩)) W1 = some (sv, W1) := ldR hg rfl
    have c4 : ldC (.pointer (some ⟨W.next, 4, none⟩)) W1 = some (ev, W1) := ldR hg rfl
    refine Ok_loop (min v.secs.length 20) (by omega) (fun i R V => V = W1 ∧ R 1 = .int .i64 n ∧ R 2 = .pointer (some ⟨W.next, 0, none⟩) ∧ R 5 = .int .i64 (i : Int) ∧ ∀ j (hj : j < v.secs.length), j < i → v.secs[j].rows.length ≤ 20)
      (fun r => r.2.2 = W1 ∧ ((r.1 = .exit 0 ∧ r.2.1 1 = .int .i64 n ∧ r.2.1 2 = .pointer (some ⟨W.next, 0, none⟩) ∧ ∀ j (hj : j < v.secs.length), j < 20 → v.secs[j].rows.length ≤ 20) ∨ (r.1 = .ret ∧ r.2.1 4 = .bool true))) ⟨rfl, rfl, rfl, rfl, fun j hj h => by omega⟩ ?_ ?_ ?_
    · rintro i R V hi ⟨rfl, r1, r2, r5, hj⟩
      unfold law24_far_L1
      have hi' : i < v.secs.length := by omega
      have t1 : ((i : Int) < (v.secs.length : Int)) := by omega
      have t0 : ((i : Int) < 20) := by omega
      have t2 := fun W' => oBin_add (P := Tryz.prog) (W := W') (t := 3) (c := false) (d := true) (a := (i : Int)) (b := 1) (by omega) (by omega)
      have e3 : ((i + 1 : Nat) : Int) = (i : Int) + 1 := by omega
      obtain ⟨b, o, rv, i1, i2, -, i4, i5, -⟩ := Secs.get h1.secs.1 hi'
      obtain ⟨m, hm⟩ := lenStr9 (bytesL v.secs[i].name) V
      cases d2 : decide (100 < m)
      · by_cases c3' : v.secs[i].rows.length ≤ 20
        · have d3 : decide ((20 : Int) < (v.secs[i].rows.length : Int)) = false := decide_eq_false (by omega)
          simp only [SX, r1, r2, r5, Nat.zero_add, Nat.add_zero, c3, h1.secs.1.len lenS, t1, t0, decide_true, i1, i4 _ (Le.refl _), hm, d2, i5 _ (Le.refl _), i2.len len69, d3, t2, Ok_some]
          exact .inl ⟨trivial, trivial, r1, r2, by rw [e3]; rfl, fun j hj' hlt => by
            by_cases e : j = i
            · subst e; exact c3'
            · exact hj j hj' (by omega)⟩
        · have d3 : decide ((20 : Int) < (v.secs[i].rows.length : Int)) = true := decide_eq_true (by omega)
          simp only [SX, r1, r2, r5, Nat.zero_add, Nat.add_zero, c3, h1.secs.1.len lenS, t1, t0, decide_true, i1, i4 _ (Le.refl _), hm, d2, i5 _ (Le.refl _), i2.len len69, d3, t2, Ok_some]
          exact .inr ⟨by simp, trivial, .inr ⟨trivial, rfl⟩⟩
      · simp only [SX, r1, r2, r5, Nat.zero_add, Nat.add_zero, c3, h1.secs.1.len lenS, t1, t0, decide_true, i1, i4 _ (Le.refl _), hm, d2, t2, Ok_some]
        exact .inr ⟨by simp, trivial, .inr ⟨trivial, rfl⟩⟩
    · rintro R V ⟨rfl, r1, r2, r5, hj⟩
      unfold law24_far_L1
      by_cases c : v.secs.length ≤ 20
      · have t1 : ¬ (((min v.secs.length 20 : Nat) : Int) < (v.secs.length : Int)) := by omega
        simp only [SX, r2, r5, Nat.zero_add, c3, h1.secs.1.len lenS, t1, decide_false, Ok_some]
        exact ⟨by simp, trivial, .inl ⟨trivial, r1, r2, fun j h1 h2 => hj j h1 (by omega)⟩⟩
      · have t1 : (((min v.secs.length 20 : Nat) : Int) < (v.secs.length : Int)) := by omega
        have t0 : ¬ (((min v.secs.length 20 : Nat) : Int) < 20) := by omega
        simp only [SX, r2, r5, Nat.zero_add, c3, h1.secs.1.len lenS, t1, t0, decide_true, decide_false, Ok_some]
        exact ⟨by simp, trivial, .inl ⟨trivial, r1, r2, fun j h1 h2 => hj j h1 (by omega)⟩⟩
    · rintro ⟨q, R, V⟩ ⟨rfl, hq⟩
      simp only at hq
      rcases hq with ⟨rfl, r1, r2, hj⟩ | ⟨rfl, r4⟩
      · have hsm : v.secs.length ≤ 10 → ∀ s ∈ v.secs, s.rows.length ≤ 20 := fun hl s hs => by
          obtain ⟨j, hj', rfl⟩ := List.mem_iff_getElem.1 hs
          exact hj j hj' (by omega)
        by_cases k1 : v.secs.length ≤ 10
        · have d1 : decide ((10 : Int) < (v.secs.length : Int)) = false := decide_eq_false (by omega)
          by_cases k4 : l.length ≤ 410
          · have d4 : decide ((410 : Int) < (l.length : Int)) = false := decide_eq_false (by omega)
            by_cases k2 : n < (l.length : Int)
            · have d2 : decide (n < (l.length : Int)) = true := decide_eq_true k2
              by_cases k3 : (l.length : Int) ≤ 400
              · have d3 : decide ((l.length : Int) ≤ 400) = true := decide_eq_true k3
                simp only [SX, wu1, wu2, r1, r2, Nat.zero_add, c3, c4, h1.secs.1.len lenS, h1.evs.len len80, d1, d2, d3, d4, Ok_some]
                exact ⟨true, rfl, hle, fun h => by cases h⟩
              · have d3 : decide ((l.length : Int) ≤ 400) = false := decide_eq_false k3
                simp only [SX, wu1, wu2, r1, r2, Nat.zero_add, c3, c4, h1.secs.1.len lenS, h1.evs.len len80, d1, d2, d3, d4, Ok_some]
                exact ⟨false, rfl, hle, fun _ => ⟨k1, hsm k1, k4, .inr (by omega)⟩⟩
            · have d2 : decide (n < (l.length : Int)) = false := decide_eq_false k2
              simp only [SX, wu1, wu2, r1, r2, Nat.zero_add, c3, c4, h1.secs.1.len lenS, h1.evs.len len80, d1, d2, d4, Ok_some]
              exact ⟨false, rfl, hle, fun _ => ⟨k1, hsm k1, k4, .inl (by omega)⟩⟩
          · have d4 : decide ((410 : Int) < (l.length : Int)) = true := decide_eq_true (by omega)
            cases d2 : decide (n < (l.length : Int)) <;> cases d3 : decide ((l.length : Int) ≤ 400) <;>
              (simp only [SX, wu1, wu2, r1, r2, Nat.zero_add, c3, c4, h1.secs.1.len lenS, h1.evs.len len80, d1, d2, d3, d4, Ok_some]; exact ⟨true, rfl, hle, fun h => by cases h⟩)
        · have d1 : decide ((10 : Int) < (v.secs.length : Int)) = true := decide_eq_true (by omega)
          simp only [SX, wu1, wu2, r1, r2, Nat.zero_add, c3, h1.secs.1.len lenS, d1, Ok_some]
          exact ⟨true, rfl, hle, fun h => by cases h⟩
      · simp only [SX, r4, Ok_some]
        exact ⟨true, rfl, hle, fun h => by cases h⟩
  obtain ⟨⟨q, W'⟩, h1, c, h2, h3, h4⟩ := main
  simp only at h2
  subst h2
  refine ⟨c, om_drop rfl ⟨_, h1, rfl, h3⟩ law24_far_om, fun hc => ?_⟩
  obtain ⟨k1, k2, k3⟩ := h4 hc
  exact ⟨⟨h.secs, by omega, fun s hs => by have := k2 s hs; omega, h.evs⟩, k3⟩
theorem histPairs_all {W : AW} {v : Ven} {sv ev : Value} {l : List EvT} (hG : GW W) (h : HiR W v sv ev l) (i j : Int) : omS (.func (.func 8) #[] #[]) [hiV v sv ev, .int .i64 i, .int .i64 j] W = some (.bool true, W) := by
  obtain ⟨c, hf, hc⟩ := far_all h 80
  cases c with
  | false => exact histPairs_om hG (hc rfl).1 i j
  | true =>
    refine om_drop rfl ?_ law24_HistoryPairs_om
    unfold law24_HistoryPairs
    have hle : Le W (W.add (.cells [.int .i64 v.sh, .int .i64 v.ttl, .int .i64 v.ses, sv, ev])) := (Le.refl W).add _
    have hg : (W.add (.cells [.int .i64 v.sh, .int .i64 v.ttl, .int .i64 v.ses, sv, ev])).get W.next = some (.cells [.int .i64 v.sh, .int .i64 v.ttl, .int .i64 v.ses, sv, ev]) := AW.get_add _ _
    simp only [SX, hiBox, Nat.zero_add]
    generalize W.add (.cells [.int .i64 v.sh, .int .i64 v.ttl, .int .i64 v.ses, sv, ev]) = W1 at *
    have cB : ldA 5 (.pointer (some ⟨W.next, 0, none⟩)) W1 = some (hiV v sv ev, W1) := ldA_ok (cellsAt_of hg) rfl
    obtain ⟨c, hf', hc'⟩ := far_all (h.mono hle) 80
    have aw := awake24_ok (hG.mono hle)
    cases c with
    | true =>
      simp only [SX, cB, hf', aw, Ok_some]
      exact ⟨trivial, hle⟩
    | false =>
      obtain ⟨k, -⟩ := hc' rfl
      obtain ⟨x, y, e, p1, p2⟩ := triple (hG.mono hle) k i j
      have ub4 : Tryz.prog.underlying 4 = some .bool := by kernel_rfl
      have eqb := fun (b : Bool) W => oBin_bools_eql (P := Tryz.prog) (W := W) (t := 4) (c := false) (d := false) (a := b) (b := b) ub4
      simp only [beq_self_eq_true] at eqb
      have eqi := show decide (e = e) = true from decide_eq_true rfl
      simp only [SX, cB, hf', hisBef_of p1, refBef_of p2, hisOvl_of p1, refOvl_of p2, aw, eqb, eqi, Ok_some]
      exact ⟨trivial, hle⟩
end Go.Proofs.YtnigceddndemkaaGreatDoor
/- A history that is handed in, opened: blocks. -/
namespace Go.Proofs.YtnigceddndemkaaGreatDoor
open Go Go.Eng Go.RowKit
set_option linter.unusedVariables false
set_option linter.unusedSimpArgs false
set_option linter.unusedSectionVars false
set_option maxRecDepth 100000
theorem sec_of {W : AW} {n : Nat} {c : List Value} (h : DR Tryz.prog W (n + 3) 130 c) : ∃ s : Sec, ∀ pre post, SecAt W (pre ++ (c ++ post)) pre.length s := by
  obtain ⟨c1, c2, rfl, h1, h2⟩ := (h.struct Tryz.underlying130).cons
  obtain ⟨c3, c4, rfl, h3, h4⟩ := h2.cons
  obtain ⟨c5, c6, rfl, h5, h6⟩ := h4.cons
  obtain rfl := h6.nil
  obtain ⟨s, rfl, _⟩ := h1.str Tryz.underlying9
  obtain ⟨rv, zs, rfl, hz, _⟩ := h3.ints Tryz.underlying69 Tryz.underlying3 (by kernel_rfl)
  obtain ⟨q, rfl⟩ := h5.int Tryz.underlying3
  refine ⟨⟨s.data.toList, zs, q⟩, fun pre post => ⟨?_, ?_, rv, ?_, hz⟩⟩
  · rw [List.getElem?_append_right (by omega), bytesL_back]; simp
  · rw [List.getElem?_append_right (by omega), Nat.add_sub_cancel_left]; rfl
  · rw [List.getElem?_append_right (by omega), Nat.add_sub_cancel_left]; rfl
theorem ven_of {W : AW} {n : Nat} {c : List Value} (h : DR Tryz.prog W (n + 5) 24 c) : ∃ (v : Ven) (sv : Value), c = [.int .i64 v.sh, .int .i64 v.ttl, .int .i64 v.ses, sv] ∧ SecsC W sv v.secs := by
  obtain ⟨c1, c2, rfl, h1, h2⟩ := (h.struct Tryz.underlying24).cons
  obtain ⟨c3, c4, rfl, h3, h4⟩ := h2.cons
  obtain ⟨c5, c6, rfl, h5, h6⟩ := h4.cons
  obtain ⟨c7, c8, rfl, h7, h8⟩ := h6.cons
  obtain rfl := h8.nil
  obtain ⟨a, rfl⟩ := h1.int Tryz.underlying3
  obtain ⟨b, rfl⟩ := h3.int Tryz.underlying2
  obtain ⟨d, rfl⟩ := h5.int Tryz.underlying2
  obtain ⟨sv, l, rfl, hr⟩ := h7.row Tryz.underlying22 (at_ := SecAt W) (fun c _ hc => sec_of hc)
  exact ⟨⟨a, b, d, l⟩, sv, rfl, hr⟩
theorem dr_bool {W : AW} {n : Nat} {t : TypeId} {cs : List Value} (h : DR Tryz.prog W (n + 1) t cs) (ht : Tryz.prog.underlying t = some .bool) : ∃ b, cs = [.bool b] := by
  unfold DR at h; rw [ht] at h; exact h
theorem tk_of {W : AW} {n : Nat} {c : List Value} (h : DR Tryz.prog W (n + 2) 115 c) : ∃ a b d e : Int, c = [.int .u32 a, .int .u32 b, .int .u64 d, .int .u64 e] := by
  obtain ⟨c1, c2, rfl, h1, h2⟩ := (h.struct Tryz.underlying115).cons
  obtain ⟨c3, c4, rfl, h3, h4⟩ := h2.cons
  obtain ⟨c5, c6, rfl, h5, h6⟩ := h4.cons
  obtain ⟨c7, c8, rfl, h7, h8⟩ := h6.cons
  obtain rfl := h8.nil
  obtain ⟨a, rfl⟩ := h1.int Tryz.underlying35
  obtain ⟨b, rfl⟩ := h3.int Tryz.underlying35
  obtain ⟨d, rfl⟩ := h5.int Tryz.underlying36
  obtain ⟨e, rfl⟩ := h7.int Tryz.underlying36
  exact ⟨a, b, d, e, rfl⟩
theorem op_of {W : AW} {n : Nat} {c : List Value} (h : DR Tryz.prog W (n + 3) 117 c) : ∃ o : OpT, c = (opV o).cells.toList := by
  obtain ⟨c1, r1, rfl, h1, h⟩ := (h.struct Tryz.underlying117).cons
  obtain ⟨c2, r2, rfl, h2, h⟩ := h.cons
  obtain ⟨c3, r3, rfl, h3, h⟩ := h.cons
  obtain ⟨c4, r4, rfl, h4, h⟩ := h.cons
  obtain ⟨c5, r5, rfl, h5, h⟩ := h.cons
  obtain ⟨c6, r6, rfl, h6, h⟩ := h.cons
  obtain ⟨c7, r7, rfl, h7, h⟩ := h.cons
  obtain ⟨c8, r8, rfl, h8, h⟩ := h.cons
  obtain ⟨c9, r9, rfl, h9, h⟩ := h.cons
  obtain rfl := h.nil
  obtain ⟨x1, rfl⟩ := h1.int Tryz.underlying3
  obtain ⟨x2, rfl⟩ := h2.int Tryz.underlying35
  obtain ⟨x3, rfl⟩ := h3.int Tryz.underlying2
  obtain ⟨x4, rfl⟩ := h4.int Tryz.underlying3
  obtain ⟨x5, rfl⟩ := h5.int Tryz.underlying3
  obtain ⟨x6, rfl⟩ := h6.int Tryz.underlying3
  obtain ⟨x7, rfl⟩ := h7.int Tryz.underlying35
  obtain ⟨a, b, d, e, rfl⟩ := tk_of h8
  obtain ⟨x9, rfl⟩ := h9.int Tryz.underlying2
  exact ⟨⟨x1, x2, x3, x4, x5, x6, x7, a, b, d, e, x9⟩, rfl⟩
theorem rp_of {W : AW} {n : Nat} {c : List Value} (h : DR Tryz.prog W (n + 3) 119 c) : ∃ o : RpT, c = (rpV o).cells.toList := by
  obtain ⟨c1, r1, rfl, h1, h⟩ := (h.struct Tryz.underlying119).cons
  obtain ⟨c2, r2, rfl, h2, h⟩ := h.cons
  obtain ⟨c3, r3, rfl, h3, h⟩ := h.cons
  obtain ⟨c4, r4, rfl, h4, h⟩ := h.cons
  obtain ⟨c5, r5, rfl, h5, h⟩ := h.cons
  obtain ⟨c6, r6, rfl, h6, h⟩ := h.cons
  obtain rfl := h.nil
  obtain ⟨x1, rfl⟩ := h1.int Tryz.underlying29
  obtain ⟨x2, rfl⟩ := h2.int Tryz.underlying3
  obtain ⟨x3, rfl⟩ := h3.int Tryz.underlying3
  obtain ⟨x4, rfl⟩ := h4.int Tryz.underlying2
  obtain ⟨a, b, d, e, rfl⟩ := tk_of h5
  obtain ⟨x6, rfl⟩ := h6.int Tryz.underlying3
  exact ⟨⟨x1, x2, x3, x4, a, b, d, e, x6⟩, rfl⟩
theorem ev_of {W : AW} {n : Nat} {c : List Value} (h : DR Tryz.prog W (n + 4) 121 c) : ∃ e : EvT, c = evC e := by
  obtain ⟨c1, r1, rfl, h1, h⟩ := (h.struct Tryz.underlying121).cons
  obtain ⟨c2, r2, rfl, h2, h⟩ := h.cons
  obtain ⟨c3, r3, rfl, h3, h⟩ := h.cons
  obtain ⟨c4, r4, rfl, h4, h⟩ := h.cons
  obtain ⟨c5, r5, rfl, h5, h⟩ := h.cons
  obtain rfl := h.nil
  obtain ⟨x1, rfl⟩ := h1.int Tryz.underlying3
  obtain ⟨x2, rfl⟩ := h2.int Tryz.underlying3
  obtain ⟨x3, rfl⟩ := dr_bool h3 Tryz.underlying4
  obtain ⟨o, rfl⟩ := op_of h4
  obtain ⟨r, rfl⟩ := rp_of h5
  exact ⟨⟨x1, x2, x3, o, r⟩, rfl⟩
theorem his_of {W : AW} {n : Nat} {c : List Value} (h : DR Tryz.prog W (n + 6) 82 c) : ∃ (v : Ven) (sv ev : Value) (l : List EvT), c = [.int .i64 v.sh, .int .i64 v.ttl, .int .i64 v.ses, sv, ev] ∧ HiR W v sv ev l := by
  obtain ⟨c1, c2, rfl, h1, h2⟩ := (h.struct Tryz.underlying82).cons
  obtain ⟨c3, c4, rfl, h3, h4⟩ := h2.cons
  obtain rfl := h4.nil
  obtain ⟨v, sv, rfl, hs⟩ := ven_of h1
  obtain ⟨ev, l, rfl, hr⟩ := h3.row Tryz.underlying80 (at_ := flatAt 24 evC) (fun c _ hc => by
    obtain ⟨e, rfl⟩ := ev_of hc
    exact ⟨e, fun pre post => flatAt_in evC_len e pre post⟩)
  exact ⟨v, sv, ev, l, rfl, hs, hr.1⟩
section
variable {H : Type} {enc : TypeId × Value → H} {w : World} {σ : Inj} {W : AW} {v0 : Value} {d : DataW H} {p : List MemPlace} {r : Reach} {b0 : Nat}
theorem agg_of {t : TypeId} {fs : Array Field} (ht : Tryz.prog.underlying t = some (.struct fs)) (hv : Value.okWide Tryz.prog w r b0 t v0) : ∃ cs, v0 = .agg cs := by
  unfold Value.okWide at hv
  rw [ht] at hv
  obtain ⟨cs, h, _⟩ := hv
  exact ⟨cs, h⟩
theorem sim82 : simT Tryz.prog 7 82 = true := by kernel_rfl
theorem openHis (ho : Opened σ W w) (hv : Value.okWide Tryz.prog w r b0 82 v0) (h : DataW.Trod enc Tryz.prog w 0 (fun _ => true) true 82 v0 d p) :
    ∃ (σ2 : Inj) (W2 : AW) (v : Ven) (sv ev : Value) (l : List EvT), Opened σ2 W2 w ∧ Sub σ σ2 ∧ Le W W2 ∧ VR σ2 (hiV v sv ev) v0 ∧ HiR W2 v sv ev l := by
  obtain ⟨cs, rfl⟩ := agg_of Tryz.underlying82 hv
  obtain ⟨m, hm⟩ := h
  obtain ⟨σ2, W2, cs2, o2, s2, l2, r2, a2⟩ := opens_trod sim82 hm σ W ho
  obtain ⟨v, sv, ev, l, rfl, hs⟩ := his_of a2
  exact ⟨σ2, W2, v, sv, ev, l, o2, s2, l2, .agg' (a := #[.int .i64 v.sh, .int .i64 v.ttl, .int .i64 v.ses, sv, ev]) r2, hs⟩
end
theorem openG {w : World} (hl : LaidG globW w.heap) : Opened (σG globW) (WG globW 5) w := ⟨rel_G rfl hl, allRo_G, 1, _, rfl⟩
theorem gw_W : GW (WG globW 5) := globW_G rfl (fun x hx => by
  have h2 : x = (0, usesV) ∨ x = (1, pow10V) ∨ x = (3, bru32V) ∨ x = (4, bru64V) := by simpa [globW] using hx
  rcases h2 with rfl | rfl | rfl | rfl <;> rfl)
theorem gw_le {W : AW} (h : Le (WG globW 5) W) : GW W := gw_W.mono h
theorem kidsT : Kids Tryz.prog (· < Tryz.prog.types.size) := kids_rows (by kernel_rfl) (by kernel_rfl)
theorem fullT : ∀ t e, t < Tryz.prog.types.size → Tryz.prog.underlying t = some (.slice e) → 0 < Tryz.prog.cellsOf e := slices_full_of Tryz.prog (by kernel_rfl)
/-- what is opened is called -/
theorem open_calls (hok : CalleeOK Tryz.prog PlanTab.ng omS) {w : World} {σ : Inj} {W : AW} (ho : Opened σ W w) (hs : Sub (σG globW) σ) {i : Nat} {args args' : List Value} (hr : LR σ args args') (h : omS (.func (.func i) #[] #[]) args W = some (.bool true, W)) :
    Calls Tryz.prog i args'.toArray w fun e w' => e = .returned (.bool true) ∧ Quiet w w' := by
  have hG : Glob σ [0, 1, 3, 4] := fun g hg => by
    obtain ⟨e, he⟩ := (glob_G (gs := globW) (ng := [0, 1, 3, 4]) rfl) g hg
    exact ⟨e, hs _ _ he⟩
  exact om_calls hok ho.rel hG ho.ro hr rfl h
end Go.Proofs.YtnigceddndemkaaGreatDoor
