/- Contracts of functions, and their laws. -/
import Derived.Test.YtkpgmabebjmahaaPlainA
import Derived.Test.YtkpgmabebjmahaaOpnA
import Derived.KernelRfl
/- law06.do: one call of a queue and of its specification. -/
namespace Go.Proofs.Ytkpgmabebjmahaa
open Go Go.Eng Go.Hp
set_option linter.unusedVariables false
set_option linter.unusedSimpArgs false
set_option linter.unusedSectionVars false
set_option maxRecDepth 100000
theorem oEx4_0 (a b c d : Value) (W : AW) : oExtract (.tuple #[a, b, c, d]) 0 W = some (a, W) := Eq.trans rfl rfl
theorem oEx4_1 (a b c d : Value) (W : AW) : oExtract (.tuple #[a, b, c, d]) 1 W = some (b, W) := Eq.trans rfl rfl
theorem oEx4_2 (a b c d : Value) (W : AW) : oExtract (.tuple #[a, b, c, d]) 2 W = some (c, W) := Eq.trans rfl rfl
theorem oEx4_3 (a b c d : Value) (W : AW) : oExtract (.tuple #[a, b, c, d]) 3 W = some (d, W) := Eq.trans rfl rfl
abbrev caQ (c : Int × Int × Int) : Value := .agg #[.int .u8 c.1, .int .i64 c.2.1, .int .i64 c.2.2]
abbrev bq (b : Nat) : Value := .pointer (some ⟨b, 0, none⟩)
theorem bxCa (c : Int × Int × Int) (W : AW) : ∃ V, oBox (caQ c) W = some (bq W.next, V) ∧ Le W V ∧ V.next = W.next + 1 ∧ V.get W.next = some (.cells [.int .u8 c.1, .int .i64 c.2.1, .int .i64 c.2.2]) := ⟨_, oBox_agg _, (Le.refl _).add _, AW.add_next _ _, AW.get_add _ _⟩
def ShQ (In : Nat → Prop) (V V' : AW) : Nat → Prop := fun b => In b ∧ b < V.next ∨ V'.next ≤ b
section
variable {In : Nat → Prop} {rb : Nat} {V V' : AW} {q mh : Nat} {k nx : Int} {n : Nat} {f : Nat → En} {iv : Value} {L : List (Int × Int)}
def DoQ (In : Nat → Prop) (rb : Nat) (V : AW) (q mh : Nat) (k : Int) (n : Nat) (V' : AW) : Prop :=
  ∃ (In' : Nat → Prop) (nx' : Int) (n' : Nat) (f' : Nat → En) (iv' : Value) (L' : List (Int × Int)), JQ In' rb V' q mh k nx' n' f' iv' L' ∧ n' ≤ n + 1 ∧ Gr V V' (InB In rb) ∧ ∀ b, In' b → In b
theorem JQ.up' (J : JQ In rb V q mh k nx n f iv L) {In1 : Nat → Prop} {V1 U : AW} (l : Le V V1) (g : Gr V1 U (ShQ In V V1)) : Gr V U (InB In rb) := ⟨Nat.le_trans l.next g.next, fun b hb hn => by
  have := l.next
  rw [g.get b (by omega) fun h => ?_, l.get b hb]
  rcases h with h | h
  · exact hn (.inl h.1)
  · omega⟩
theorem QS.sh (h : QS V In q mh (lsV k) (KS k) nx n f) (l : Le V V') : QS V' (ShQ In V V') q mh (lsV k) (KS k) nx n f := h.keep l.next (fun b hb _ => l.get b hb) fun b h1 h2 => .inl ⟨h2, h1⟩
theorem endQ {In1 : Nat → Prop} {U V6 Va Vb : AW} {nx' : Int} {n' : Nat} {f' : Nat → En} {iv' : Value} {L' : List (Int × Int)} (J : JQ In rb V q mh k nx n f iv L) (sub : ∀ b, In1 b → In b) (gU : Gr V U (InB In rb)) (hq : QS U In1 q mh (lsV k) (KS k) nx' n' f') (l : Le U V6) (nb : ¬ In1 rb) (hVa : U.next ≤ Va.next) (hVb : Vb.next ≤ V6.next) (kept : ∀ b, Va.next ≤ b → b < Vb.next → V6.get b = Vb.get b) (row : RowQ In rb V Va Vb iv' L') (perm : L'.Perm (hvs n' f')) (sort : SortB k L') (hn : n' ≤ n + 1) : DoQ In rb V q mh k n (V6.put rb (.cells [.int .i64 nx', iv'])) := by
  have nU := gU.next
  have n6 := l.next
  have hr := J.rl
  have nb2 : ¬ ShQ In1 U V6 rb := fun h => by
    rcases h with h | h
    · exact nb h.1
    · omega
  have sub2 : ∀ b, ShQ In1 U V6 b → In b := fun b hb => by
    rcases hb with hb | hb
    · exact sub b hb.1
    · exact J.up b (by omega)
  have g6 : Gr V (V6.put rb (.cells [.int .i64 nx', iv'])) (InB In rb) := ⟨by rw [AW.put_next]; omega, fun b hb hi => by
    rw [AW.get_put_ne _ _ (fun e => hi (.inr e.symm)), l.get b (by omega), gU.get b hb hi]⟩
  refine ⟨ShQ In1 U V6, nx', n', f', iv', L', ⟨hq.keep (by rw [AW.put_next]; omega) (fun b hb hi => by rw [AW.get_put_ne _ _ (fun e => nb (by rw [e]; exact hi)), l.get b hb]) (fun b h1 h2 => .inl ⟨h2, h1⟩), fun b hb => .inr (by rwa [AW.put_next] at hb), AW.get_put _ _ _, nb2, fun V'' g => ?_, perm, sort⟩, hn, g6, sub2⟩
  have ng := g.next
  rw [AW.put_next] at ng
  refine row V'' ⟨by omega, fun b hb hi => ?_⟩ (by omega) fun b h1 h2 => ?_
  · rw [g.get b (by rw [AW.put_next]; omega) (fun h => ?_), g6.get b hb hi]
    rcases h with h | h
    · exact hi (.inl (sub2 b h))
    · exact hi (.inr h)
  · rw [g.get b (by rw [AW.put_next]; omega) (fun h => ?_), AW.get_put_ne _ _ (by omega), kept b h1 h2]
    rcases h with h | h
    · rcases h with h | h <;> omega
    · omega
theorem do_ok (J : JQ In rb V q mh k nx n f iv L) (hn : n < 5000) (c : Int × Int × Int) : ∃ V', omS (.func (.func 41) #[] #[]) [qV q, .int .u8 k, bq rb, caQ c] V = some (.bool true, V') ∧ DoQ In rb V q mh k n V' := by
  have main : Ok (law06_do omS (qV q) (.int .u8 k) (bq rb) (caQ c) V) fun r => r.1 = .bool true ∧ DoQ In rb V q mh k n r.2 := by
    unfold law06_do
    obtain ⟨V1, b1, l1, n1, x1⟩ := bxCa c V
    have hr := J.rl
    have rem : ∀ W', oBin Try.prog .rem 5 false true (.int .u8 c.1) (.int .u8 8) W' = some (.int .u8 (c.1.tmod 8), W') := fun W' => oBin_rem (by omega)
    have h1 : QS V1 (ShQ In V V1) q mh (lsV k) (KS k) nx n f := QS.sh J.qs l1
    have up1 : ∀ b, V1.next ≤ b → ShQ In V V1 b := fun b hb => .inr hb
    have sub1 : ∀ b, ShQ In V V1 b → In b := fun b hb => by
      rcases hb with hb | hb
      · exact hb.1
      · exact J.up b (by omega)
    have nb1 : ¬ ShQ In V V1 rb := fun h => by
      rcases h with h | h
      · exact J.nb h.1
      · omega
    have np1 : ¬ ShQ In V V1 V.next := fun h => by
      rcases h with h | h <;> omega
    have hsl := J.isSl
    have cx : ∀ U : AW, U.get V.next = some (.cells [.int .u8 c.1, .int .i64 c.2.1, .int .i64 c.2.2]) → ldC (.pointer (some ⟨V.next, 0, none⟩)) U = some (.int .u8 c.1, U) ∧ ldC (.pointer (some ⟨V.next, 1, none⟩)) U = some (.int .i64 c.2.1, U) ∧ ldC (.pointer (some ⟨V.next, 2, none⟩)) U = some (.int .i64 c.2.2, U) := fun U h => ⟨ldR (rwOf h) rfl, ldR (rwOf h) rfl, ldR (rwOf h) rfl⟩
    obtain ⟨cx0, cx1, cx2⟩ := cx V1 x1
    have sb1 : V1.get rb = some (.cells [.int .i64 nx, iv]) := by rw [l1.get _ hr]; exact J.sb
    generalize c.1.tmod 8 = m at rem
    by_cases m3 : m = 3
    · subst m3
      obtain ⟨a, v, e, T, hr', hh⟩ := popBoth J hn
      obtain ⟨U, n', f', u1, u2, u3, u4, u5⟩ := hh V1 _ h1 up1
      have gU := J.up' (In1 := In) l1 u3
      obtain ⟨V4, iv', L', r1, r2, r3, r4, r5, r6⟩ := hr' U gU
      have sbU : U.get rb = some (.cells [.int .i64 nx, iv]) := by rw [u3.get _ (by omega) nb1]; exact sb1
      have nU := u3.next
      have n4 := r2.next
      obtain ⟨V5, a1, a2, a3, a4⟩ := nw60 V4
      have st := st60 (n := nx) a4 r6
      generalize hV6 : V5.put V4.next (.cells [.int .i64 nx, iv']) = V6 at st
      have x6 : V6.get V4.next = some (.cells [.int .i64 nx, iv']) := by rw [← hV6]; exact AW.get_put _ _ _
      have l46 : Le V4 V6 := by rw [← hV6]; exact a2.put (Nat.le_refl _) _
      have n6 := l46.next
      have sb6 : V6.get rb = some (.cells [.int .i64 nx, iv]) := by rw [l46.get _ (by omega), r2.get _ (by omega)]; exact sbU
      have st2 := st60 (n := nx) sb6 r6
      have ea : decide (a = a) = true := decide_eq_true rfl
      have ev' : decide (v = v) = true := decide_eq_true rfl
      have ee : decide (e = e) = true := decide_eq_true rfl
      simp only [SX, b1, Nat.zero_add, cx0, rem, decide_true, u1, oNilCheck_ptr, ld60 sbU, r1, oEx4_0, oEx4_1, oEx4_2, oEx4_3, a1, st, ld60 x6, st2, ea, ev', ee, Ok_some]
      exact ⟨trivial, endQ J sub1 gU u2 (r2.trans l46) nb1 (Nat.le_refl _) n6 (fun b h1 h2 => l46.get b h2) r3 (r4.trans u4.symm) r5 u5⟩
    by_cases m4 : m = 4
    · subst m4
      obtain ⟨e, T, hr', hh⟩ := setBoth J hn c.2.1 c.2.2
      obtain ⟨V2, a1, a2, a3, a4⟩ := nw60 V1
      have l2 := l1.trans a2
      obtain ⟨V3, iv', L', r1, r2, r3, r4, r5, r6⟩ := hr' V2 ⟨l2.next, fun b hb _ => l2.get b hb⟩
      have n3 := r2.next
      have y3 : V3.get V1.next = some (.cells [.int .i64 0, .slice none 0 0]) := by rw [r2.get _ (by omega)]; exact a4
      have st := st60 (n := nx) y3 r6
      generalize hV4 : V3.put V1.next (.cells [.int .i64 nx, iv']) = V4 at st
      have x4 : V4.get V1.next = some (.cells [.int .i64 nx, iv']) := by rw [← hV4]; exact AW.get_put _ _ _
      have n4 : V4.next = V3.next := by rw [← hV4, AW.put_next]
      have g4 : ∀ b, b ≠ V1.next → V4.get b = V3.get b := fun b hb => by rw [← hV4]; exact AW.get_put_ne _ _ (Ne.symm hb)
      have sb4 : V4.get rb = some (.cells [.int .i64 nx, iv]) := by rw [g4 _ (by omega), r2.get _ (by omega), a2.get _ (by omega)]; exact sb1
      have st2 := st60 (n := nx) sb4 r6
      generalize hV5 : V4.put rb (.cells [.int .i64 nx, iv']) = V5 at st2
      have n5 : V5.next = V4.next := by rw [← hV5, AW.put_next]
      have g5 : ∀ b, b ≠ rb → V5.get b = V4.get b := fun b hb => by rw [← hV5]; exact AW.get_put_ne _ _ (Ne.symm hb)
      have lV4 : Le V V4 := ⟨by have := l1.next; omega, fun b hb => by rw [g4 b (by omega), r2.get b (by omega), l2.get b hb]⟩
      have q5 : QS V5 (ShQ In V V4) q mh (lsV k) (KS k) nx n f := (QS.sh J.qs lV4).keep (by omega) (fun b hb hi => g5 b fun eb => by
        subst eb
        rcases hi with hi | hi
        · exact J.nb hi.1
        · omega) fun b _ hi => hi
      obtain ⟨U, n', f', u1, u2, u3, u4, u5⟩ := hh V5 _ q5 (fun b hb => .inr (by omega))
      have nb4 : ¬ ShQ In V V4 rb := fun h => by
        rcases h with h | h
        · exact J.nb h.1
        · omega
      have sub4 : ∀ b, ShQ In V V4 b → In b := fun b hb => by
        rcases hb with hb | hb
        · exact hb.1
        · exact J.up b (by omega)
      have nU := u3.next
      have sbU : U.get rb = some (.cells [.int .i64 nx, iv']) := by rw [u3.get _ (by omega) nb4, ← hV5]; exact AW.get_put _ _ _
      have x5 : V5.get V.next = some (.cells [.int .u8 c.1, .int .i64 c.2.1, .int .i64 c.2.2]) := by rw [g5 _ (by omega), g4 _ (by omega), r2.get _ (by omega), a2.get _ (by omega)]; exact x1
      obtain ⟨-, dx1, dx2⟩ := cx V5 x5
      have ee : decide (e = e) = true := decide_eq_true rfl
      have sb1' : V1.get rb = some (.cells [.int .i64 nx, iv]) := sb1
      simp only [SX, b1, Nat.zero_add, cx0, rem, m3, decide_false, decide_true, oNilCheck_ptr, ld60 sb1, cx1, cx2, a1, r1, st, ld60 x4, st2, dx1, dx2, u1, ee, Ok_some]
      refine ⟨trivial, ShQ In V V4, nx, n', f', iv', L', ⟨u2, fun b hb => .inr (by omega), sbU, nb4, fun V'' g => ?_, r4.trans u4.symm, r5⟩, u5, ⟨by omega, fun b hb hi => ?_⟩, sub4⟩
      · have ng := g.next
        refine r3 V'' ⟨by omega, fun b hb hi => ?_⟩ (by omega) fun b h1 h2 => ?_
        · rw [g.get b (by omega) (fun h => h.elim (fun h => hi (.inl (sub4 b h))) fun h => hi (.inr h)), u3.get b (by omega) (fun h => hi (.inl (sub4 b h))), g5 b (fun h => hi (.inr h)), lV4.get b hb]
        · have nn : ¬ ShQ In V V4 b := fun h => by rcases h with h | h <;> omega
          rw [g.get b (by omega) (fun h => h.elim nn fun h => by omega), u3.get b (by omega) nn, g5 b (by omega), g4 b (by omega)]
      · rw [u3.get b (by omega) (fun h => hi (.inl (sub4 b h))), g5 b (fun h => hi (.inr h)), lV4.get b hb]
    by_cases m5 : m = 5
    · subst m5
      obtain ⟨v, e, T, hr', hh⟩ := removeBoth J hn c.2.1
      obtain ⟨U, n', f', u1, u2, u3, u4, u5⟩ := hh V1 _ h1 up1
      have gU := J.up' (In1 := In) l1 u3
      have nU := u3.next
      obtain ⟨Ut, a1, a2, a3, a4⟩ := nw60 U
      obtain ⟨V4, iv', L', r1, r2, r3, r4, r5, r6⟩ := hr' Ut (gU.trans ⟨a2.next, fun b hb _ => a2.get b hb⟩)
      have n4 := r2.next
      have sbU : U.get rb = some (.cells [.int .i64 nx, iv]) := by rw [u3.get _ (by omega) nb1]; exact sb1
      have xU : U.get V.next = some (.cells [.int .u8 c.1, .int .i64 c.2.1, .int .i64 c.2.2]) := by rw [u3.get _ (by omega) np1]; exact x1
      obtain ⟨-, dx1, dx2⟩ := cx U xU
      have y4 : V4.get U.next = some (.cells [.int .i64 0, .slice none 0 0]) := by rw [r2.get _ (by omega)]; exact a4
      have st := st60 (n := nx) y4 r6
      generalize hV6 : V4.put U.next (.cells [.int .i64 nx, iv']) = V6 at st
      have x6 : V6.get U.next = some (.cells [.int .i64 nx, iv']) := by rw [← hV6]; exact AW.get_put _ _ _
      have n6 : V6.next = V4.next := by rw [← hV6, AW.put_next]
      have g6 : ∀ b, b ≠ U.next → V6.get b = V4.get b := fun b hb => by rw [← hV6]; exact AW.get_put_ne _ _ (Ne.symm hb)
      have lU6 : Le U V6 := ⟨by omega, fun b hb => by rw [g6 b (by omega), r2.get b (by omega), a2.get b hb]⟩
      have sb6 : V6.get rb = some (.cells [.int .i64 nx, iv]) := by rw [lU6.get _ (by omega)]; exact sbU
      have st2 := st60 (n := nx) sb6 r6
      have ev' : decide (v = v) = true := decide_eq_true rfl
      have ee : decide (e = e) = true := decide_eq_true rfl
      simp only [SX, b1, Nat.zero_add, cx0, cx1, rem, m3, m4, decide_false, decide_true, u1, oNilCheck_ptr, ld60 sbU, dx1, a1, r1, st, ld60 x6, st2, ev', ee, Ok_some]
      exact ⟨trivial, endQ J sub1 gU u2 lU6 nb1 (by omega) (by omega) (fun b h1 h2 => g6 b (by omega)) r3 (r4.trans u4.symm) r5 u5⟩
    have same : DoQ In rb V q mh k n V1 := by
      refine ⟨ShQ In V V1, nx, n, f, iv, L, ⟨h1, up1, sb1, nb1, fun V'' g => J.row V'' ⟨by have := g.next; omega, fun b hb hi => ?_⟩, J.perm, J.sort⟩, by omega, ⟨l1.next, fun b hb _ => l1.get b hb⟩, sub1⟩
      rw [g.get b (by omega) (fun h => h.elim (fun h => hi (.inl (sub1 b h))) fun h => hi (.inr h)), l1.get b hb]
    by_cases m6 : m = 6
    · subst m6
      obtain ⟨v, e, o1, o2⟩ := getBoth J hn c.2.1
      have g1 : Gr V V1 (InB In rb) := ⟨l1.next, fun b hb _ => l1.get b hb⟩
      have hit := its (J.row V1 g1)
      have ev' : decide (v = v) = true := decide_eq_true rfl
      have ee : decide (e = e) = true := decide_eq_true rfl
      have en : decide ((n : Int) = (L.length : Int)) = true := decide_eq_true (by rw [J.len])
      simp only [SX, b1, Nat.zero_add, cx0, cx1, rem, m3, m4, m5, decide_false, decide_true, o2 _ _ h1, oNilCheck_ptr, ld60 sb1, o1 _ g1, ev', ee, ld60b sb1, hit.len len58, qLen_ok h1, agV_some, vsame_int, hsl.vsame, Bool.and_self, en, Ok_some]
      exact ⟨trivial, same⟩
    by_cases m7 : m = 7
    · subst m7
      obtain ⟨a, v, e, o1, o2⟩ := peekBoth J
      have g1 : Gr V V1 (InB In rb) := ⟨l1.next, fun b hb _ => l1.get b hb⟩
      have ea : decide (a = a) = true := decide_eq_true rfl
      have ev' : decide (v = v) = true := decide_eq_true rfl
      have ee : decide (e = e) = true := decide_eq_true rfl
      simp only [SX, b1, Nat.zero_add, cx0, rem, m3, m4, m5, m6, decide_false, decide_true, o2 _ _ h1, oNilCheck_ptr, ld60 sb1, o1 _ g1, ea, ev', ee, Ok_some]
      exact ⟨trivial, same⟩
    obtain ⟨nx', a, e, T, hr', hh⟩ := pushBoth J hn c.2.2
    obtain ⟨U, n', f', u1, u2, u3, u4, u5⟩ := hh V1 _ h1 up1
    have gU := J.up' (In1 := In) l1 u3
    have nU := u3.next
    obtain ⟨Ut, a1, a2, a3, a4⟩ := nw60 U
    obtain ⟨V4, iv', L', r1, r2, r3, r4, r5, r6⟩ := hr' Ut (gU.trans ⟨a2.next, fun b hb _ => a2.get b hb⟩)
    have n4 := r2.next
    have sbU : U.get rb = some (.cells [.int .i64 nx, iv]) := by rw [u3.get _ (by omega) nb1]; exact sb1
    have xU : U.get V.next = some (.cells [.int .u8 c.1, .int .i64 c.2.1, .int .i64 c.2.2]) := by rw [u3.get _ (by omega) np1]; exact x1
    obtain ⟨-, dx1, dx2⟩ := cx U xU
    have y4 : V4.get U.next = some (.cells [.int .i64 0, .slice none 0 0]) := by rw [r2.get _ (by omega)]; exact a4
    have st := st60 (n := nx') y4 r6
    generalize hV6 : V4.put U.next (.cells [.int .i64 nx', iv']) = V6 at st
    have x6 : V6.get U.next = some (.cells [.int .i64 nx', iv']) := by rw [← hV6]; exact AW.get_put _ _ _
    have n6 : V6.next = V4.next := by rw [← hV6, AW.put_next]
    have g6 : ∀ b, b ≠ U.next → V6.get b = V4.get b := fun b hb => by rw [← hV6]; exact AW.get_put_ne _ _ (Ne.symm hb)
    have lU6 : Le U V6 := ⟨by omega, fun b hb => by rw [g6 b (by omega), r2.get b (by omega), a2.get b hb]⟩
    have sb6 : V6.get rb = some (.cells [.int .i64 nx, iv]) := by rw [lU6.get _ (by omega)]; exact sbU
    have st2 := st60 (n := nx') sb6 r6
    have ea : decide (a = a) = true := decide_eq_true rfl
    have ee : decide (e = e) = true := decide_eq_true rfl
    simp only [SX, b1, Nat.zero_add, cx0, cx2, rem, m3, m4, m5, m6, m7, decide_false, decide_true, u1, oNilCheck_ptr, ld60 sbU, dx2, a1, r1, st, ld60 x6, st2, ea, ee, Ok_some]
    exact ⟨trivial, endQ J sub1 gU u2 lU6 nb1 (by omega) (by omega) (fun b h1 h2 => g6 b (by omega)) r3 (r4.trans u4.symm) r5 u5⟩
  have hq : ∀ (v : Value) (V' : AW), (v = .bool true ∧ DoQ In rb V q mh k n V') → Le V V' → plain v = true → v = .bool true ∧ DoQ In rb V q mh k n V := fun v V' h _ _ =>
    ⟨h.1, In, nx, n, f, iv, L, J, by omega, .refl _ _, fun b h => h⟩
  obtain ⟨v, V', h1, rfl, h2⟩ := om_q' (Q := fun v V' => v = .bool true ∧ DoQ In rb V q mh k n V') main law06_do_om hq
  exact ⟨V', h1, h2⟩
end
end Go.Proofs.Ytkpgmabebjmahaa
/- HeapsHandles: what it rests on. -/
namespace Go.Proofs.Ytkpgmabebjmahaa
open Go Go.Eng Go.Hp
set_option linter.unusedVariables false
set_option linter.unusedSimpArgs false
set_option linter.unusedSectionVars false
set_option maxRecDepth 100000
/-- the greater one of a number and its complement -/
def mx (a : Int) : Int := max a (IntKind.i64.wrap (-(IntKind.i64.wrap (a + 1))))
/-! ### one push and its removal -/
section
variable {W : AW} {In : Nat → Prop} {q mh : Nat} {less : Value} {ls : Int → Int → Bool} {nx : Int} {n : Nat} {f : Nat → En}
end
end Go.Proofs.Ytkpgmabebjmahaa
/- HeapsHandles: at every kind, numbers and pair. -/
namespace Go.Proofs.Ytkpgmabebjmahaa
open Go Go.Eng Go.Hp
set_option linter.unusedVariables false
set_option linter.unusedSimpArgs false
set_option linter.unusedSectionVars false
set_option maxRecDepth 100000
theorem lz_of (k : Nat) (D : Nat → Prop) : liesD D (.func (.func k) #[] #[]) := liesD_func (by simp) (by simp)
/-- what a list loses -/
def but (h : Int) (l : List (Int × Int)) : List (Int × Int) := l.filter fun x => !decide (x.1 = h)
end Go.Proofs.Ytkpgmabebjmahaa
/- HeapsWalks: what is yielded while the queue is changed. -/
namespace Go.Proofs.Ytkpgmabebjmahaa
open Go Go.Eng Go.Hp
set_option linter.unusedVariables false
set_option linter.unusedSimpArgs false
set_option linter.unusedSectionVars false
set_option maxRecDepth 100000
abbrev U8s (W : AW) (v : Value) (l : List Int) : Prop := Row W 1 (intAt .u8) v l
theorem U8s.get {W : AW} {v : Value} {l : List Int} (h : U8s W v l) {i : Nat} (hi : i < l.length) :
    ∃ p, (∀ W' k, ixS 1 v (.int k (i : Int)) W' = some (p, W')) ∧ ∀ W', Le W W' → ldC p W' = some (.int .u8 l[i], W') := by
  obtain ⟨b, o, cs, h1, h2, h3, h4⟩ := h.elem hi
  exact ⟨_, h1, fun W' hle => ldC_ok (by rw [hle.cellsAt h2]; exact h3) h4⟩
section
variable {W : AW} {In : Nat → Prop} {q mh : Nat} {less : Value} {ls : Int → Int → Bool} {nx : Int} {n : Nat} {f : Nat → En}
end
end Go.Proofs.Ytkpgmabebjmahaa
/- HeapsWalks: it answers true. -/
namespace Go.Proofs.Ytkpgmabebjmahaa
open Go Go.Eng Go.Hp
set_option linter.unusedVariables false
set_option linter.unusedSimpArgs false
set_option linter.unusedSectionVars false
set_option maxRecDepth 100000
end Go.Proofs.Ytkpgmabebjmahaa
/- HeapsPlays: it answers true. -/
namespace Go.Proofs.Ytkpgmabebjmahaa
open Go Go.Eng Go.Hp
set_option linter.unusedVariables false
set_option linter.unusedSimpArgs false
set_option linter.unusedSectionVars false
set_option maxRecDepth 100000
def caQt (cs : List Value) (p : Nat) (x : Int × Int × Int) : Prop := cs[p]? = some (.int .u8 x.1) ∧ cs[p + 1]? = some (.int .i64 x.2.1) ∧ cs[p + 2]? = some (.int .i64 x.2.2)
abbrev CaQ (W : AW) (v : Value) (l : List (Int × Int × Int)) : Prop := Row W 3 caQt v l
theorem len78 : ((#[78] : Array TypeId)[0]?).bind Try.prog.underlying = some (.slice 84) := by kernel_rfl
theorem CaQ.get {W : AW} {v : Value} {l : List (Int × Int × Int)} (h : CaQ W v l) {i : Nat} (hi : i < l.length) :
    ∃ b o, (∀ W' k, ixS 3 v (.int k (i : Int)) W' = some (.pointer (some ⟨b, o, none⟩), W')) ∧ ∀ W', Le W W' → ldA 3 (.pointer (some ⟨b, o, none⟩)) W' = some (caQ l[i], W') := by
  obtain ⟨b, o, cs, h1, h2, h3, h4, h5, h6⟩ := h.elem hi
  refine ⟨b, o, h1, fun W' hle => ?_⟩
  have hc : cellsAt W' b = some cs := by rw [hle.cellsAt h2]; exact h3
  have e3 : (cs.drop o).take 3 = [.int .u8 l[i].1, .int .i64 l[i].2.1, .int .i64 l[i].2.2] := by
    obtain ⟨a1, a2⟩ := List.getElem?_eq_some_iff.1 h4
    obtain ⟨b1, b2⟩ := List.getElem?_eq_some_iff.1 h5
    obtain ⟨c1, c2⟩ := List.getElem?_eq_some_iff.1 h6
    rw [List.drop_eq_getElem_cons a1, List.drop_eq_getElem_cons b1, List.drop_eq_getElem_cons c1, a2, b2, c2]
    rfl
  have := ldA_ok (n := 3) (o := o) hc (by rw [e3]; rfl)
  rw [e3] at this
  exact this
section
variable {In : Nat → Prop} {rb : Nat} {V V' : AW} {q mh : Nat} {k nx : Int} {n : Nat} {f : Nat → En} {iv : Value} {L : List (Int × Int)}
theorem Srt.is (J : JQ In rb V q mh k nx n f iv L) {l : List (Int × Int)} (h : Srt (KS k) n f l) : l = L :=
  sort_uniq (h.perm.trans J.perm.symm) h.sort J.sort (J.qs.diff h.perm)
/-- at the end: what is saved, what is walked -/
theorem endBoth (J : JQ In rb V q mh k nx n f iv L) (hn : n ≤ 5000) : ∃ V1 sv V2 V3 V4 wv, omS (.func (.func 27) #[] #[]) [qV q] V = some (sV nx sv, V1) ∧ oAlloc Try.prog 60 V1 = some (bq V1.next, V2) ∧ stV 2 (bq V1.next) (sV nx sv) V2 = some (undef, V3) ∧ ldC (.pointer (some ⟨V1.next, 0, none⟩)) V3 = some (.int .i64 nx, V3) ∧ ldC (.pointer (some ⟨V1.next, 1, none⟩)) V3 = some (sv, V3) ∧
    ldC (.pointer (some ⟨rb, 0, none⟩)) V3 = some (.int .i64 nx, V3) ∧ ldC (.pointer (some ⟨rb, 1, none⟩)) V3 = some (iv, V3) ∧ omS (.func (.func 28) #[] #[]) [sv, iv] V3 = some (.bool true, V3) ∧ omS (.func (.func 30) #[] #[]) [qV q] V3 = some (wv, V4) ∧ ldC (.pointer (some ⟨rb, 1, none⟩)) V4 = some (iv, V4) ∧ omS (.func (.func 28) #[] #[]) [wv, iv] V4 = some (.bool true, V4) ∧ Le V V4 := by
  have o := byK_ord (kfOf k)
  have hlk := isLess1_of k
  have hlz : ∀ D, liesD D (lsV k) := lz_of _
  have hL : L.length ≤ 10000 := by rw [J.len]; omega
  have hr := J.rl
  obtain ⟨V1, sv, l, s1, s2, s3, s4⟩ := save_ok o hlk hlz J.qs (by omega)
  obtain rfl := Srt.is J s4
  have n1 := s2.next
  have hsl : isSl sv := s3.el.isSl
  obtain ⟨V2, a1, a2, a3, a4⟩ := nw60 V1
  have st := st60 (n := nx) a4 hsl
  generalize hV3 : V2.put V1.next (.cells [.int .i64 nx, sv]) = V3 at st
  have x3 : V3.get V1.next = some (.cells [.int .i64 nx, sv]) := by rw [← hV3]; exact AW.get_put _ _ _
  have l13 : Le V1 V3 := by rw [← hV3]; exact a2.put (Nat.le_refl _) _
  have l3 := s2.trans l13
  have n3 := l13.next
  have y3 : V3.get rb = some (.cells [.int .i64 nx, iv]) := by rw [l3.get _ hr]; exact J.sb
  have it3 : Items V3 iv l := its (J.row V3 ⟨l3.next, fun b hb _ => l3.get b hb⟩)
  have q3 : QS V3 In q mh (lsV k) (KS k) nx n f := J.qs.keep l3.next (fun b hb _ => l3.get b hb) fun b _ hi => hi
  obtain ⟨V4, wv, l', w1, w2, w3, w4⟩ := walked_ok o hlk hlz q3 hn
  have e' := Srt.is J w4
  subst e'
  have y4 : V4.get rb = some (.cells [.int .i64 nx, iv]) := by rw [w2.get _ (by omega)]; exact y3
  refine ⟨V1, sv, V2, V3, V4, wv, s1, a1, st, ld60a x3, ld60b x3, ld60a y3, ld60b y3, ?_, w1, ld60b y4, ?_, l3.trans w2⟩
  · rw [Same_ok ((Lst.items (s3.mono l13))) it3 hL, decide_eq_true rfl]
  · rw [Same_ok (Lst.items w3) (it3.mono w2) hL, decide_eq_true rfl]
end
theorem L2_eq : law06_HeapsPlays_L2 = law06_HeapsPlays_L1 := rfl
theorem plays_L {W : AW} {lv : Value} {l : List (Int × Int × Int)} {rb q mh : Nat} {k : Int} {V : AW} {R : PlanTab.Fr} {In : Nat → Prop} {nx : Int} {n : Nat} {f : Nat → En} {iv : Value} {L : List (Int × Int)} (hl : CaQ W lv l) (hlen : l.length ≤ 100) (J : JQ In rb V q mh k nx n f iv L) (hn : n ≤ 100) (hin : ∀ b, InB In rb b → W.next ≤ b) (lW : Le W V)
    (r0 : R 0 = .int .u8 k) (r2 : R 2 = lv) (r7 : R 7 = qV q) (r8 : R 8 = bq rb) (r11 : R 11 = .int .i64 0) {ρ : Type} {KK : LT → Option ρ} {G : ρ → Prop}
    (after : ∀ (R' : PlanTab.Fr) (V' : AW) (In' : Nat → Prop) (nx' : Int) (n' : Nat) (f' : Nat → En) (iv' : Value) (L' : List (Int × Int)), R' 7 = qV q → R' 8 = bq rb → JQ In' rb V' q mh k nx' n' f' iv' L' → n' ≤ 200 → Le W V' → Ok (KK (.exit 0, R', V')) G) : Ok (bnd (loopO (law06_HeapsPlays_L1 omS) R V) KK) G := by
  refine Ok_loop l.length (by omega) (fun j R' V' => ∃ (In' : Nat → Prop) (nx' : Int) (n' : Nat) (f' : Nat → En) (iv' : Value) (L' : List (Int × Int)), R' 0 = .int .u8 k ∧ R' 2 = lv ∧ R' 7 = qV q ∧ R' 8 = bq rb ∧ R' 11 = .int .i64 (j : Int) ∧ JQ In' rb V' q mh k nx' n' f' iv' L' ∧ n' ≤ 100 + j ∧ Le W V' ∧ ∀ b, In' b → In b)
    (fun r => r.1 = .exit 0 ∧ ∃ (In' : Nat → Prop) (nx' : Int) (n' : Nat) (f' : Nat → En) (iv' : Value) (L' : List (Int × Int)), r.2.1 7 = qV q ∧ r.2.1 8 = bq rb ∧ JQ In' rb r.2.2 q mh k nx' n' f' iv' L' ∧ n' ≤ 200 ∧ Le W r.2.2)
    ⟨In, nx, n, f, iv, L, r0, r2, r7, r8, r11, J, by omega, lW, fun b h => h⟩ ?_ ?_ ?_
  · rintro j R' V' hj ⟨In', nx', n', f', iv', L', q0, q2, q7, q8, q11, J', hn', lV, sub⟩
    unfold law06_HeapsPlays_L1
    have hV := hl.mono lV
    obtain ⟨b, o, i1, i2⟩ := CaQ.get hl hj
    have t1 : ((j : Int) < (l.length : Int)) := by omega
    have t2 := fun W' => oBin_add (P := Try.prog) (W := W') (t := 3) (c := false) (d := true) (a := (j : Int)) (b := 1) (by omega) (by omega)
    obtain ⟨V2, p1, In2, nx2, n2, f2, iv2, L2, J2, b1, g2, sub2⟩ := do_ok J' (by omega) l[j]
    simp only [SX, q0, q2, q7, q8, q11, hV.len len78, t1, decide_true, i1, i2 _ lV, p1, t2, Ok_some]
    refine .inl ⟨trivial, In2, nx2, n2, f2, iv2, L2, q0, q2, q7, q8, by rw [show ((j + 1 : Nat) : Int) = (j : Int) + 1 by omega]; rfl, J2, by omega, ⟨by have := g2.next; have := lV.next; omega, fun b hb => ?_⟩, fun b h => sub b (sub2 b h)⟩
    rw [g2.get b (by have := lV.next; omega) (fun h => ?_), lV.get b hb]
    have := hin b (h.elim (fun h => .inl (sub b h)) .inr)
    omega
  · rintro R' V' ⟨In', nx', n', f', iv', L', q0, q2, q7, q8, q11, J', hn', lV, sub⟩
    unfold law06_HeapsPlays_L1
    have t1 : ¬ ((l.length : Int) < (l.length : Int)) := by omega
    simp only [SX, q2, q11, (hl.mono lV).len len78, t1, decide_false, Ok_some]
    exact ⟨by simp, trivial, In', nx', n', f', iv', L', q7, q8, J', by omega, lV⟩
  · rintro ⟨x, R', V'⟩ ⟨hx, In', nx', n', f', iv', L', q7, q8, J', hn', lV⟩
    simp only at hx q7 q8 J' lV
    subst hx
    exact after R' V' In' nx' n' f' iv' L' q7 q8 J' hn' lV
theorem chk_sort {k nx : Int} {l : List (Int × Int)} (h : chk (KS k) nx l = 0) : SortB k l := by
  have o := ordP (byK_ord (kfOf k))
  have hf : ¬ formR (KS k) l := fun hf => by
    unfold chk at h
    by_cases a : nx < 1 ∨ 1000000000000000 < nx
    · rw [if_pos a] at h; omega
    rw [if_neg a] at h
    by_cases b : badR nx l
    · rw [if_pos b] at h; omega
    rw [if_neg b] at h
    by_cases c : twiceR l l.length
    · rw [if_pos c] at h; omega
    rw [if_neg c, if_pos hf] at h
    omega
  have step : ∀ i (hi : i + 1 < l.length), befP (KS k) l[i] l[i + 1] = true := fun i hi => by
    cases hb : befP (KS k) l[i] l[i + 1]
    · exact absurd ⟨i, hi, hb⟩ hf
    · rfl
  have far : ∀ d i (hi : i + d + 1 < l.length), befP (KS k) l[i] l[i + d + 1] = true := by
    intro d
    induction d with
    | zero => exact fun i hi => step i hi
    | succ d ih => exact fun i hi => bef_trans o (ih i (by omega)) (step (i + d + 1) (by omega))
  show List.Pairwise _ l
  rw [List.pairwise_iff_getElem]
  intro i j hi hj hij
  have := far (j - i - 1) i (by omega)
  have e : i + (j - i - 1) + 1 = j := by omega
  simp only [e] at this
  exact o.asym _ _ this
theorem hvs_is {f : Nat → En} {l : List (Int × Int)} (h : ∀ i (hi : i < l.length), hv (f i) = l[i]) : hvs l.length f = l := by
  refine List.ext_getElem (hvs_len _ _) fun i h1 h2 => ?_
  have : (hvs l.length f)[i] = hv (f i) := by simp [hvs, all]
  rw [this, h i h2]
theorem hplays_ok {lv iv : Value} {l : List (Int × Int × Int)} {L : List (Int × Int)} {k nx : Int} {W : AW} (hl : CaQ W lv l) (hrow : RQ 0 W iv L) : omS (.func (.func 8) #[] #[]) [.int .u8 k, sV nx iv, lv] W = some (.bool true, W) := by
  refine om_drop rfl ?_ law06_HeapsPlays_om
  unfold law06_HeapsPlays
  rw [L2_eq]
  obtain ⟨V1, b1, l1, n1, x1⟩ := bx60 nx iv W
  have hit1 := its (hrow.mono l1)
  have hl1 := hl.mono l1
  by_cases c1 : 100 < L.length
  · have e1 : (100 : Int) < (L.length : Int) := by omega
    simp only [SX, b1, Nat.zero_add, ld60b x1, hit1.len len58, e1, decide_true, awake_ok, Ok_some]
    exact ⟨trivial, l1⟩
  have e1 : ¬ (100 : Int) < (L.length : Int) := by omega
  by_cases c2 : 100 < l.length
  · have e2 : (100 : Int) < (l.length : Int) := by omega
    simp only [SX, b1, Nat.zero_add, ld60b x1, hit1.len len58, e1, hl1.len len78, e2, decide_true, decide_false, awake_ok, Ok_some]
    exact ⟨trivial, l1⟩
  have e2 : ¬ (100 : Int) < (l.length : Int) := by omega
  have o := byK_ord (kfOf k)
  obtain ⟨V2, q, mh, p1, p2, p3⟩ := new_ok (W := V1) (In := fun b => V1.next ≤ b) (fun b hb => hb) (lsN k) (KS k) (fun _ => ⟨0, 0, 0⟩)
  have nV2 := p3.next
  have l2 : Le V1 V2 := ⟨nV2, fun b hb => p3.get b hb (by omega)⟩
  obtain ⟨V3, a1, a2, a3, a4⟩ := nw60 V2
  have st := st60 (n := 1) a4 (.inr ⟨0, 0, rfl⟩)
  generalize hV4 : V3.put V2.next (.cells [.int .i64 1, .slice none 0 0]) = V4 at st
  have y4 : V4.get V2.next = some (.cells [.int .i64 1, .slice none 0 0]) := by rw [← hV4]; exact AW.get_put _ _ _
  have l24 : Le V2 V4 := by rw [← hV4]; exact a2.put (Nat.le_refl _) _
  have n4 : V4.next = V2.next + 1 := by rw [← hV4, AW.put_next, a3]
  have l14 := l2.trans l24
  have lW4 := l1.trans l14
  have x4 : V4.get W.next = some (.cells [.int .i64 nx, iv]) := by rw [l14.get _ (by omega)]; exact x1
  have hit4 := its (hrow.mono lW4)
  have fin : ∀ {In' : Nat → Prop} {rb : Nat} {V : AW} {q' mh' : Nat} {nx' : Int} {n' : Nat} {f' : Nat → En} {iv' : Value} {L' : List (Int × Int)}, JQ In' rb V q' mh' k nx' n' f' iv' L' → n' ≤ 200 → _ := fun J hn => endBoth J (by omega)
  by_cases c3 : nx = 0 ∧ L.length = 0
  · -- a new queue
    have e3 : decide (nx = 0) = true := decide_eq_true c3.1
    have e4 : ¬ (0 : Int) < (L.length : Int) := by omega
    have J : JQ (fun b => V1.next ≤ b ∧ b < V2.next ∨ V4.next ≤ b) V2.next V4 q mh k 1 0 (fun _ => ⟨0, 0, 0⟩) (.slice none 0 0) [] :=
      ⟨p2.keep l24.next (fun b hb _ => l24.get b hb) (fun b h1 h2 => .inl ⟨h2, h1⟩), fun b hb => .inr hb, y4, fun h => by omega, fun V' _ => .inl (EL.nil _ _ _ _), .refl _, List.Pairwise.nil⟩
    simp only [SX, b1, Nat.zero_add, ld60b x1, hit1.len len58, e1, hl1.len len78, e2, decide_false, order_ok, p1, rNewQ_ok, a1, st, ld60a x4, e3, ld60b x4, hit4.len len58, e4, pEq]
    refine plays_L hl (by omega) J (by omega) (fun b h => ?_) lW4 ?_ ?_ ?_ ?_ ?_ ?_
    · have := l1.next
      rcases h with h | h <;> omega
    · rfl
    · rfl
    · rfl
    · rfl
    · rfl
    intro R V In' nx' n' f' iv' L' r7 r8 J' hn' lV
    obtain ⟨U1, sv, U2, U3, U4, wv, s1, s2, s3, s4, s5, s6, s7, s8, s9, s10, s11, s12⟩ := endBoth J' (by omega)
    have en : decide (nx' = nx') = true := decide_eq_true rfl
    simp only [SX, r7, r8, s1, s2, s3, Nat.zero_add, s4, s5, s6, s7, en, s8, s9, s10, agV_some, J'.isSl.vsame, Bool.and_self, s11, awake_ok, Ok_some]
    exact ⟨trivial, lV.trans s12⟩
  have c3' : (decide (nx = 0) = false) ∨ (decide (nx = 0) = true ∧ (0 : Int) < (L.length : Int)) := by
    by_cases a : nx = 0
    · exact .inr ⟨decide_eq_true a, by omega⟩
    · exact .inl (decide_eq_false a)
  have hls := isLess_of k
  have hsl := hrow.isSl
  have hchk : ∀ U : AW, Le W U → omS (.func (.func 40) #[] #[]) [.int .u8 k, sV nx iv] U = some (.int .i64 (chk (KS k) nx L), U) := fun U hU => rCheck_ok (its (hrow.mono hU)) (by omega)
  have hvs' := vs_sV (n := nx) hsl
  by_cases c4 : chk (KS k) nx L = 0
  · obtain ⟨V5, q', mh', f', d1, d2, d3, d4⟩ := load_ok (W := V4) (nx := nx) o hls hit4 hsl (by omega) c4
    have n5 := d2.next
    have lW5 := lW4.trans d2
    have x5 : V5.get W.next = some (.cells [.int .i64 nx, iv]) := by rw [d2.get _ (by have := l14.next; omega)]; exact x4
    have y5 : V5.get V2.next = some (.cells [.int .i64 1, .slice none 0 0]) := by rw [d2.get _ (by omega)]; exact y4
    have st5 := st60 (n := nx) y5 hsl
    have J : JQ (fun b => V4.next ≤ b) V2.next (V5.put V2.next (.cells [.int .i64 nx, iv])) q' mh' k nx L.length f' iv L := by
      refine ⟨d3.keep (by rw [AW.put_next]; omega) (fun b hb hi => AW.get_put_ne _ _ (by have : V4.next ≤ b := hi; omega)) (fun b _ hi => hi), fun b hb => by rw [AW.put_next] at hb; show V4.next ≤ b; omega, AW.get_put _ _ _, fun h => by have : V4.next ≤ V2.next := h; omega, fun V' g => hrow.mono ⟨?_, fun b hb => ?_⟩, by rw [hvs_is d4], chk_sort c4⟩
      · have := g.next
        rw [AW.put_next] at this
        have := lW5.next
        omega
      · have h2 := l1.next
        have h3 := l2.next
        rw [g.get b (by rw [AW.put_next]; omega) (fun h => by rcases h with h | h <;> omega), AW.get_put_ne _ _ (by omega), lW5.get b hb]
    have e5 : decide (chk (KS k) nx L = 0) = true := decide_eq_true c4
    have d00 : decide ((0 : Int) = 0) = true := rfl
    have bt : ∀ W', oBin Try.prog .neq 4 false false (.bool false) (.bool false) W' = some (.bool false, W') := fun W' => oBin_bools_neq (by kernel_rfl)
    have hc5 := hchk V5 lW5
    rw [c4] at hc5
    have tail : ∀ R : PlanTab.Fr, ∀ V In' nx' n' f' iv' L', R 7 = qV q' → R 8 = bq V2.next → JQ In' V2.next V q' mh' k nx' n' f' iv' L' → n' ≤ 200 → Le W V → True := fun _ _ _ _ _ _ _ _ _ _ _ _ _ => trivial
    rcases c3' with e3 | ⟨e3, e4⟩
    · simp only [SX, b1, Nat.zero_add, ld60b x1, hit1.len len58, e1, hl1.len len78, e2, decide_false, order_ok, p1, rNewQ_ok, a1, st, ld60a x4, e3, ld60 x4, agV_some, hvs', Bool.and_self, d1, ld60 x5, hc5, d00, pEq, bt, st5]
      refine plays_L hl (by omega) J (by omega) (fun b h => ?_) (lW5.put (by have := l1.next; have := l2.next; omega) _) ?_ ?_ ?_ ?_ ?_ ?_
      · have := l1.next
        have := l2.next
        rcases h with h | h <;> omega
      · rfl
      · rfl
      · rfl
      · rfl
      · rfl
      intro R V In' nx' n' f' iv' L' r7 r8 J' hn' lV
      obtain ⟨U1, sv, U2, U3, U4, wv, s1, s2, s3, s4, s5, s6, s7, s8, s9, s10, s11, s12⟩ := endBoth J' (by omega)
      have en : decide (nx' = nx') = true := decide_eq_true rfl
      simp only [SX, r7, r8, s1, s2, s3, Nat.zero_add, s4, s5, s6, s7, en, s8, s9, s10, agV_some, J'.isSl.vsame, Bool.and_self, s11, awake_ok, Ok_some]
      exact ⟨trivial, lV.trans s12⟩
    · simp only [SX, b1, Nat.zero_add, ld60b x1, hit1.len len58, e1, hl1.len len78, e2, decide_false, order_ok, p1, rNewQ_ok, a1, st, ld60a x4, e3, ld60b x4, hit4.len len58, e4, decide_true, ld60 x4, agV_some, hvs', Bool.and_self, d1, ld60 x5, hc5, d00, pEq, bt, st5]
      refine plays_L hl (by omega) J (by omega) (fun b h => ?_) (lW5.put (by have := l1.next; have := l2.next; omega) _) ?_ ?_ ?_ ?_ ?_ ?_
      · have := l1.next
        have := l2.next
        rcases h with h | h <;> omega
      · rfl
      · rfl
      · rfl
      · rfl
      · rfl
      intro R V In' nx' n' f' iv' L' r7 r8 J' hn' lV
      obtain ⟨U1, sv, U2, U3, U4, wv, s1, s2, s3, s4, s5, s6, s7, s8, s9, s10, s11, s12⟩ := endBoth J' (by omega)
      have en : decide (nx' = nx') = true := decide_eq_true rfl
      simp only [SX, r7, r8, s1, s2, s3, Nat.zero_add, s4, s5, s6, s7, en, s8, s9, s10, agV_some, J'.isSl.vsame, Bool.and_self, s11, awake_ok, Ok_some]
      exact ⟨trivial, lV.trans s12⟩
  · have d1 := loadE_ok (W := V4) (nx := nx) o hls hit4 hsl (by omega) c4
    have hc4 := hchk V4 lW4
    have e5 : decide (chk (KS k) nx L = 0) = false := decide_eq_false c4
    have ecc : decide (chk (KS k) nx L = chk (KS k) nx L) = true := decide_eq_true rfl
    have np : ∀ V, oBin Try.prog .eql 24 false true (.pointer none) (.pointer none) V = some (.bool true, V) := fun V => by
      unfold oBin aBin aEql; simp only [u24]; rfl
    have bt : ∀ W', oBin Try.prog .neq 4 false false (.bool true) (.bool true) W' = some (.bool false, W') := fun W' => oBin_bools_neq (by kernel_rfl)
    rcases c3' with e3 | ⟨e3, e4⟩
    · simp only [SX, b1, Nat.zero_add, ld60b x1, hit1.len len58, e1, hl1.len len78, e2, decide_false, order_ok, p1, rNewQ_ok, a1, st, ld60a x4, e3, ld60 x4, agV_some, hvs', Bool.and_self, d1, hc4, e5, ecc, np, bt, awake_ok, Ok_some]
      exact ⟨trivial, lW4⟩
    · simp only [SX, b1, Nat.zero_add, ld60b x1, hit1.len len58, e1, hl1.len len78, e2, decide_false, order_ok, p1, rNewQ_ok, a1, st, ld60a x4, e3, ld60b x4, hit4.len len58, e4, decide_true, ld60 x4, agV_some, hvs', Bool.and_self, d1, hc4, e5, ecc, np, bt, awake_ok, Ok_some]
      exact ⟨trivial, lW4⟩
end Go.Proofs.Ytkpgmabebjmahaa
/- What HeapsPlays is handed, opened. -/
namespace Go.Proofs.Ytkpgmabebjmahaa
open Go Go.Eng Go.RowKit
set_option linter.unusedVariables false
set_option linter.unusedSimpArgs false
set_option maxRecDepth 100000
theorem ce84 : Try.prog.cellsOf 84 = 3 := by kernel_rfl
theorem list_of {α : Type} {f : α → List Value} : ∀ {l : List (List Value)}, (∀ c ∈ l, ∃ x, c = f x) → ∃ xs : List α, l = xs.map f
  | [], _ => ⟨[], rfl⟩
  | c :: l, h => by
    obtain ⟨x, rfl⟩ := h c (List.mem_cons_self ..)
    obtain ⟨xs, rfl⟩ := list_of (f := f) fun d hd => h d (List.mem_cons_of_mem _ hd)
    exact ⟨x :: xs, rfl⟩
theorem it_of {W : AW} {n : Nat} {c : List Value} (h : DR Try.prog W (n + 2) 65 c) : ∃ x : Int × Int, c = itC x := by
  obtain ⟨c1, c2, rfl, h1, h2⟩ := (h.struct Try.underlying65).cons
  obtain ⟨c3, c4, rfl, h3, h4⟩ := h2.cons
  obtain rfl := h4.nil
  obtain ⟨a, rfl⟩ := h1.int Try.underlying2
  obtain ⟨b, rfl⟩ := h3.int Try.underlying3
  exact ⟨(a, b), rfl⟩
theorem st_of {W : AW} {n : Nat} {c : List Value} (h : DR Try.prog W (n + 4) 60 c) : ∃ (nx : Int) (iv : Value) (L : List (Int × Int)), c = [.int .i64 nx, iv] ∧ RQ 0 W iv L := by
  obtain ⟨c1, c2, rfl, h1, h2⟩ := (h.struct Try.underlying60).cons
  obtain ⟨c3, c4, rfl, h3, h4⟩ := h2.cons
  obtain rfl := h4.nil
  obtain ⟨nx, rfl⟩ := h1.int Try.underlying2
  obtain ⟨a, len, cap, rfl, k1, k2, k3, k4⟩ := h3.sliceA Try.underlying58
  rcases k4 with rfl | ⟨b, l, rfl, e1, e2, e3, e4⟩
  · refine ⟨nx, _, [], rfl, .inr (.inr ⟨rfl, ?_⟩)⟩
    rcases k3 with rfl | ⟨b, rfl⟩
    · exact .inl ⟨cap, rfl⟩
    · exact .inr ⟨b, cap, rfl, k2⟩
  · obtain ⟨xs, rfl⟩ := list_of (f := itC) fun c hc => it_of (e4 c hc).2
    have hx : xs.length = len := by rw [← e3, List.length_map]
    by_cases h0 : xs = []
    · subst h0
      simp only [List.length_nil] at hx
      subst hx
      exact ⟨nx, _, [], rfl, .inr (.inr ⟨rfl, .inr ⟨b, cap, rfl, k2⟩⟩)⟩
    · refine ⟨nx, _, xs, rfl, .inr (.inl ⟨h0, b, cap, Nat.zero_le _, e1, by rw [hx], by omega, k2, ?_⟩)⟩
      rw [e2, List.flatMap_def]
theorem ca_ofQ {W : AW} {n : Nat} {c : List Value} (h : DR Try.prog W (n + 2) 84 c) : ∃ x : Int × Int × Int, ∀ pre post, caQt (pre ++ (c ++ post)) pre.length x := by
  obtain ⟨c1, c2, rfl, h1, h2⟩ := (h.struct Try.underlying84).cons
  obtain ⟨c3, c4, rfl, h3, h4⟩ := h2.cons
  obtain ⟨c5, c6, rfl, h5, h6⟩ := h4.cons
  obtain rfl := h6.nil
  obtain ⟨a, rfl⟩ := h1.int Try.underlying5
  obtain ⟨b, rfl⟩ := h3.int Try.underlying2
  obtain ⟨d, rfl⟩ := h5.int Try.underlying3
  refine ⟨⟨a, b, d⟩, fun pre post => ⟨?_, ?_, ?_⟩⟩
  · rw [List.getElem?_append_right (by omega)]; simp
  · rw [List.getElem?_append_right (by omega), Nat.add_sub_cancel_left]; rfl
  · rw [List.getElem?_append_right (by omega), Nat.add_sub_cancel_left]; rfl
theorem sim78 : simT Try.prog 5 78 = true := by kernel_rfl
theorem sim60 : simT Try.prog 6 60 = true := by kernel_rfl
section
variable {H : Type} {enc : TypeId × Value → H} {w : World} {σ : Inj} {W : AW} {v0 : Value} {d : DataW H} {p : List MemPlace} {r : Reach} {b0 : Nat}
theorem openCaQ (ho : Opened σ W w) (hv : Value.okWide Try.prog w r b0 78 v0) (h : DataW.Trod enc Try.prog w 0 (fun _ => true) true 78 v0 d p) :
    ∃ (σ2 : Inj) (W2 : AW) (l : List (Int × Int × Int)) (u : Value), Opened σ2 W2 w ∧ Sub σ σ2 ∧ Le W W2 ∧ VR σ2 u v0 ∧ CaQ W2 u l := by
  obtain ⟨a, n, c, rfl⟩ := slice_of Try.underlying78 hv
  obtain ⟨m, hm⟩ := h
  obtain ⟨σ2, W2, cs2, o2, s2, l2, r2, a2⟩ := opens_trod sim78 hm σ W ho
  obtain ⟨u, l, rfl, hr⟩ := a2.row Try.underlying78 (at_ := caQt) (fun c _ hc => ca_ofQ hc)
  have hvr : VR σ2 u (.slice a n c) := r2.2 0 _ _ rfl rfl
  rw [ce84] at hr
  exact ⟨σ2, W2, l, u, o2, s2, l2, hvr, hr.1⟩
theorem openState (ho : Opened σ W w) (hv : Value.okWide Try.prog w r b0 60 v0) (h : DataW.Trod enc Try.prog w 0 (fun _ => true) true 60 v0 d p) :
    ∃ (σ2 : Inj) (W2 : AW) (nx : Int) (iv : Value) (L : List (Int × Int)), Opened σ2 W2 w ∧ Sub σ σ2 ∧ Le W W2 ∧ VR σ2 (sV nx iv) v0 ∧ RQ 0 W2 iv L := by
  obtain ⟨cs, rfl⟩ : ∃ cs, v0 = .agg cs := by
    unfold Value.okWide at hv
    rw [Try.underlying60] at hv
    obtain ⟨cs, h, _⟩ := hv
    exact ⟨cs, h⟩
  obtain ⟨m, hm⟩ := h
  obtain ⟨σ2, W2, cs2, o2, s2, l2, r2, a2⟩ := opens_trod sim60 hm σ W ho
  obtain ⟨nx, iv, L, rfl, hs⟩ := st_of a2
  exact ⟨σ2, W2, nx, iv, L, o2, s2, l2, .agg' (a := #[.int .i64 nx, iv]) r2, hs⟩
theorem liftQ {W W' : AW} {v : Value} {l : List (Int × Int)} (s : Le W W') (h : RQ 0 W v l) : RQ 0 W' v l := h.mono s
end
end Go.Proofs.Ytkpgmabebjmahaa
