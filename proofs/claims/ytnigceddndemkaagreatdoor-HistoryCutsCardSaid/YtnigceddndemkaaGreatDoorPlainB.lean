/- Contracts of functions, and their laws. -/
import Derived.Test.YtnigceddndemkaaGreatDoorPlainA
import Derived.Test.YtnigceddndemkaaGreatDoorSDec
import Derived.Test.YtnigceddndemkaaGreatDoorOpnA
import Derived.KernelRfl
namespace Go.Proofs.YtnigceddndemkaaGreatDoor
open Go Go.Eng
set_option linter.unusedVariables false
set_option linter.unusedSimpArgs false
set_option linter.unusedSectionVars false
set_option maxRecDepth 100000
theorem vs_none (l c : Nat) : vs1 (.slice none l c) (.slice none l c) = true := by simp [vs1]
def SecAt2 (W : AW) (cs : List Value) (p : Nat) (s : Sec) : Prop := SecAt W cs p s ∧ ∀ rv, cs[p + 1]? = some rv → vs1 rv rv = true ∧ Eng.one rv = true
abbrev Secs2 (W : AW) (v : Value) (l : List Sec) : Prop := Row W 3 (SecAt2 W) v l
theorem Secs2.mono {W W' : AW} {v : Value} {l : List Sec} (h : Secs2 W v l) (hle : Le W W') : Secs2 W' v l :=
  Row.imp h hle fun cs p s ⟨⟨h1, h2, rv, h3, h4⟩, h5⟩ => ⟨⟨h1, h2, rv, h3, h4.mono hle⟩, h5⟩
theorem Secs2.secs {W : AW} {v : Value} {l : List Sec} (h : Secs2 W v l) : Secs W v l := Row.imp h (Le.refl _) fun cs p s h => h.1
theorem Secs2.get {W : AW} {v : Value} {l : List Sec} (h : Secs2 W v l) {i : Nat} (hi : i < l.length) : ∃ b o rv, (∀ W' k, ixS 3 v (.int k (i : Int)) W' = some (.pointer (some ⟨b, o, none⟩), W')) ∧ Ints W rv l[i].rows ∧
    (∀ W', Le W W' → ldA 3 (.pointer (some ⟨b, o, none⟩)) W' = some (secV l[i] rv, W')) ∧ vs1 rv rv = true ∧ Eng.one rv = true := by
  obtain ⟨b, o, cs, h1, h2, h3, ⟨h4, h5, rv, h6, h7⟩, h8⟩ := h.elem hi
  refine ⟨b, o, rv, h1, h7, fun W' hle => ?_, h8 _ h6⟩
  rw [ldA_eq, hle.cellsAt h2, h3]
  simp only [Option.bind_some, take3 h4 h6 h5, List.length_cons, List.length_nil, if_true]
theorem Secs2.vs {W : AW} {v : Value} {l : List Sec} (h : Secs2 W v l) {i : Nat} (hi : i < l.length) : vsame v v = true := by
  obtain ⟨a, c, rfl, h⟩ := h
  rcases h with h | ⟨b, o, cs, rfl, -⟩
  · rw [h] at hi; simp at hi
  · exact vsame_slice _ _ _ _
theorem g121 : Tryz.prog.eqGuardType Tryz.prog.depth 121 = false := by kernel_rfl
theorem q121 (x y : EvT) : aEqS Tryz.prog 8 121 (evV x) (evV y) =
    eqThen (match some (x.ret == y.ret) with
      | some true => (match eqThen (match eqAll [(x.op.t1, y.op.t1), (x.op.t2, y.op.t2), (x.op.t3, y.op.t3), (x.op.t4, y.op.t4)] with | some true => eqAll [(x.op.nw, y.op.nw)] | some false => some false | none => none) [(x.op.k, y.op.k), (x.op.ow, y.op.ow), (x.op.un, y.op.un), (x.op.se, y.op.se), (x.op.sc, y.op.sc), (x.op.n, y.op.n), (x.op.to, y.op.to)] with
        | some true => (match eqThen (match eqAll [(x.rp.t1, y.rp.t1), (x.rp.t2, y.rp.t2), (x.rp.t3, y.rp.t3), (x.rp.t4, y.rp.t4)] with | some true => eqAll [(x.rp.pl, y.rp.pl)] | some false => some false | none => none) [(x.rp.er, y.rp.er), (x.rp.se, y.rp.se), (x.rp.n, y.rp.n), (x.rp.dl, y.rp.dl)] with
          | some true => some true
          | some false => some false
          | none => none)
        | some false => some false
        | none => none)
      | some false => some false
      | none => none) [(x.id, y.id), (x.th, y.th)] := by kernel_rfl
theorem neqEv_self (x : EvT) (c d : Bool) (W : AW) : oBin Tryz.prog .neq 121 c d (evV x) (evV x) W = some (.bool false, W) := by
  refine oBin_agg_neq g121 (r := true) ((q121 ..).trans ?_)
  simp only [eqAll_eq, eqThen_eq, List.all_cons, List.all_nil, beq_self_eq_true, Bool.and_true]
theorem ev_flat {cs : List Value} {o : Nat} {l : List EvT} (h : ∀ i (hi : i < l.length), flatAt 24 evC cs (o + i * 24) l[i]) : ∀ n, n ≤ l.length → (cs.drop o).take (n * 24) = (l.take n).flatMap evC
  | 0, _ => by simp
  | n + 1, hn => by
    have ih := ev_flat h n (by omega)
    have hx : ((cs.drop o).drop (n * 24)).take 24 = evC l[n] := by rw [List.drop_drop]; exact h n (by omega)
    rw [Nat.succ_mul, List.take_add, ih, hx, take_snoc' (by omega), List.flatMap_append]
    simp
theorem ev_rd {W : AW} {v : Value} {l : List EvT} (h : EvL W v l) : Rd W 24 evC v l := by
  obtain ⟨a, c, rfl, h⟩ := h
  refine ⟨a, c, rfl, ?_⟩
  rcases h with h | ⟨b, o, cs, h1, h2, h3, h4⟩
  · exact .inl h
  · exact .inr ⟨b, o, cs, h1, h2, h3, by have := ev_flat h4 l.length (Nat.le_refl _); rwa [List.take_length] at this⟩
theorem rd_ev {W : AW} {v : Value} {l : List EvT} (h : Rd W 24 evC v l) : EvL W v l := by
  obtain ⟨a, c, rfl, h⟩ := h
  refine ⟨a, c, rfl, ?_⟩
  rcases h with h | ⟨b, o, cs, h1, h2, h3, h4⟩
  · exact .inl h
  · refine .inr ⟨b, o, cs, h1, h2, h3, fun i hi => ?_⟩
    unfold flatAt
    have e0 : l.flatMap evC = (l.take i).flatMap evC ++ (evC l[i] ++ (l.drop (i + 1)).flatMap evC) := by
      rw [← List.flatMap_cons, ← List.drop_eq_getElem_cons hi, ← List.flatMap_append, List.take_append_drop]
    have e1 : ((l.take i).flatMap evC).length = i * 24 := by rw [flatMap_len evC_len, List.length_take, Nat.min_eq_left (by omega)]
    have e2 : (((cs.drop o).take (l.length * 24)).drop (i * 24)).take 24 = evC l[i] := by
      rw [h4, e0, ← e1, List.drop_left, ← evC_len l[i], List.take_left]
    rw [List.drop_take, List.drop_drop, List.take_take, Nat.min_eq_left (by omega)] at e2
    exact e2
theorem evNil (W : AW) (a : Option Addr) (c : Nat) : EvL W (.slice a 0 c) [] := ⟨a, c, rfl, .inl rfl⟩
theorem ap80 : appOk Tryz.prog #[80, 80] 24 176 = true := by kernel_rfl
theorem bs80_0 (W : AW) : oBuildSlice Tryz.prog 80 0 [] W = some (.slice (some ⟨W.next, 0, none⟩) 0 0, W.add (.cells [])) := Eq.trans (by kernel_rfl) rfl
theorem u80 : Tryz.prog.underlying 80 = some (.slice 121) := by kernel_rfl
theorem nil80 (c d : Bool) (l k : Nat) (W : AW) : oBin Tryz.prog .eql 80 c d (.slice none l k) (.slice none 0 0) W = some (.bool true, W) := by
  unfold oBin aBin aEql; simp only [u80]; rfl
theorem some80 (c d : Bool) (a : Addr) (l k : Nat) (W : AW) : oBin Tryz.prog .eql 80 c d (.slice (some a) l k) (.slice none 0 0) W = some (.bool false, W) := by
  unfold oBin aBin aEql; simp only [u80]
theorem app80 {W : AW} {v : Value} {l : List EvT} (h : EvL W v l) (hl : l.length ≤ 1000) : ∃ u W', aAppend Tryz.prog (W.add (.cells [])) #[80, 80] (.slice (some ⟨W.next, 0, none⟩) 0 0) v = some (u, W') ∧ Le W W' ∧ EL W.next W' 24 evC u l := by
  have hE : EL W.next (W.add (.cells [])) 24 evC (.slice (some ⟨W.next, 0, none⟩) 0 0) [] := EL.nil' _ _ _ _ _
  obtain ⟨u, W', k1, k2, k3, k4⟩ := hE.app ap80 evC_len evC_one ((ev_rd h).keep ((Le.refl W).add (.cells []))) (by simp; omega) (by simp; omega) (by rw [AW.add_next]; omega)
  rw [List.nil_append] at k2
  exact ⟨u, W', k1, ⟨by rw [AW.add_next] at k3; omega, fun b hb => (k4 b hb).trans (AW.get_add_ne _ _ (by omega))⟩, k2⟩
theorem el_ev {lo : Nat} {W : AW} {v : Value} {l : List EvT} (h : EL lo W 24 evC v l) : EvL W v l := h.row evC_len (flatAt_in evC_len)
theorem clone_ok {W : AW} {v : Value} {l : List EvT} (h : EvL W v l) (hl : l.length ≤ 1000) : ∃ u W', omS (.func (.func 114) #[] #[]) [v] W = some (u, W') ∧ Le W W' ∧ EvL W' u l := by
  refine om_row ?_ slices_Cloneapi_HiEventapi_HiEvent_om
  unfold slices_Cloneapi_HiEventapi_HiEvent
  obtain ⟨a, c, rfl, hv⟩ := id h
  cases a with
  | none =>
    have h0 : l = [] := by
      rcases hv with hv | ⟨b, o, cs, e, -⟩
      · exact hv
      · cases e
    subst h0
    simp only [SX, nil80, Ok_some]
    exact ⟨Le.refl _, evNil _ _ _⟩
  | some a =>
    obtain ⟨u, W', k1, k2, k3⟩ := app80 h hl
    simp only [SX, some80, bs80_0, k1, Ok_some]
    exact ⟨k2, el_ev k3⟩
theorem al130 (W : AW) : oAlloc Tryz.prog 130 W = some (.pointer (some ⟨W.next, 0, none⟩), W.add (.cells [.string ⟨#[]⟩, .slice none 0 0, .int .i64 0])) := Eq.trans (by kernel_rfl) rfl
theorem venBox5 (v : Ven) (sv : Value) (W : AW) : oBox (venV v sv) W = some (.pointer (some ⟨W.next, 0, none⟩), W.add (.cells [.int .i64 v.sh, .int .i64 v.ttl, .int .i64 v.ses, sv])) := oBox_agg _
theorem venSame_ok {W : AW} {v : Ven} {sv : Value} (h : Secs2 W sv v.secs) (hl : v.secs.length < 1000) (hr : ∀ s ∈ v.secs, s.rows.length < 1000) : omS (.func (.func 115) #[] #[]) [venV v sv, venV v sv] W = some (.bool true, W) := by
  refine om_drop rfl ?_ ref15_Same_om
  unfold ref15_Same
  obtain ⟨W2, hW2⟩ : ∃ W2, W2 = (W.add (.cells [.int .i64 v.sh, .int .i64 v.ttl, .int .i64 v.ses, sv])).add (.cells [.int .i64 v.sh, .int .i64 v.ttl, .int .i64 v.ses, sv]) := ⟨_, rfl⟩
  have hle : Le W W2 := by rw [hW2]; exact ((Le.refl _).add _).add _
  have g1 : W2.get W.next = some (.cells [.int .i64 v.sh, .int .i64 v.ttl, .int .i64 v.ses, sv]) := by rw [hW2, AW.get_add_ne _ _ (by rw [AW.add_next]; omega), AW.get_add]
  have g2 : W2.get (W.next + 1) = some (.cells [.int .i64 v.sh, .int .i64 v.ttl, .int .i64 v.ses, sv]) := by rw [hW2, ← AW.add_next W (.cells [.int .i64 v.sh, .int .i64 v.ttl, .int .i64 v.ses, sv]), AW.get_add]
  have n2 : W2.next = W.next + 2 := by rw [hW2, AW.add_next, AW.add_next]
  simp only [SX, venBox5, AW.add_next, Nat.zero_add]
  rw [← hW2]
  clear hW2
  have a0 : ldC (.pointer (some ⟨W.next, 0, none⟩)) W2 = some (.int .i64 v.sh, W2) := ldR g1 rfl
  have a1 : ldC (.pointer (some ⟨W.next, 1, none⟩)) W2 = some (.int .i64 v.ttl, W2) := ldR g1 rfl
  have a2 : ldC (.pointer (some ⟨W.next, 2, none⟩)) W2 = some (.int .i64 v.ses, W2) := ldR g1 rfl
  have a3 : ∀ {V : AW}, Le W2 V → ldC (.pointer (some ⟨W.next, 3, none⟩)) V = some (sv, V) := fun {V} hv => ldR ((hv.get _ (by omega)).trans g1) rfl
  have b0 : ldC (.pointer (some ⟨W.next + 1, 0, none⟩)) W2 = some (.int .i64 v.sh, W2) := ldR g2 rfl
  have b1 : ldC (.pointer (some ⟨W.next + 1, 1, none⟩)) W2 = some (.int .i64 v.ttl, W2) := ldR g2 rfl
  have b2 : ldC (.pointer (some ⟨W.next + 1, 2, none⟩)) W2 = some (.int .i64 v.ses, W2) := ldR g2 rfl
  have b3 : ∀ {V : AW}, Le W2 V → ldC (.pointer (some ⟨W.next + 1, 3, none⟩)) V = some (sv, V) := fun {V} hv => ldR ((hv.get _ (by omega)).trans g2) rfl
  have q0 : decide (v.sh = v.sh) = true := decide_eq_true rfl
  have q1 : decide (v.ttl = v.ttl) = true := decide_eq_true rfl
  have q2 : decide (v.ses = v.ses) = true := decide_eq_true rfl
  have q3 : decide ((v.secs.length : Int) = (v.secs.length : Int)) = true := decide_eq_true rfl
  have h2 := h.mono hle
  simp only [SX, a0, a1, a2, a3 (Le.refl _), b0, b1, b2, b3 (Le.refl _), q0, q1, q2, q3, Bool.not_true, h2.secs.len lenS]
  refine Ok_loop v.secs.length (by omega) (fun i R V => Le W2 V ∧ R 2 = .pointer (some ⟨W.next, 0, none⟩) ∧ R 3 = .pointer (some ⟨W.next + 1, 0, none⟩) ∧ R 5 = .int .i64 (i : Int)) (fun r => r.1 = .exit 0 ∧ Le W2 r.2.2) ⟨Le.refl _, rfl, rfl, rfl⟩ ?_ ?_ ?_
  · rintro i R V hi ⟨g, r2, r3, r5⟩
    unfold ref15_Same_L1
    have t1 : ((i : Int) < (v.secs.length : Int)) := by omega
    have t2 := fun W' => oBin_add (P := Tryz.prog) (W := W') (t := 3) (c := false) (d := true) (a := (i : Int)) (b := 1) (by omega) (by omega)
    have e3 : ((i + 1 : Nat) : Int) = (i : Int) + 1 := by omega
    have hV := h2.mono g
    have hvs := hV.vs hi
    obtain ⟨b, o, rv, i1, i2, i3, hvr, hone⟩ := Secs2.get hV hi
    have hrl := hr _ (List.getElem_mem hi)
    generalize v.secs[i] = s at i2 i3 hrl
    have hsame : vsame (secV s rv) (secV s rv) = true := vsame_agg (by simp [vsL, hvr, vs1_string, vs1_int])
    obtain ⟨U, hU⟩ : ∃ U, U = (V.add (.cells [.string (bytesL s.name), rv, .int .i64 s.q])).add (.cells [.string ⟨#[]⟩, .slice none 0 0, .int .i64 0]) := ⟨_, rfl⟩
    have sa1 : stV 3 (.pointer (some ⟨V.next, 0, none⟩)) (secV s rv) ((V.add (.cells [.string ⟨#[]⟩, .slice none 0 0, .int .i64 0])).add (.cells [.string ⟨#[]⟩, .slice none 0 0, .int .i64 0])) = some (undef, ((V.add (.cells [.string ⟨#[]⟩, .slice none 0 0, .int .i64 0])).add (.cells [.string ⟨#[]⟩, .slice none 0 0, .int .i64 0])).put V.next (.cells [.string (bytesL s.name), rv, .int .i64 s.q])) :=
      stAll (by rw [AW.get_add_ne _ _ (by rw [AW.add_next]; omega), AW.get_add]) rfl rfl (by simp [hone, one_string, one_int])
    obtain ⟨V1, hV1⟩ : ∃ V1, V1 = ((V.add (.cells [.string ⟨#[]⟩, .slice none 0 0, .int .i64 0])).add (.cells [.string ⟨#[]⟩, .slice none 0 0, .int .i64 0])).put V.next (.cells [.string (bytesL s.name), rv, .int .i64 s.q]) := ⟨_, rfl⟩
    rw [← hV1] at sa1
    have l1 : Le V V1 := by rw [hV1]; exact (((Le.refl _).add _).add _).put (Nat.le_refl _) _
    have n1 : V1.next = V.next + 2 := by rw [hV1, AW.put_next, AW.add_next, AW.add_next]
    have x1 : V1.get V.next = some (.cells [.string (bytesL s.name), rv, .int .i64 s.q]) := by rw [hV1, AW.get_put]
    have x2 : V1.get (V.next + 1) = some (.cells [.string ⟨#[]⟩, .slice none 0 0, .int .i64 0]) := by
      rw [hV1, AW.get_put_ne _ _ (by omega), ← AW.add_next V (.cells [.string ⟨#[]⟩, .slice none 0 0, .int .i64 0]), AW.get_add]
    have sa2 : stV 3 (.pointer (some ⟨V.next + 1, 0, none⟩)) (secV s rv) V1 = some (undef, V1.put (V.next + 1) (.cells [.string (bytesL s.name), rv, .int .i64 s.q])) := stAll x2 rfl rfl (by simp [hone, one_string, one_int])
    obtain ⟨V2, hV2⟩ : ∃ V2, V2 = V1.put (V.next + 1) (.cells [.string (bytesL s.name), rv, .int .i64 s.q]) := ⟨_, rfl⟩
    rw [← hV2] at sa2
    have l2 : Le V V2 := by rw [hV2]; exact l1.put (by omega) _
    have z1 : V2.get V.next = some (.cells [.string (bytesL s.name), rv, .int .i64 s.q]) := by rw [hV2, AW.get_put_ne _ _ (by omega)]; exact x1
    have z2 : V2.get (V.next + 1) = some (.cells [.string (bytesL s.name), rv, .int .i64 s.q]) := by rw [hV2, AW.get_put]
    clear hV1 hV2
    have w0 : ldC (.pointer (some ⟨V.next, 0, none⟩)) V2 = some (.string (bytesL s.name), V2) := ldR z1 rfl
    have w1 : ldC (.pointer (some ⟨V.next, 1, none⟩)) V2 = some (rv, V2) := ldR z1 rfl
    have w2 : ldC (.pointer (some ⟨V.next, 2, none⟩)) V2 = some (.int .i64 s.q, V2) := ldR z1 rfl
    have y0 : ldC (.pointer (some ⟨V.next + 1, 0, none⟩)) V2 = some (.string (bytesL s.name), V2) := ldR z2 rfl
    have y1 : ldC (.pointer (some ⟨V.next + 1, 1, none⟩)) V2 = some (rv, V2) := ldR z2 rfl
    have y2 : ldC (.pointer (some ⟨V.next + 1, 2, none⟩)) V2 = some (.int .i64 s.q, V2) := ldR z2 rfl
    have hi2 := Ints_ok (i2.mono l2) (i2.mono l2) (by omega)
    rw [decide_eq_true rfl] at hi2
    have p0 : decide (s.q = s.q) = true := decide_eq_true rfl
    have sneq : ∀ (n : ByteArray) (c d : Bool) (W : AW), oBin Tryz.prog .neq 9 c d (.string n) (.string n) W = some (.bool false, W) := fun n c d W => by
      rw [oBin_strings_neq, beq_self_eq_true]; rfl
    simp only [SX, r2, r3, r5, Nat.zero_add, a3 g, b3 g, hV.secs.len lenS, t1, decide_true, i1, i3 _ (Le.refl _), al130, AW.add_next, sa1, i3 _ l1, agV_some, hsame, b3 (g.trans l1), hvs, Bool.and_true, sa2, w0, y0, sneq, w2, y2, p0, Bool.not_true, w1, y1, hi2, t2, Ok_some]
    exact .inl ⟨trivial, g.trans l2, r2, r3, by rw [e3]; rfl⟩
  · rintro R V ⟨g, r2, r3, r5⟩
    unfold ref15_Same_L1
    have t1 : ¬ ((v.secs.length : Int) < (v.secs.length : Int)) := by omega
    simp only [SX, r2, r5, Nat.zero_add, a3 g, (h2.mono g).secs.len lenS, t1, decide_false, Ok_some]
    exact ⟨by simp, trivial, g⟩
  · rintro ⟨q, R, V⟩ ⟨rfl, g⟩
    simp only [SX, Ok_some]
    exact ⟨trivial, hle.trans g⟩
structure HiK (W : AW) (v : Ven) (sv ev : Value) (l : List EvT) : Prop where
  secs : Secs2 W sv v.secs
  vs : vs1 sv sv = true
  one : Eng.one sv = true
  cap : ∃ a c, ev = .slice a l.length c ∧ l.length ≤ c ∧ c < BIG ∧ (a = none ∨ ∃ b o, a = some ⟨b, o, none⟩)
theorem HiK.mono {W W' : AW} {v : Ven} {sv ev : Value} {l : List EvT} (h : HiK W v sv ev l) (hle : Le W W') : HiK W' v sv ev l := ⟨h.secs.mono hle, h.vs, h.one, h.cap⟩
abbrev hiC (v : Ven) (sv ev : Value) : List Value := [.int .i64 v.sh, .int .i64 v.ttl, .int .i64 v.ses, sv, ev]
def ven0 : Ven := ⟨0, 0, 0, []⟩
abbrev nilV : Value := .slice none 0 0
theorem ev_scalar {W W' : AW} {u : Value} {l : List EvT} (h : EvL W' u l) (hs : scalar u = true) : EvL W u l := by
  obtain ⟨a, c, rfl, h⟩ := h
  cases a with
  | some a => simp [scalar] at hs
  | none =>
    rcases h with rfl | ⟨b, o, cs, e, -⟩
    · exact evNil _ _ _
    · cases e
theorem el_scalar {lo : Nat} {W W' : AW} {u : Value} {l : List EvT} (h : EL lo W' 24 evC u l) (hs : scalar u = true) : EL lo W 24 evC u l := by
  rcases h with ⟨rfl, rfl | ⟨B, rfl⟩⟩ | ⟨h0, B, c, i1, i2, rfl, hc, i4⟩
  · exact EL.nil _ _ _ _
  · simp [scalar] at hs
  · simp [scalar] at hs
theorem el_one {lo : Nat} {W : AW} {u : Value} {l : List EvT} (h : EL lo W 24 evC u l) : Eng.one u = true := by
  rcases h with ⟨rfl, rfl | ⟨B, rfl⟩⟩ | ⟨h0, B, c, i1, i2, rfl, hc, i4⟩ <;> rfl
theorem ev_one {W : AW} {u : Value} {l : List EvT} (h : EvL W u l) : Eng.one u = true := by
  obtain ⟨a, c, rfl, h⟩ := h
  rfl
theorem om_his {o t : Option (Value × AW)} {W : AW} {v : Ven} {sv : Value} {l : List EvT} {e : Int} (h : Ok t fun r => ∃ u, r.1 = .tuple #[hiV v sv u, .int .i64 e] ∧ Le W r.2 ∧ EvL r.2 u l) (hom : ∀ {r}, t = some r → o = some (gc W r)) :
    ∃ u W', o = some (.tuple #[hiV v sv u, .int .i64 e], W') ∧ Le W W' ∧ EvL W' u l := by
  obtain ⟨q, W', h1, u, rfl, h2, h3⟩ := om_q' (Q := fun q W' => ∃ u, q = .tuple #[hiV v sv u, .int .i64 e] ∧ Le W W' ∧ EvL W' u l) h hom (fun q W' ⟨u, e1, h2, h3⟩ hle hp => by
    subst e1
    exact ⟨u, rfl, Le.refl _, ev_scalar h3 (by simp [plain, plain1] at hp; exact hp.1.2.2.2.2)⟩)
  exact ⟨u, W', h1, h2, h3⟩
theorem om_hisE {o t : Option (Value × AW)} {W : AW} {v : Ven} {sv : Value} {l : List EvT} (h : Ok t fun r => ∃ u, r.1 = hiV v sv u ∧ Le W r.2 ∧ EL 0 r.2 24 evC u l) (hom : ∀ {r}, t = some r → o = some (gc W r)) :
    ∃ u W', o = some (hiV v sv u, W') ∧ Le W W' ∧ EL 0 W' 24 evC u l := by
  obtain ⟨q, W', h1, u, rfl, h2, h3⟩ := om_q' (Q := fun q W' => ∃ u, q = hiV v sv u ∧ Le W W' ∧ EL 0 W' 24 evC u l) h hom (fun q W' ⟨u, e1, h2, h3⟩ hle hp => by
    subst e1
    exact ⟨u, rfl, Le.refl _, el_scalar h3 (by simp [plain, plain1] at hp; exact hp.2.2.2.2)⟩)
  exact ⟨u, W', h1, h2, h3⟩
theorem hisSame_ok {W : AW} {v : Ven} {sv a b : Value} {l : List EvT} (h : Secs2 W sv v.secs) (hl : v.secs.length < 1000) (hr : ∀ s ∈ v.secs, s.rows.length < 1000) (ha : EvL W a l) (hb : EvL W b l) (hll : l.length ≤ 1000) : omS (.func (.func 58) #[] #[]) [hiV v sv a, hiV v sv b] W = some (.bool true, W) := by
  refine om_drop rfl ?_ ref24_Same_om
  unfold ref24_Same
  obtain ⟨W2, hW2⟩ : ∃ W2, W2 = (W.add (.cells (hiC v sv a))).add (.cells (hiC v sv b)) := ⟨_, rfl⟩
  have hle : Le W W2 := by rw [hW2]; exact ((Le.refl _).add _).add _
  have g1 : W2.get W.next = some (.cells (hiC v sv a)) := by rw [hW2, AW.get_add_ne _ _ (by rw [AW.add_next]; omega), AW.get_add]
  have g2 : W2.get (W.next + 1) = some (.cells (hiC v sv b)) := by rw [hW2, ← AW.add_next W (.cells (hiC v sv a)), AW.get_add]
  simp only [SX, hiBox, AW.add_next, Nat.zero_add]
  rw [← hW2]
  clear hW2
  have c1 : ldA 4 (.pointer (some ⟨W.next, 0, none⟩)) W2 = some (venV v sv, W2) := ldA_ok (cellsAt_of g1) rfl
  have c2 : ldA 4 (.pointer (some ⟨W.next + 1, 0, none⟩)) W2 = some (venV v sv, W2) := ldA_ok (cellsAt_of g2) rfl
  have e1 : ldC (.pointer (some ⟨W.next, 4, none⟩)) W2 = some (a, W2) := ldR g1 rfl
  have e2 : ldC (.pointer (some ⟨W.next + 1, 4, none⟩)) W2 = some (b, W2) := ldR g2 rfl
  have hs := venSame_ok (h.mono hle) hl hr
  have ha2 := ha.mono hle
  have hb2 := hb.mono hle
  have q3 : decide ((l.length : Int) = (l.length : Int)) = true := decide_eq_true rfl
  simp only [SX, c1, c2, hs, Bool.not_true, e1, e2, ha2.len len80, hb2.len len80, q3]
  refine Ok_loop l.length (by omega) (fun i R V => V = W2 ∧ R 2 = .pointer (some ⟨W.next, 0, none⟩) ∧ R 3 = .pointer (some ⟨W.next + 1, 0, none⟩) ∧ R 5 = .int .i64 (i : Int)) (fun r => r.1 = .exit 0 ∧ r.2.2 = W2) ⟨rfl, rfl, rfl, rfl⟩ ?_ ?_ ?_
  · rintro i R V hi ⟨rfl, r2, r3, r5⟩
    unfold ref24_Same_L1
    have t1 : ((i : Int) < (l.length : Int)) := by omega
    have t2 := fun W' => oBin_add (P := Tryz.prog) (W := W') (t := 3) (c := false) (d := true) (a := (i : Int)) (b := 1) (by omega) (by omega)
    have e3 : ((i + 1 : Nat) : Int) = (i : Int) + 1 := by omega
    obtain ⟨b1, o1, i1, -, i3⟩ := EvL.get ha2 hi
    obtain ⟨b2, o2, j1, -, j3⟩ := EvL.get hb2 hi
    obtain ⟨f1, -⟩ := i3 V rfl
    obtain ⟨f2, -⟩ := j3 V rfl
    simp only [SX, r2, r3, r5, Nat.zero_add, e1, e2, ha2.len len80, t1, decide_true, i1, f1, j1, f2, neqEv_self, t2, Ok_some]
    exact .inl ⟨trivial, trivial, r2, r3, by rw [e3]; rfl⟩
  · rintro R V ⟨rfl, r2, r3, r5⟩
    unfold ref24_Same_L1
    have t1 : ¬ ((l.length : Int) < (l.length : Int)) := by omega
    simp only [SX, r2, r5, Nat.zero_add, e1, ha2.len len80, t1, decide_false, Ok_some]
    exact ⟨by simp, trivial, trivial⟩
  · rintro ⟨q, R, V⟩ ⟨rfl, rfl⟩
    simp only [SX, Ok_some]
    exact ⟨trivial, hle⟩
theorem al82 (W : AW) : oAlloc Tryz.prog 82 W = some (.pointer (some ⟨W.next, 0, none⟩), W.add (.cells (hiC ven0 nilV nilV))) := Eq.trans (by kernel_rfl) rfl
theorem bd82_0 (W : AW) : oBuild Tryz.prog 82 [] W = some (hiV ven0 nilV nilV, W) := Eq.trans (by kernel_rfl) rfl
theorem bd82_1 (v : Ven) (sv : Value) (W : AW) : oBuild Tryz.prog 82 [(0, venV v sv)] W = some (hiV v sv nilV, W) := Eq.trans (by kernel_rfl) rfl
theorem bd82_2 (v : Ven) (sv : Value) (a : Option Addr) (n c : Nat) (W : AW) : oBuild Tryz.prog 82 [(0, venV v sv), (1, .slice a n c)] W = some (hiV v sv (.slice a n c), W) := Eq.trans (by kernel_rfl) rfl
theorem oL82 (x : Value) (W : AW) : oLoad Tryz.prog 82 x W = ldA 5 x W := by kernel_rfl
theorem stHi {W : AW} {b : Nat} {v0 v : Ven} {s0 e0 sv u : Value} (h : W.get b = some (.cells (hiC v0 s0 e0))) (h1 : Eng.one sv = true) (h2 : Eng.one u = true) : stV 5 (.pointer (some ⟨b, 0, none⟩)) (hiV v sv u) W = some (undef, W.put b (.cells (hiC v sv u))) :=
  stAll h rfl rfl (by simp [h1, h2, one_int])
theorem hiB_all {W : AW} {b : Nat} {v : Ven} {sv u : Value} (x : W.get b = some (.cells (hiC v sv u))) : ldA 5 (.pointer (some ⟨b, 0, none⟩)) W = some (hiV v sv u, W) := ldA_ok (cellsAt_of x) rfl
theorem hiB_ven {W : AW} {b : Nat} {v : Ven} {sv u : Value} (x : W.get b = some (.cells (hiC v sv u))) : ldA 4 (.pointer (some ⟨b, 0, none⟩)) W = some (venV v sv, W) := ldA_ok (cellsAt_of x) rfl
theorem hiB_ev {W : AW} {b : Nat} {v : Ven} {sv u : Value} (x : W.get b = some (.cells (hiC v sv u))) : ldC (.pointer (some ⟨b, 4, none⟩)) W = some (u, W) := ldR x rfl
theorem vs_ven {v : Ven} {sv : Value} (h : vs1 sv sv = true) : vsame (venV v sv) (venV v sv) = true := vsame_agg (by simp [vsL, h, vs1_int])
theorem box2 (v : Ven) (sv ev : Value) (W : AW) : ∃ W1 W2, oBox (hiV v sv ev) W = some (.pointer (some ⟨W.next, 0, none⟩), W1) ∧ oAlloc Tryz.prog 82 W1 = some (.pointer (some ⟨W.next + 1, 0, none⟩), W2) ∧ Le W W2 ∧ W2.next = W.next + 2 ∧ W2.get W.next = some (.cells (hiC v sv ev)) ∧ W2.get (W.next + 1) = some (.cells (hiC ven0 nilV nilV)) :=
  ⟨_, _, hiBox _ _ _ _, by rw [al82, AW.add_next], ((Le.refl _).add _).add _, by rw [AW.add_next, AW.add_next], by rw [AW.get_add_ne _ _ (by rw [AW.add_next]; omega), AW.get_add], by
    rw [show W.next + 1 = (W.add (.cells (hiC v sv ev))).next by rw [AW.add_next], AW.get_add]⟩
theorem copy_ok {W : AW} {v : Ven} {sv ev : Value} {l : List EvT} (h : HiK W v sv ev l) (he : EvL W ev l) (hl : l.length ≤ 1000) : ∃ u W', omS (.func (.func 62) #[] #[]) [hiV v sv ev] W = some (hiV v sv u, W') ∧ Le W W' ∧ EL 0 W' 24 evC u l := by
  refine om_hisE ?_ ref24_Copy_om
  unfold ref24_Copy
  obtain ⟨W1, W2, k1, k2, hle, n2, g1, g2⟩ := box2 v sv ev W
  obtain ⟨u, W3, a1, a2, a3⟩ := app80 (he.mono hle) hl
  have e4 : ldC (.pointer (some ⟨W.next, 4, none⟩)) (W2.add (.cells [])) = some (ev, W2.add (.cells [])) := hiB_ev (by rw [AW.get_add_ne _ _ (by omega)]; exact g1)
  have x1 := (a2.get W.next (by omega)).trans g1
  have x2 := (a2.get (W.next + 1) (by omega)).trans g2
  have hv := vs_ven (v := v) h.vs
  have hn := a2.next
  obtain ⟨ua, uc, rfl⟩ := a3.slice
  simp only [SX, k1, k2, Nat.zero_add, hiB_ven g1, bs80_0, e4, a1, hiB_ven x1, agV_some, hv, Bool.and_true, bd82_2, stHi x2 h.one (el_one a3), oRes_L1, oL82, hiB_all (AW.get_put _ _ _), Option.bind_some, Ok_some]
  exact ⟨_, rfl, (hle.trans a2).put (by omega) _, (a3.keep (by rw [AW.put_next]; omega) fun b hb _ => AW.get_put_ne _ _ (by omega)).low (Nat.zero_le _)⟩
theorem z80 : sliceZ Tryz.prog 80 = some 24 := by kernel_rfl
theorem ev_put {W : AW} {u : Value} {l : List EvT} (h : EvL W u l) {x : Nat} {cs : List Value} (hx : W.get x = some (.cells cs)) (hc : cs.length < 24) (o : AObj) : EvL (W.put x o) u l := by
  obtain ⟨a, c, rfl, hr⟩ := ev_rd h
  by_cases h0 : l = []
  · subst h0; exact evNil _ _ _
  have hpos : 0 < l.length := List.length_pos_iff.2 h0
  rcases hr with hr | ⟨b, o', cs', e4, i1, i2, i3⟩
  · exact absurd hr h0
  refine rd_ev ⟨a, c, rfl, .inr ⟨b, o', cs', e4, by rw [AW.put_next]; exact i1, ?_, i3⟩⟩
  by_cases e : b = x
  · subst e
    rw [cellsAt_of hx] at i2
    injection i2 with i2
    subst i2
    have hl := congrArg List.length i3
    rw [flatMap_len evC_len, List.length_take, List.length_drop] at hl
    omega
  · unfold cellsAt at i2 ⊢
    rw [AW.get_put_ne _ _ (Ne.symm e)]; exact i2
theorem oSlice_to_none {P : Program} {W : AW} {t : TypeId} {z : Nat} (hz : sliceZ P t = some z) {l c h : Nat} {k : IntKind} (h1 : h ≤ c) :
    oSlice P t (.slice none l c) none (some (.int k (h : Int))) none W = some (.slice none h c, W) := by
  obtain ⟨e, he, hz⟩ := sliceZ_inv hz
  unfold oSlice aSlice
  simp only [he, hz, boundOf, natOf, Nat.zero_le, if_true, if_pos (And.intro (Nat.zero_le h) h1), Nat.sub_zero, true_and, h1]
theorem cut_row {W : AW} {v : Ven} {sv ev : Value} {l : List EvT} (h : HiK W v sv ev l) (he : EvL W ev l) {n : Nat} (hn : n ≤ l.length) : ∃ u, (∀ W' : AW, oSlice Tryz.prog 80 ev none (some (.int .i64 (n : Int))) none W' = some (u, W')) ∧ EvL W u (l.take n) := by
  have hlen : (l.take n).length = n := by rw [List.length_take]; omega
  obtain ⟨a, c, rfl, h1, h2, h3⟩ := h.cap
  obtain ⟨a', c', e, hr⟩ := ev_rd he
  injection e with e1 e2 e3
  subst e1; subst e3
  rcases h3 with rfl | ⟨b, o, rfl⟩
  · refine ⟨_, fun W' => oSlice_to_none z80 (by omega), ?_⟩
    rcases hr with rfl | ⟨b', o', cs, e4, -⟩
    · have : n = 0 := by simpa using hn
      subst this
      exact evNil _ _ _
    · cases e4
  · refine ⟨_, fun W' => oSlice_to z80 (by omega) h2, rd_ev ⟨_, _, by rw [hlen], ?_⟩⟩
    rcases hr with rfl | ⟨b', o', cs, e4, i1, i2, i3⟩
    · exact .inl (by simp)
    · injection e4 with e4
      injection e4 with e5 e6
      subst e5; subst e6
      refine .inr ⟨b, o, cs, rfl, i1, i2, ?_⟩
      rw [hlen, ← take_flat evC_len, ← i3, List.take_take, Nat.min_eq_left (Nat.mul_le_mul_right 24 hn)]
theorem hisCut_bad {W : AW} {v : Ven} {sv ev : Value} {l : List EvT} (hG : GW W) (h : HiA W v sv ev l) {a e : Int} (hA : Ans (venE v).2 l a e) (n : Int) (hb : e ≠ 0 ∨ n < 0 ∨ (l.length : Int) < n) : omS (.func (.func 56) #[] #[]) [hiV v sv ev, .int .i64 n] W = some (.tuple #[hiV ven0 nilV nilV, .int .i64 (if e = 0 then 7 else e)], W) := by
  refine om_drop rfl ?_ history_Cut_om
  unfold history_Cut
  obtain ⟨W1, W2, k1, k2, hle, n2, g1, g2⟩ := box2 v sv ev W
  obtain ⟨q, W', hc, a', e', p, hA', rfl, l3, hp⟩ := read_ok (hG.mono hle) (h.mono hle)
  obtain ⟨rfl, rfl⟩ := hA.det hA'
  have x2 := (l3.get (W.next + 1) (by omega)).trans g2
  have hn := l3.next
  have st := stHi (v := ven0) (sv := nilV) (u := nilV) x2 rfl rfl
  have fin : Le W (W'.put (W.next + 1) (.cells (hiC ven0 nilV nilV))) := (hle.trans l3).put (by omega) _
  by_cases he : e = 0
  case neg =>
    have d : decide (e = 0) = false := decide_eq_false he
    simp only [SX, k1, k2, hiB_all g1, hc, d, Bool.not_false, if_neg he, bd82_0, st, oRes_L1n, oL82, hiB_all (AW.get_put _ _ _), Option.bind_some, Ok_some]
    exact ⟨trivial, fin⟩
  subst he
  have d : decide ((0 : Int) = 0) = true := rfl
  have x1 := (l3.get W.next (by omega)).trans g1
  have evs := (h.evs.mono hle).mono l3
  by_cases c1 : n < 0
  · have d1 : decide (n < 0) = true := decide_eq_true c1
    simp only [SX, k1, k2, hiB_all g1, hc, d, Bool.not_true, d1, if_true, bd82_0, st, oRes_L1n, oL82, hiB_all (AW.get_put _ _ _), Option.bind_some, Ok_some]
    exact ⟨trivial, fin⟩
  · have d1 : decide (n < 0) = false := decide_eq_false c1
    have d2 : decide ((l.length : Int) < n) = true := decide_eq_true (by rcases hb with h | h | h <;> first | omega | exact absurd rfl h)
    simp only [SX, k1, k2, hiB_all g1, hc, d, Bool.not_true, d1, Nat.zero_add, hiB_ev x1, evs.len len80, d2, if_true, bd82_0, st, oRes_L1n, oL82, hiB_all (AW.get_put _ _ _), Option.bind_some, Ok_some]
    exact ⟨trivial, fin⟩
theorem hisCut_ok {W : AW} {v : Ven} {sv ev : Value} {l : List EvT} (hG : GW W) (h : HiA W v sv ev l) (hK : HiK W v sv ev l) {a : Int} (hA : Ans (venE v).2 l a 0) {n : Nat} (hn : n ≤ l.length) : ∃ u W', omS (.func (.func 56) #[] #[]) [hiV v sv ev, .int .i64 (n : Int)] W = some (.tuple #[hiV v sv u, .int .i64 0], W') ∧ Le W W' ∧ EvL W' u (l.take n) := by
  refine om_his ?_ history_Cut_om
  unfold history_Cut
  obtain ⟨W1, W2, k1, k2, hle, n2, g1, g2⟩ := box2 v sv ev W
  obtain ⟨q, W', hc, a', e', p, hA', rfl, l3, hp⟩ := read_ok (hG.mono hle) (h.mono hle)
  obtain ⟨rfl, rfl⟩ := hA.det hA'
  have x1 := (l3.get W.next (by omega)).trans g1
  have x2 := (l3.get (W.next + 1) (by omega)).trans g2
  have hnn := l3.next
  have d : decide ((0 : Int) = 0) = true := rfl
  have evs := (h.evs.mono hle).mono l3
  have d1 : decide ((n : Int) < 0) = false := decide_eq_false (by omega)
  have d2 : decide ((l.length : Int) < (n : Int)) = false := decide_eq_false (by omega)
  have h400 := (hA.good rfl).2.1
  obtain ⟨w, b1, b2⟩ := cut_row ((hK.mono hle).mono l3) evs hn
  obtain ⟨u, W3, c1, c2, c3⟩ := clone_ok b2 (by rw [List.length_take]; omega)
  have hv := vs_ven (v := v) hK.vs
  have y1 := (c2.get W.next (by omega)).trans x1
  have y2 := (c2.get (W.next + 1) (by omega)).trans x2
  have hn3 := c2.next
  obtain ⟨ua, uc, rfl, -⟩ := id c3
  obtain ⟨W4, s1, s2, s3⟩ : ∃ W4, stV 5 (.pointer (some ⟨W.next + 1, 0, none⟩)) (hiV v sv (.slice ua (l.take n).length uc)) W3 = some (undef, W4) ∧ W4.get (W.next + 1) = some (.cells (hiC v sv (.slice ua (l.take n).length uc))) ∧ W4 = W3.put (W.next + 1) (.cells (hiC v sv (.slice ua (l.take n).length uc))) := ⟨_, stHi y2 hK.one rfl, AW.get_put _ _ _, rfl⟩
  simp only [SX, k1, k2, hiB_all g1, hc, d, Bool.not_true, d1, Nat.zero_add, hiB_ev x1, evs.len len80, d2, hiB_ven x1, b1, c1, hiB_ven y1, agV_some, hv, Bool.and_true, bd82_2, s1, oRes_L1n, oL82, hiB_all s2, Option.bind_some, Ok_some]
  rw [s3]
  exact ⟨_, rfl, ((hle.trans l3).trans c2).put (by omega) _, ev_put c3 y2 (show 5 < 24 by decide) _⟩
theorem refCut_bad {W : AW} {v : Ven} {sv ev : Value} {l : List EvT} (h : HiA W v sv ev l) {a e : Int} (hA : Ans (venE v).2 l a e) (n : Int) (hb : e ≠ 0 ∨ n < 0 ∨ (l.length : Int) < n) : omS (.func (.func 57) #[] #[]) [hiV v sv ev, .int .i64 n] W = some (.tuple #[hiV ven0 nilV nilV, .int .i64 (if e = 0 then 7 else e)], W) := by
  refine om_drop rfl ?_ ref24_Cut_om
  unfold ref24_Cut
  obtain ⟨W1, W2, k1, k2, hle, n2, g1, g2⟩ := box2 v sv ev W
  obtain ⟨a', e', hA', hc⟩ := refHis_ok (h.mono hle)
  obtain ⟨rfl, rfl⟩ := hA.det hA'
  have st := stHi (v := ven0) (sv := nilV) (u := nilV) g2 rfl rfl
  have fin : Le W (W2.put (W.next + 1) (.cells (hiC ven0 nilV nilV))) := hle.put (by omega) _
  by_cases he : e = 0
  case neg =>
    have d : decide (e = 0) = false := decide_eq_false he
    simp only [SX, wu1, wu2, k1, k2, hiB_all g1, hc, d, Bool.not_false, if_neg he, bd82_0, st, oRes_L1n, oL82, hiB_all (AW.get_put _ _ _), Option.bind_some, Ok_some]
    exact ⟨trivial, fin⟩
  subst he
  have d : decide ((0 : Int) = 0) = true := rfl
  have d7 : decide ((7 : Int) = 0) = false := rfl
  have evs := h.evs.mono hle
  by_cases c1 : n < 0
  · have d1 : decide (n < 0) = true := decide_eq_true c1
    simp only [SX, wu1, wu2, k1, k2, hiB_all g1, hc, d, d1, d7, Bool.not_false, if_true, bd82_0, st, oRes_L1n, oL82, hiB_all (AW.get_put _ _ _), Option.bind_some, Ok_some]
    exact ⟨trivial, fin⟩
  · have d1 : decide (n < 0) = false := decide_eq_false c1
    have d2 : decide ((l.length : Int) < n) = true := decide_eq_true (by rcases hb with h | h | h <;> first | omega | exact absurd rfl h)
    simp only [SX, wu1, wu2, k1, k2, hiB_all g1, hc, d, d1, Nat.zero_add, hiB_ev g1, evs.len len80, d2, d7, Bool.not_false, if_true, bd82_0, st, oRes_L1n, oL82, hiB_all (AW.get_put _ _ _), Option.bind_some, Ok_some]
    exact ⟨trivial, fin⟩
theorem refCut_ok {W : AW} {v : Ven} {sv ev : Value} {l : List EvT} (h : HiA W v sv ev l) (hK : HiK W v sv ev l) {a : Int} (hA : Ans (venE v).2 l a 0) {n : Nat} (hn : n ≤ l.length) : ∃ u W', omS (.func (.func 57) #[] #[]) [hiV v sv ev, .int .i64 (n : Int)] W = some (.tuple #[hiV v sv u, .int .i64 0], W') ∧ Le W W' ∧ EvL W' u (l.take n) := by
  refine om_his ?_ ref24_Cut_om
  unfold ref24_Cut
  obtain ⟨W1, W2, k1, k2, hle, n2, g1, g2⟩ := box2 v sv ev W
  obtain ⟨a', e', hA', hc⟩ := refHis_ok (h.mono hle)
  obtain ⟨rfl, rfl⟩ := hA.det hA'
  have d : decide ((0 : Int) = 0) = true := rfl
  have evs := h.evs.mono hle
  have d1 : decide ((n : Int) < 0) = false := decide_eq_false (by omega)
  have d2 : decide ((l.length : Int) < (n : Int)) = false := decide_eq_false (by omega)
  have h400 := (hA.good rfl).2.1
  obtain ⟨u, W3, c1, c2, c3⟩ := copy_ok (hK.mono hle) evs (by omega)
  have y2 := (c2.get (W.next + 1) (by omega)).trans g2
  have hn3 := c2.next
  obtain ⟨W4, s1, s2, s3, s4⟩ : ∃ W4, oAlloc Tryz.prog 82 W3 = some (.pointer (some ⟨W3.next, 0, none⟩), W4) ∧ W4.get W3.next = some (.cells (hiC ven0 nilV nilV)) ∧ W4.next = W3.next + 1 ∧ Le W3 W4 := ⟨_, al82 _, AW.get_add _ _, AW.add_next _ _, (Le.refl _).add _⟩
  obtain ⟨W5, t1, t2, t3, t4⟩ : ∃ W5, stV 5 (.pointer (some ⟨W3.next, 0, none⟩)) (hiV v sv u) W4 = some (undef, W5) ∧ W5.get W3.next = some (.cells (hiC v sv u)) ∧ W5.next = W4.next ∧ Le W3 W5 := ⟨_, stHi s2 hK.one (el_one c3), AW.get_put _ _ _, AW.put_next _ _ _, s4.put (Nat.le_refl _) _⟩
  obtain ⟨w, b1, b2⟩ := EL.to (P := Tryz.prog) (t := 80) (kk := .i64) z80 (by decide) evC_len (c3.mono t4) hn (by omega)
  have bw := rd_ev b2
  obtain ⟨wa, wc, rfl, -⟩ := id b2
  obtain ⟨W6, v1, v2, v3, v4⟩ : ∃ W6, stV 1 (.pointer (some ⟨W3.next, 4, none⟩)) (.slice wa (l.take n).length wc) W5 = some (undef, W6) ∧ W6.get W3.next = some (.cells (hiC v sv (.slice wa (l.take n).length wc))) ∧ W6 = W5.put W3.next (.cells (hiC v sv (.slice wa (l.take n).length wc))) ∧ Le W3 W6 :=
    ⟨_, by rw [stV_one rfl rfl, rwOf t2]; rfl, AW.get_put _ _ _, rfl, t4.put (Nat.le_refl _) _⟩
  have bw2 : EvL W6 (.slice wa (l.take n).length wc) (l.take n) := by rw [v3]; exact ev_put bw t2 (show 5 < 24 by decide) _
  have y6 := (v4.get (W.next + 1) (by omega)).trans y2
  have st6 := stHi (v := v) (sv := sv) (u := .slice wa (l.take n).length wc) y6 hK.one rfl
  have n6 : W6.next = W3.next + 1 := by rw [v3, AW.put_next, t3, s3]
  simp only [SX, wu1, wu2, k1, k2, hiB_all g1, hc, d, d1, Nat.zero_add, hiB_ev g1, evs.len len80, d2, Bool.not_true, c1, s1, t1, hiB_ev t2, b1, v1, hiB_all v2, st6, oRes_L1n, oL82, hiB_all (AW.get_put _ _ _), Option.bind_some, Ok_some]
  exact ⟨_, rfl, ((hle.trans c2).trans v4).put (by omega) _, ev_put bw2 y6 (show 5 < 24 by decide) _⟩
def doneB (o : HoT) : Bool := decide (0 ≤ o.to)
def rankN (ops : List HoT) (n : Nat) : Nat := ((ops.take n).filter doneB).length
theorem rankN_succ {ops : List HoT} {n : Nat} (h : n < ops.length) : rankN ops (n + 1) = rankN ops n + if doneB ops[n] = true then 1 else 0 := by
  unfold rankN
  rw [take_snoc' h, List.filter_append, List.length_append]
  cases c : doneB ops[n] <;> simp [c]
theorem rankN_le (ops : List HoT) (n : Nat) : rankN ops n ≤ n := by
  unfold rankN
  refine Nat.le_trans (List.length_filter_le _ _) ?_
  rw [List.length_take]; omega
theorem rankN_app (pre : List HoT) (o : HoT) {n : Nat} (h : n ≤ pre.length) : rankN (pre ++ [o]) n = rankN pre n := by
  unfold rankN
  rw [List.take_append_of_le_length h]
def numO (ops : List HoT) (id : Int) : Option Value := if 1 ≤ id then (match ops[(id - 1).toNat]? with | some o => if doneB o = true then some (.int .i64 (rankN ops id.toNat)) else none | none => none) else none
theorem numO_nil (id : Int) : numO [] id = none := by
  unfold numO; split <;> simp
theorem numO_yes {pre : List HoT} {o : HoT} (hid : o.id = (pre.length : Int) + 1) (hd : doneB o = true) (id : Int) : numO (pre ++ [o]) id = if id = o.id then some (.int .i64 ((rankN pre pre.length : Int) + 1)) else numO pre id := by
  unfold numO
  by_cases h1 : 1 ≤ id
  · rw [if_pos h1, if_pos h1]
    by_cases e : id = o.id
    · rw [if_pos e, e, hid, show ((pre.length : Int) + 1 - 1).toNat = pre.length by omega, List.getElem?_append_right (by omega), Nat.sub_self]
      simp only [List.getElem?_cons_zero, hd, if_true]
      rw [show ((pre.length : Int) + 1).toNat = pre.length + 1 by omega, rankN_succ (by simp), rankN_app _ _ (Nat.le_refl _)]
      simp [hd]
    · rw [if_neg e]
      by_cases h2 : (id - 1).toNat < pre.length
      · rw [List.getElem?_append_left h2]
        cases pre[(id - 1).toNat]? with
        | none => rfl
        | some o' =>
          simp only
          rw [rankN_app _ _ (by omega)]
      · rw [List.getElem?_eq_none (by simp; omega), List.getElem?_eq_none (by omega)]
  · rw [if_neg h1, if_neg h1, if_neg (by omega)]
theorem numO_no {pre : List HoT} {o : HoT} (hid : o.id = (pre.length : Int) + 1) (hd : doneB o = false) (id : Int) : numO (pre ++ [o]) id = numO pre id := by
  unfold numO
  by_cases h1 : 1 ≤ id
  · rw [if_pos h1, if_pos h1]
    by_cases h2 : (id - 1).toNat < pre.length
    · rw [List.getElem?_append_left h2]
      cases pre[(id - 1).toNat]? with
      | none => rfl
      | some o' =>
        simp only
        rw [rankN_app _ _ (by omega)]
    · rw [List.getElem?_eq_none (l := pre) (by omega)]
      by_cases e : (id - 1).toNat = pre.length
      · rw [e, List.getElem?_append_right (by omega), Nat.sub_self]
        simp [hd]
      · rw [List.getElem?_eq_none (by simp; omega)]
  · rw [if_neg h1, if_neg h1]
def compE (ops : List HoT) (x : EvT) : Option EvT := match ops[(x.id - 1).toNat]? with
  | some o => if doneB o = true then some { x with id := (rankN ops x.id.toNat : Int) } else none
  | none => none
def compL (ops : List HoT) (l : List EvT) : List EvT := l.filterMap (compE ops)
theorem compL_yes {ops : List HoT} {l : List EvT} {x y : EvT} (h : compE ops x = some y) : compL ops (l ++ [x]) = compL ops l ++ [y] := by
  unfold compL; rw [List.filterMap_append]; simp [h]
theorem compL_no {ops : List HoT} {l : List EvT} {x : EvT} (h : compE ops x = none) : compL ops (l ++ [x]) = compL ops l := by
  unfold compL; rw [List.filterMap_append]; simp [h]
theorem compL_le (ops : List HoT) (l : List EvT) : (compL ops l).length ≤ l.length := List.length_filterMap_le _ _
theorem Run.of {l : List EvT} {s : TL} (hr : Run l l.length s) {i : Nat} {x : EvT} (hx : l[i]? = some x) : ∃ (j : Nat) (o : HoT), s.ops[j]? = some o ∧ x.id = (j : Int) + 1 := by
  have I := hr.inv
  have hi := (List.getElem?_eq_some_iff.1 hx).1
  cases c : x.ret with
  | false =>
    obtain ⟨j, o, h1, h2, -⟩ := I.cal i x hi hx c
    have := (I.ids j o h1).1
    exact ⟨j, o, h1, by omega⟩
  | true =>
    obtain ⟨j, o, h1, h2, -⟩ := I.ret i x hi hx c
    have := (I.ids j o h1).1
    exact ⟨j, o, h1, by omega⟩
theorem compE_of {ops : List HoT} {x : EvT} {j : Nat} {o : HoT} (hj : ops[j]? = some o) (hid : x.id = (j : Int) + 1) : compE ops x = (if doneB o = true then some { x with id := (rankN ops (j + 1) : Int) } else none) ∧ numO ops x.id = (if doneB o = true then some (.int .i64 (rankN ops (j + 1))) else none) := by
  have e1 : (x.id - 1).toNat = j := by omega
  have e2 : x.id.toNat = j + 1 := by omega
  refine ⟨?_, ?_⟩
  · unfold compE
    rw [e1, e2, hj]
  · unfold numO
    rw [if_pos (show 1 ≤ x.id by omega), e1, e2, hj]
theorem rank_pos {ops : List HoT} {j : Nat} {o : HoT} (hj : ops[j]? = some o) (hd : doneB o = true) : 0 < rankN ops (j + 1) := by
  obtain ⟨h, rfl⟩ := List.getElem?_eq_some_iff.1 hj
  rw [rankN_succ h, if_pos hd]; omega
theorem done_ok (o : HoT) (W : AW) : omS (.func (.func 113) #[] #[]) [hoV o] W = some (.bool (doneB o), W) := by
  refine om_drop rfl ?_ history_done_om
  unfold history_done
  have x1 : (W.add (.cells (hoC o))).get W.next = some (.cells (hoC o)) := AW.get_add _ _
  simp only [SX, hoBox', Nat.zero_add, hoB_to x1, Ok_some]
  exact ⟨rfl, (Le.refl _).add _⟩
theorem bs80 (e : EvT) (W : AW) : oBuildSlice Tryz.prog 80 1 [(0, evV e)] W = some (.slice (some ⟨W.next, 0, none⟩) 1 1, W.add (.cells (evC e))) := Eq.trans (by kernel_rfl) rfl
theorem al192 (W : AW) : oAlloc Tryz.prog 192 W = some (.pointer (some ⟨W.next, 0, none⟩), W.add (.cells [.map none])) := Eq.trans (by kernel_rfl) rfl
theorem pushEv {U : AW} {ob : Nat} {v : Ven} {sv w : Value} {l : List EvT} {bo : Option Nat} (hc : U.get ob = some (.cells (hiC v sv w))) (hp : LstA U 24 evC w l bo) (hbp : bo ≠ some ob) (htb : ob < U.next) (hl : l.length ≤ 1000) (n : EvT) :
    ∃ w' U1 U2, aAppend Tryz.prog (U.add (.cells (evC n))) #[80, 80] w (.slice (some ⟨U.next, 0, none⟩) 1 1) = some (w', U1) ∧ stV 1 (.pointer (some ⟨ob, 4, none⟩)) w' U1 = some (undef, U2) ∧ U2.get ob = some (.cells (hiC v sv w')) ∧ LstA U2 24 evC w' (l ++ [n]) (some (U.next + 1)) ∧ U2.next = U.next + 2 ∧
      ∀ b, b < U.next → b ≠ ob → bo ≠ some b → U2.get b = U.get b := by
  obtain ⟨w', U1, a1, a2, a3, a4⟩ := lgrow n ap80 evC_len evC_one hp (by omega) (by omega)
  have ht : U1.get ob = some (.cells (hiC v sv w)) := (a4 ob htb hbp).trans hc
  refine ⟨w', U1, U1.put ob (.cells (hiC v sv w')), a1, ?_, AW.get_put _ _ _, a2.keep (by rw [AW.put_next]; omega) fun B hB => AW.get_put_ne _ _ (by injection hB with hB; omega), by rw [AW.put_next, a3], fun b hb hne hbb => (AW.get_put_ne _ _ (Ne.symm hne)).trans (a4 b hb hbb)⟩
  rw [stV_one (lcells1 a2).1 (lcells1 a2).2, rwOf ht]
  rfl
theorem stId {W : AW} {b : Nat} {e : EvT} (h : W.get b = some (.cells (evC e))) (n : Int) : stV 1 (.pointer (some ⟨b, 0, none⟩)) (.int .i64 n) W = some (undef, W.put b (.cells (evC { e with id := n }))) := by
  rw [stV_one rfl rfl, rwOf h]; rfl
theorem hisComp_bad {W : AW} {v : Ven} {sv ev : Value} {l : List EvT} (hG : GW W) (h : HiA W v sv ev l) {a e : Int} (hA : Ans (venE v).2 l a e) (he : e ≠ 0) : omS (.func (.func 54) #[] #[]) [hiV v sv ev] W = some (.tuple #[hiV ven0 nilV nilV, .int .i64 e], W) := by
  refine om_drop rfl ?_ history_Complete_om
  unfold history_Complete
  obtain ⟨W1, W2, k1, k2, hle, n2, g1, g2⟩ := box2 v sv ev W
  obtain ⟨q, W', hc, a', e', p, hA', rfl, l3, hp⟩ := read_ok (hG.mono hle) (h.mono hle)
  obtain ⟨rfl, rfl⟩ := hA.det hA'
  have x2 := (l3.get (W.next + 1) (by omega)).trans g2
  have hn := l3.next
  have st := stHi (v := ven0) (sv := nilV) (u := nilV) x2 rfl rfl
  have fin : Le W (W'.put (W.next + 1) (.cells (hiC ven0 nilV nilV))) := (hle.trans l3).put (by omega) _
  have d : decide (e = 0) = false := decide_eq_false he
  simp only [SX, k1, k2, hiB_all g1, hc, d, Bool.not_false, bd82_0, st, oRes_L1n, oL82, hiB_all (AW.get_put _ _ _), Option.bind_some, Ok_some]
  exact ⟨trivial, fin⟩
theorem hisComp_ok {W : AW} {v : Ven} {sv ev : Value} {l : List EvT} {s : TL} (hG : GW W) (h : HiA W v sv ev l) (hK : HiK W v sv ev l) {a : Int} (hA : Ans (venE v).2 l a 0) (hs : Run l l.length s) : ∃ u W', omS (.func (.func 54) #[] #[]) [hiV v sv ev] W = some (.tuple #[hiV v sv u, .int .i64 0], W') ∧ Le W W' ∧ EvL W' u (compL s.ops l) := by
  refine om_his ?_ history_Complete_om
  unfold history_Complete
  obtain ⟨W1, W2, k1, k2, hle, n2, g1, g2⟩ := box2 v sv ev W
  obtain ⟨q, W', hc, a', e', p, hA', rfl, l3, hp⟩ := read_ok (hG.mono hle) (h.mono hle)
  obtain ⟨rfl, rfl⟩ := hA.det hA'
  rcases hp with ⟨hp, -⟩ | ⟨-, s', tb, ov, pv, hs', rfl, m1, m2, m3, m4, m5⟩
  · exact absurd rfl hp
  have := (hs.det hs').symm
  subst this
  have hn3 := l3.next
  have d : decide ((0 : Int) = 0) = true := rfl
  have h400 := (hA.good rfl).2.1
  have hop := hs.inv.opk
  obtain ⟨V1, b1, b2, b3, b4⟩ : ∃ V1, oMkMap Tryz.prog 192 none W' = some (.map (some W'.next), V1) ∧ MapV V1 W'.next (fun _ => none) 0 ∧ V1.next = W'.next + 1 ∧ Le W' V1 := ⟨_, mk192 _, mapV_new, AW.add_next _ _, (Le.refl _).add _⟩
  obtain ⟨V2, c1, c2, c3, c4⟩ : ∃ V2, oAlloc Tryz.prog 192 V1 = some (.pointer (some ⟨V1.next, 0, none⟩), V2) ∧ V2.get V1.next = some (.cells [.map none]) ∧ V2.next = V1.next + 1 ∧ Le V1 V2 := ⟨_, al192 _, AW.get_add _ _, AW.add_next _ _, (Le.refl _).add _⟩
  obtain ⟨V3, e1, e2, e3, e4⟩ : ∃ V3, stV 1 (.pointer (some ⟨V1.next, 0, none⟩)) (.map (some W'.next)) V2 = some (undef, V3) ∧ V3.get V1.next = some (.cells [.map (some W'.next)]) ∧ V3.next = V2.next ∧ Le V1 V3 := ⟨_, by rw [stV_one rfl rfl, rwOf c2]; rfl, AW.get_put _ _ _, AW.put_next _ _ _, c4.put (Nat.le_refl _) _⟩
  obtain ⟨W3, s1, s2, s3, s4, s5⟩ := some_fn (some ⟨tb, 0, none⟩) (.func 113) #[] #[] V3
  have g3 : ∀ b, b < W'.next → W3.get b = W'.get b := fun b hb => (s2.get b (by omega)).trans ((e4.get b (by omega)).trans (b4.get b hb))
  have gm : W3.get V1.next = some (.cells [.map (some W'.next)]) := (s2.get _ (by omega)).trans e2
  have mm : MapV W3 W'.next (fun _ => none) 0 := (b2.keep (e4.get _ (by omega))).keep (s2.get _ (by omega))
  simp only [SX, k1, k2, hiB_all g1, hc, d, Bool.not_true, b1, c1, e1, s1]
  refine Ok_calls (W0 := W') (isF := .func (.func 113) #[] #[]) m4 (by omega) doneB rfl (ldR (by rw [AW.get_add_ne _ _ (by omega)]; exact s4) rfl) (ldR (by rw [AW.get_add_ne _ _ (by omega), g3 _ m2]; exact m3) rfl)
    (fun pre V => W3.next ≤ V.next ∧ (∀ b, b < W3.next → b ≠ W'.next → V.get b = W3.get b) ∧ MapV V W'.next (numO pre) (rankN pre pre.length)) (fun _ _ => False)
    ⟨by rw [AW.add_next]; omega, fun b hb _ => AW.get_add_ne _ _ (by omega), by
      rw [show numO [] = fun _ => none from funext numO_nil]
      exact mm.keep (AW.get_add_ne _ _ (by omega))⟩
    (fun pre V ⟨g1, g2, _⟩ => ⟨⟨by omega, fun b hb => (g2 b (by omega) (by omega)).trans (g3 b hb)⟩, ldR ((g2 _ (by omega) (by omega)).trans s5) rfl⟩)
    (fun pre V cs ⟨g1, g2, g4⟩ hl => ⟨by rw [AW.add_next]; omega, fun b hb hne => (AW.get_add_ne _ _ (by omega)).trans (g2 b hb hne), g4.keep (AW.get_add_ne _ _ (by omega))⟩)
    (fun pre V o ⟨g1, g2, g4⟩ => ⟨by rw [AW.put_next]; omega, fun b hb hne => (AW.get_put_ne _ _ (by omega)).trans (g2 b hb hne), g4.keep (AW.get_put_ne _ _ (by omega))⟩)
    (fun _ _ _ h => h) (fun pre o V _ => done_ok o V)
    (fun pre o V hpre ⟨g1, g2, g4⟩ hn => ⟨g1, g2, by
      have hid := (hs.inv.ids pre.length o (by obtain ⟨t, ht⟩ := hpre; rw [← ht]; simp)).1
      rw [show numO (pre ++ [o]) = numO pre from funext fun id => numO_no hid hn id, List.length_append, List.length_cons, List.length_nil, rankN_succ (by simp), rankN_app _ _ (Nat.le_refl _), if_neg (by simp [hn])]
      exact g4⟩) 8 ?_ ?_ ?_
  · intro o V R' hR
    have r26 : R' 26 = hoV o := by rw [hR]; rfl
    rw [history_Complete_Y1a_eq]
    unfold history_Complete_Y1a
    simp only [SX, al176, r26, hoBox2]
  · intro pre o V b R' hR hpre hyes ⟨g1, g2, g4⟩ hl hb hb1 hb2
    have r7 : R' 7 = .pointer (some ⟨V1.next, 0, none⟩) := by rw [hR]; rfl
    have r8 : R' 8 = .pointer (some ⟨b, 0, none⟩) := by rw [hR]; rfl
    clear hR
    rw [history_Complete_Y1b_eq]
    unfold history_Complete_Y1b
    have hid := (hs.inv.ids pre.length o (by obtain ⟨t, ht⟩ := hpre; rw [← ht]; simp)).1
    have hpl := hpre.length_le
    rw [List.length_append, List.length_cons, List.length_nil] at hpl
    have hrk := rankN_le pre pre.length
    have cm : ldC (.pointer (some ⟨V1.next, 0, none⟩)) V = some (.map (some W'.next), V) := ldR ((g2 _ (by omega) (by omega)).trans gm) rfl
    have ml := mapV_len g4 len192 3 #[false]
    have t1 := fun W' => oBin_add (P := Tryz.prog) (W := W') (t := 3) (c := false) (d := true) (a := (rankN pre pre.length : Int)) (b := 1) (by omega) (by omega)
    obtain ⟨V4, u1, u2, u3, u4⟩ := setM g4 o.id (.int .i64 ((rankN pre pre.length : Int) + 1))
    have hnone : numO pre o.id = none := by
      unfold numO
      rw [hid, if_pos (by omega), List.getElem?_eq_none (by omega)]
    simp only [hnone, Option.isSome_none, Bool.false_eq_true, if_false] at u2
    simp only [SX, r7, r8, cm, Nat.zero_add, hoB_id hb, ml, t1, u1, Ok_some]
    refine ⟨by omega, u4 _ (by omega), .inl ⟨trivial, by omega, fun b' hb' hne => (u4 b' hne).trans (g2 b' hb' hne), ?_⟩⟩
    rw [show numO (pre ++ [o]) = fun id => if id = o.id then some (.int .i64 ((rankN pre pre.length : Int) + 1)) else numO pre id from funext fun id => numO_yes hid hyes id, List.length_append, List.length_cons, List.length_nil, rankN_succ (by simp), rankN_app _ _ (Nat.le_refl _), if_pos (by simp [hyes])]
    exact u2
  · rintro x V (⟨rfl, q1, q2, q4⟩ | ⟨_, h⟩)
    case inr => exact h.elim
    have low : ∀ b, b < W'.next → (V.kill W3.next).get b = W'.get b := fun b hb => by rw [AW.get_kill_ne _ (by omega), q2 b (by omega) (by omega), g3 b hb]
    have x1 : (V.kill W3.next).get W.next = some (.cells (hiC v sv ev)) := (low _ (by omega)).trans ((l3.get W.next (by omega)).trans g1)
    have x2 : (V.kill W3.next).get (W.next + 1) = some (.cells (hiC ven0 nilV nilV)) := (low _ (by omega)).trans ((l3.get (W.next + 1) (by omega)).trans g2)
    have xm : (V.kill W3.next).get V1.next = some (.cells [.map (some W'.next)]) := by rw [AW.get_kill_ne _ (by omega), q2 _ (by omega) (by omega)]; exact gm
    have xM : MapV (V.kill W3.next) W'.next (numO s.ops) (rankN s.ops s.ops.length) := q4.keep (AW.get_kill_ne _ (by omega))
    have lk : Le W' (V.kill W3.next) := ⟨by rw [AW.kill_next]; omega, low⟩
    have nk : (V.kill W3.next).next = V.next := AW.kill_next _ _
    generalize V.kill W3.next = K at *
    obtain ⟨K1, y1, y2, y3, y4⟩ : ∃ K1, oAlloc Tryz.prog 82 K = some (.pointer (some ⟨K.next, 0, none⟩), K1) ∧ K1.get K.next = some (.cells (hiC ven0 nilV nilV)) ∧ K1.next = K.next + 1 ∧ Le K K1 := ⟨_, al82 _, AW.get_add _ _, AW.add_next _ _, (Le.refl _).add _⟩
    obtain ⟨K2, z1, z2, z3, z4⟩ : ∃ K2, stV 5 (.pointer (some ⟨K.next, 0, none⟩)) (hiV v sv nilV) K1 = some (undef, K2) ∧ K2.get K.next = some (.cells (hiC v sv nilV)) ∧ K2.next = K1.next ∧ Le K K2 := ⟨_, stHi y2 hK.one rfl, AW.get_put _ _ _, AW.put_next _ _ _, y4.put (Nat.le_refl _) _⟩
    have evs : ∀ {U : AW}, (∀ b, b < W'.next → U.get b = W'.get b) → W'.next ≤ U.next → EvL U ev l := fun {U} hu hn => h.evs.mono ((hle.trans l3).trans ⟨hn, hu⟩)
    have k2l : ∀ b, b < W'.next → K2.get b = W'.get b := fun b hb => (z4.get b (by omega)).trans (low b hb)
    have ev2 : ldC (.pointer (some ⟨W.next, 4, none⟩)) K2 = some (ev, K2) := hiB_ev ((z4.get _ (by omega)).trans x1)
    simp only [SX, Nat.zero_add, hiB_ven x1, bd82_1, y1, z1, ev2, (evs k2l (by omega)).len len80]
    refine Ok_loop l.length (by omega) (fun i R U => K2.next ≤ U.next ∧ (∀ b, b < K2.next → b ≠ K.next → U.get b = K2.get b) ∧ R 2 = .pointer (some ⟨W.next + 1, 0, none⟩) ∧ R 7 = .pointer (some ⟨V1.next, 0, none⟩) ∧ R 9 = .pointer (some ⟨K.next, 0, none⟩) ∧ R 37 = ev ∧ R 38 = .int .i64 (l.length : Int) ∧ R 39 = .int .i64 (i : Int) ∧
        ∃ w bo, U.get K.next = some (.cells (hiC v sv w)) ∧ LstA U 24 evC w (compL s.ops (l.take i)) bo ∧ ∀ B, bo = some B → K2.next ≤ B)
      (fun r => r.1 = .exit 2 ∧ K2.next ≤ r.2.2.next ∧ (∀ b, b < K2.next → b ≠ K.next → r.2.2.get b = K2.get b) ∧ r.2.1 2 = .pointer (some ⟨W.next + 1, 0, none⟩) ∧ r.2.1 9 = .pointer (some ⟨K.next, 0, none⟩) ∧ ∃ w bo, r.2.2.get K.next = some (.cells (hiC v sv w)) ∧ LstA r.2.2 24 evC w (compL s.ops l) bo ∧ ∀ B, bo = some B → K2.next ≤ B)
      ⟨Nat.le_refl _, fun _ _ _ => rfl, rfl, rfl, rfl, rfl, rfl, rfl, nilV, none, z2, .inl ⟨rfl, rfl, rfl⟩, fun B hB => by cases hB⟩ ?_ ?_ ?_
    · rintro i R U hi ⟨w1, w2, r2, r7, r9, r37, r38, r39, w, bo, w4, w5, w6⟩
      unfold history_Complete_L1
      have t1 : ((i : Int) < (l.length : Int)) := by omega
      have t2 := fun W' => oBin_add (P := Tryz.prog) (W := W') (t := 3) (c := false) (d := true) (a := (i : Int)) (b := 1) (by omega) (by omega)
      have e3 : ((i + 1 : Nat) : Int) = (i : Int) + 1 := by omega
      have ul : ∀ b, b < W'.next → U.get b = W'.get b := fun b hb => (w2 b (by omega) (by omega)).trans (k2l b hb)
      obtain ⟨b, o, i1, i2, i3⟩ := EvL.get (evs ul (by omega)) hi
      obtain ⟨fa, -⟩ := i3 U rfl
      have hx : l[i]? = some l[i] := List.getElem?_eq_getElem hi
      rw [take_snoc' hi]
      generalize l[i] = x at fa hx
      obtain ⟨U1, U2, a1, a2, ll, nn, xx⟩ := evBox x U
      have um : ∀ {U' : AW}, (∀ b, b < U.next → b ≠ K.next → U'.get b = U.get b) → U'.get V1.next = some (.cells [.map (some W'.next)]) := fun {U'} hu => (hu _ (by omega) (by omega)).trans ((w2 _ (by omega) (by omega)).trans ((z4.get _ (by omega)).trans xm))
      have g2U : ∀ b, b < U.next → b ≠ K.next → U2.get b = U.get b := fun b hb _ => ll.get b hb
      have cm : ldC (.pointer (some ⟨V1.next, 0, none⟩)) U2 = some (.map (some W'.next), U2) := ldR (um g2U) rfl
      have MU : MapV U2 W'.next (numO s.ops) (rankN s.ops s.ops.length) := xM.keep ((g2U _ (by omega) (by omega)).trans ((w2 _ (by omega) (by omega)).trans (z4.get _ (by omega))))
      have mg := mapV_get MU ty192 ty3 tz3 x.id
      obtain ⟨j, o', hj, hid⟩ := hs.of hx
      obtain ⟨f1, f2⟩ := compE_of hj hid
      rw [f2] at mg
      have hjl := (List.getElem?_eq_some_iff.1 hj).1
      have hcl := compL_le s.ops (l.take i)
      rw [List.length_take] at hcl
      cases hd : doneB o' with
      | false =>
        rw [hd] at mg f1
        simp only [Bool.false_eq_true, if_false, Option.getD_none] at mg f1
        have t3 : ¬ ((0 : Int) < 0) := by omega
        simp only [SX, r2, r7, r9, r37, r38, r39, t1, decide_true, i1, fa, a1, a2, cm, Nat.zero_add, evB_id xx, mg, t3, decide_false, t2, Ok_some]
        exact .inl ⟨trivial, by omega, fun b hb hne => (ll.get b (by omega)).trans (w2 b hb hne), r2, r7, r9, r37, r38, by rw [e3]; rfl, w, bo, (ll.get _ (by omega)).trans w4, by rw [compL_no f1]; exact w5.keep (by omega) (fun B hB => ll.get _ (w5.lt hB)), w6⟩
      | true =>
        rw [hd] at mg f1
        simp only [if_true, Option.getD_some] at mg f1
        have hrp := rank_pos hj hd
        have t3 : ((0 : Int) < (rankN s.ops (j + 1) : Int)) := by omega
        obtain ⟨n, hn⟩ : ∃ n : EvT, n = { x with id := (rankN s.ops (j + 1) : Int) } := ⟨_, rfl⟩
        obtain ⟨U3, p1, p2, p3, p4⟩ : ∃ U3, stV 1 (.pointer (some ⟨U.next, 0, none⟩)) (.int .i64 (rankN s.ops (j + 1) : Int)) U2 = some (undef, U3) ∧ U3.get U.next = some (.cells (evC n)) ∧ U3.next = U2.next ∧ Le U U3 := ⟨_, stId xx _, by rw [AW.get_put, hn], AW.put_next _ _ _, ll.put (Nat.le_refl _) _⟩
        have w43 := (p4.get _ (by omega)).trans w4
        have w53 : LstA U3 24 evC w (compL s.ops (l.take i)) bo := w5.keep (by omega) (fun B hB => p4.get _ (w5.lt hB))
        obtain ⟨w', U4, U5, h1, h2, h3, h4, h5, h6⟩ := pushEv w43 w53 (fun e => by have := w6 _ e; omega) (by omega) (by omega) n
        have co : ldC (.pointer (some ⟨K.next, 4, none⟩)) U3 = some (w, U3) := hiB_ev w43
        simp only [SX, r2, r7, r9, r37, r38, r39, t1, decide_true, i1, fa, a1, a2, cm, Nat.zero_add, evB_id xx, mg, t3, p1, co, evB_all p2, bs80, h1, h2, t2, Ok_some]
        refine .inl ⟨trivial, by omega, fun b hb hne => ?_, r2, r7, r9, r37, r38, by rw [e3]; rfl, w', some (U3.next + 1), h3, ?_, fun B hB => by injection hB with hB; omega⟩
        · rw [h6 b (by omega) hne (fun e => by have := w6 _ e; omega), p4.get b (by omega)]
          exact w2 b hb hne
        · rw [compL_yes f1, ← hn]; exact h4
    · rintro R U ⟨w1, w2, r2, r7, r9, r37, r38, r39, hw⟩
      unfold history_Complete_L1
      have t1 : ¬ ((l.length : Int) < (l.length : Int)) := by omega
      rw [List.take_length] at hw
      simp only [SX, r38, r39, t1, decide_false, Ok_some]
      exact ⟨by simp, trivial, w1, w2, r2, r9, hw⟩
    · rintro ⟨q, R, U⟩ ⟨rfl, w1, w2, r2, r9, w, bo, w4, w5, w6⟩
      simp only at r2 r9 w1 w2 w4 w5
      have y2' : U.get (W.next + 1) = some (.cells (hiC ven0 nilV nilV)) := (w2 _ (by omega) (by omega)).trans ((z4.get _ (by omega)).trans x2)
      have st := stHi (v := v) (sv := sv) (u := w) y2' hK.one (lcells1 w5).2
      simp only [SX, r2, r9, hiB_all w4, st, oRes_L1n, oL82, hiB_all (AW.get_put _ _ _), Option.bind_some, Ok_some]
      have ul : ∀ b, b < W'.next → U.get b = W'.get b := fun b hb => (w2 b (by omega) (by omega)).trans (k2l b hb)
      exact ⟨w, rfl, ((hle.trans l3).trans ⟨by omega, ul⟩).put (by omega) _, (w5.keep (by rw [AW.put_next]; omega) (fun B hB => AW.get_put_ne _ _ (by have := w6 B hB; omega))).lst.row evC_len (flatAt_in evC_len)⟩
theorem row_away {α : Type} {z : Nat} {f : α → List Value} (hf : ∀ a, (f a).length = z) {W W' : AW} {u : Value} {l : List α} (h : Row W z (flatAt z f) u l) {x : Nat} {cs : List Value} (hx : W.get x = some (.cells cs)) (hc : cs.length < z) (hn : W.next ≤ W'.next) (hg : ∀ b, b < W.next → b ≠ x → W'.get b = W.get b) : Row W' z (flatAt z f) u l := by
  obtain ⟨a, c, rfl, h⟩ := h
  refine ⟨a, c, rfl, ?_⟩
  by_cases h0 : l = []
  · exact .inl h0
  rcases h with h | ⟨b, o, cs', h1, h2, h3, h4⟩
  · exact .inl h
  refine .inr ⟨b, o, cs', h1, by omega, ?_, h4⟩
  have hb : b ≠ x := fun e => by
    subst e
    rw [cellsAt_of hx] at h3
    injection h3 with h3
    subst h3
    have h5 : flatAt z f cs (o + 0 * z) (l[0]'(List.length_pos_iff.2 h0)) := h4 0 (List.length_pos_iff.2 h0)
    unfold flatAt at h5
    have h6 := congrArg List.length h5
    rw [hf, List.length_take, List.length_drop] at h6
    omega
  unfold cellsAt at h3 ⊢
  rw [hg b h2 hb]; exact h3
theorem refComp_bad {W : AW} {v : Ven} {sv ev : Value} {l : List EvT} (h : HiA W v sv ev l) {a e : Int} (hA : Ans (venE v).2 l a e) (he : e ≠ 0) : omS (.func (.func 55) #[] #[]) [hiV v sv ev] W = some (.tuple #[hiV ven0 nilV nilV, .int .i64 e], W) := by
  refine om_drop rfl ?_ ref24_Complete_om
  unfold ref24_Complete
  obtain ⟨W1, W2, k1, k2, hle, n2, g1, g2⟩ := box2 v sv ev W
  obtain ⟨a', e', hA', hc⟩ := refHis_ok (h.mono hle)
  obtain ⟨rfl, rfl⟩ := hA.det hA'
  have st := stHi (v := ven0) (sv := nilV) (u := nilV) g2 rfl rfl
  have d : decide (e = 0) = false := decide_eq_false he
  simp only [SX, k1, k2, hiB_all g1, hc, d, Bool.not_false, bd82_0, st, oRes_L1n, oL82, hiB_all (AW.get_put _ _ _), Option.bind_some, Ok_some]
  exact ⟨trivial, hle.put (by omega) _⟩
theorem refComp_ok {W : AW} {v : Ven} {sv ev : Value} {l : List EvT} {s : TL} (h : HiA W v sv ev l) (hK : HiK W v sv ev l) {a : Int} (hA : Ans (venE v).2 l a 0) (hs : Run l l.length s) : ∃ u W', omS (.func (.func 55) #[] #[]) [hiV v sv ev] W = some (.tuple #[hiV v sv u, .int .i64 0], W') ∧ Le W W' ∧ EvL W' u (compL s.ops l) := by
  refine om_his ?_ ref24_Complete_om
  unfold ref24_Complete
  obtain ⟨W1, W2, k1, k2, hle, n2, g1, g2⟩ := box2 v sv ev W
  obtain ⟨a', e', hA', hc⟩ := refHis_ok (h.mono hle)
  obtain ⟨rfl, rfl⟩ := hA.det hA'
  have d : decide ((0 : Int) = 0) = true := rfl
  have h400 := (hA.good rfl).2.1
  have hop := hs.inv.opk
  obtain ⟨K1, y1, y2, y3, y4⟩ : ∃ K1, oAlloc Tryz.prog 82 W2 = some (.pointer (some ⟨W2.next, 0, none⟩), K1) ∧ K1.get W2.next = some (.cells (hiC ven0 nilV nilV)) ∧ K1.next = W2.next + 1 ∧ Le W2 K1 := ⟨_, al82 _, AW.get_add _ _, AW.add_next _ _, (Le.refl _).add _⟩
  obtain ⟨K2, z1, z2, z3, z4⟩ : ∃ K2, stV 5 (.pointer (some ⟨W2.next, 0, none⟩)) (hiV v sv nilV) K1 = some (undef, K2) ∧ K2.get W2.next = some (.cells (hiC v sv nilV)) ∧ K2.next = K1.next ∧ Le W2 K2 := ⟨_, stHi y2 hK.one rfl, AW.get_put _ _ _, AW.put_next _ _ _, y4.put (Nat.le_refl _) _⟩
  have lk := hle.trans z4
  obtain ⟨u, K3, o1, o2, o3⟩ := refOps_ok (h.mono lk) h400 hs
  obtain ⟨w, K4, p1, p2, p3⟩ := copy_ok ((hK.mono lk).mono o2) ((h.evs.mono lk).mono o2) (by omega)
  have n3 := o2.next
  have n4 := p2.next
  have q1 := (o2.get W.next (by omega)).trans ((z4.get W.next (by omega)).trans g1)
  have q2 := (p2.get (W.next + 1) (by omega)).trans ((o2.get (W.next + 1) (by omega)).trans ((z4.get (W.next + 1) (by omega)).trans g2))
  have q3 := (p2.get W2.next (by omega)).trans ((o2.get W2.next (by omega)).trans z2)
  have q4 := (z4.get W.next (by omega)).trans g1
  have fd4 : ∀ W' : AW, fdC 4 (hiV v sv w) W' = some (w, W') := fun W' => rfl
  have evw : EvL K4 w l := el_ev p3
  have opw := o3.mono p2
  simp only [SX, k1, k2, hiB_all g1, hc, d, Bool.not_true, Nat.zero_add, hiB_ven g1, bd82_1, y1, z1, hiB_all q4, o1, hiB_all q1, p1, fd4]
  refine Ok_loop l.length (by omega) (fun i R U => K4.next ≤ U.next ∧ (∀ b, b < K4.next → b ≠ W2.next → U.get b = K4.get b) ∧ R 2 = .pointer (some ⟨W.next + 1, 0, none⟩) ∧ R 6 = .pointer (some ⟨W2.next, 0, none⟩) ∧ R 7 = u ∧ R 8 = w ∧ R 9 = .int .i64 (i : Int) ∧
      ∃ w' bo, U.get W2.next = some (.cells (hiC v sv w')) ∧ LstA U 24 evC w' (compL s.ops (l.take i)) bo ∧ ∀ B, bo = some B → K4.next ≤ B)
    (fun r => r.1 = .exit 0 ∧ K4.next ≤ r.2.2.next ∧ (∀ b, b < K4.next → b ≠ W2.next → r.2.2.get b = K4.get b) ∧ r.2.1 2 = .pointer (some ⟨W.next + 1, 0, none⟩) ∧ r.2.1 6 = .pointer (some ⟨W2.next, 0, none⟩) ∧ ∃ w' bo, r.2.2.get W2.next = some (.cells (hiC v sv w')) ∧ LstA r.2.2 24 evC w' (compL s.ops l) bo ∧ ∀ B, bo = some B → K4.next ≤ B)
    ⟨Nat.le_refl _, fun _ _ _ => rfl, rfl, rfl, rfl, rfl, rfl, nilV, none, q3, .inl ⟨rfl, rfl, rfl⟩, fun B hB => by cases hB⟩ ?_ ?_ ?_
  · rintro i R U hi ⟨w1, w2, r2, r6, r7, r8, r9, w', bo, w4, w5, w6⟩
    unfold ref24_Complete_L1
    have t1 : ((i : Int) < (l.length : Int)) := by omega
    have t2 := fun W' => oBin_add (P := Tryz.prog) (W := W') (t := 3) (c := false) (d := true) (a := (i : Int)) (b := 1) (by omega) (by omega)
    have e3 : ((i + 1 : Nat) : Int) = (i : Int) + 1 := by omega
    have evU : EvL U w l := row_away evC_len evw q3 (show 5 < 24 by decide) w1 w2
    have opU : HoL U u s.ops := row_away hoC_len opw q3 (show 5 < 25 by decide) w1 w2
    obtain ⟨b, o, i1, i2, i3⟩ := EvL.get evU hi
    obtain ⟨fa, -⟩ := i3 U rfl
    have hx : l[i]? = some l[i] := List.getElem?_eq_getElem hi
    rw [take_snoc' hi]
    generalize l[i] = x at fa hx
    obtain ⟨U1, U2, a1, a2, ll, nn, xx⟩ := evBox x U
    obtain ⟨j, o', hj, hid⟩ := hs.of hx
    obtain ⟨f1, -⟩ := compE_of hj hid
    obtain ⟨hjl, hje⟩ := List.getElem?_eq_some_iff.1 hj
    have hcl := compL_le s.ops (l.take i)
    rw [List.length_take] at hcl
    have t3 : ∀ W' : AW, oBin Tryz.prog .sub 3 false true (.int .i64 x.id) (.int .i64 1) W' = some (.int .i64 (j : Int), W') := fun W' => by
      rw [oBin_sub (by omega) (by omega), show x.id - 1 = (j : Int) by omega]
    have opU2 := opU.mono ll
    obtain ⟨b', oo, j1, -, j3⟩ := HoL.get opU2 hjl
    obtain ⟨-, -, -, -, f3⟩ := j3 U2 rfl
    rw [hje] at f3
    cases hd : doneB o' with
    | false =>
      rw [hd] at f1
      simp only [Bool.false_eq_true, if_false] at f1
      have t4 : decide (o'.to < 0) = true := by
        unfold doneB at hd
        have := of_decide_eq_false hd
        exact decide_eq_true (by omega)
      simp only [SX, r2, r6, r7, r8, r9, evU.len len80, t1, decide_true, i1, fa, a1, a2, Nat.zero_add, evB_id xx, t3, j1, f3, t4, t2, Ok_some]
      exact .inl ⟨trivial, by omega, fun b hb hne => (ll.get b (by omega)).trans (w2 b hb hne), r2, r6, r7, r8, by rw [e3]; rfl, w', bo, (ll.get _ (by omega)).trans w4, by rw [compL_no f1]; exact w5.keep (by omega) (fun B hB => ll.get _ (w5.lt hB)), w6⟩
    | true =>
      rw [hd] at f1
      simp only [if_true] at f1
      have t4 : decide (o'.to < 0) = false := by
        unfold doneB at hd
        have := of_decide_eq_true hd
        exact decide_eq_false (by omega)
      obtain ⟨n, hn⟩ : ∃ n : EvT, n = { x with id := (rankN s.ops (j + 1) : Int) } := ⟨_, rfl⟩
      simp only [SX, r2, r6, r7, r8, r9, evU.len len80, t1, decide_true, i1, fa, a1, a2, Nat.zero_add, evB_id xx, t3, j1, f3, t4]
      refine Ok_loop (j + 1) (by omega) (fun k R' U' => U' = U2 ∧ R' 2 = .pointer (some ⟨W.next + 1, 0, none⟩) ∧ R' 6 = .pointer (some ⟨W2.next, 0, none⟩) ∧ R' 7 = u ∧ R' 8 = w ∧ R' 9 = .int .i64 (i : Int) ∧ R' 10 = .pointer (some ⟨U.next, 0, none⟩) ∧ R' 11 = .int .i64 (rankN s.ops k : Int) ∧ R' 12 = .int .i64 (k : Int))
        (fun r => r.1 = .exit 2 ∧ r.2.2 = U2 ∧ r.2.1 2 = .pointer (some ⟨W.next + 1, 0, none⟩) ∧ r.2.1 6 = .pointer (some ⟨W2.next, 0, none⟩) ∧ r.2.1 7 = u ∧ r.2.1 8 = w ∧ r.2.1 9 = .int .i64 (i : Int) ∧ r.2.1 10 = .pointer (some ⟨U.next, 0, none⟩) ∧ r.2.1 11 = .int .i64 (rankN s.ops (j + 1) : Int)) ⟨rfl, r2, r6, r7, r8, r9, rfl, rfl, rfl⟩ ?_ ?_ ?_
      · rintro k R' U' hk ⟨rfl, s2, s6, s7, s8, s9, s10, s11, s12⟩
        unfold ref24_Complete_L1_L2
        have v1 : ((k : Int) < x.id) := by omega
        have v2 := fun W' => oBin_add (P := Tryz.prog) (W := W') (t := 3) (c := false) (d := true) (a := (k : Int)) (b := 1) (by omega) (by omega)
        have hrl := rankN_le s.ops k
        have v3 := fun W' => oBin_add (P := Tryz.prog) (W := W') (t := 3) (c := false) (d := true) (a := (rankN s.ops k : Int)) (b := 1) (by omega) (by omega)
        have e4 : ((k + 1 : Nat) : Int) = (k : Int) + 1 := by omega
        have hkl : k < s.ops.length := by omega
        obtain ⟨b2, o2, m1, -, m3⟩ := HoL.get opU2 hkl
        obtain ⟨-, -, -, -, m4⟩ := m3 U' rfl
        have hrs := rankN_succ hkl
        generalize s.ops[k] = z at m4 hrs
        cases hz : doneB z with
        | false =>
          rw [hz, if_neg (by simp)] at hrs
          have v4 : decide (0 ≤ z.to) = false := hz
          simp only [SX, s2, s6, s7, s8, s9, s10, s11, s12, Nat.zero_add, evB_id xx, v1, decide_true, m1, m4, v4, v2, Ok_some]
          exact .inl ⟨trivial, trivial, s2, s6, s7, s8, s9, s10, by rw [hrs]; exact s11, by rw [e4]; rfl⟩
        | true =>
          rw [hz, if_pos rfl] at hrs
          have v4 : decide (0 ≤ z.to) = true := hz
          simp only [SX, s2, s6, s7, s8, s9, s10, s11, s12, Nat.zero_add, evB_id xx, v1, decide_true, m1, m4, v4, v2, v3, Ok_some]
          exact .inl ⟨trivial, trivial, s2, s6, s7, s8, s9, s10, by rw [hrs]; rfl, by rw [e4]; rfl⟩
      · rintro R' U' ⟨rfl, s2, s6, s7, s8, s9, s10, s11, s12⟩
        unfold ref24_Complete_L1_L2
        have v1 : ¬ (((j + 1 : Nat) : Int) < x.id) := by omega
        simp only [SX, s10, s12, Nat.zero_add, evB_id xx, v1, decide_false, Ok_some]
        exact ⟨by simp, trivial, trivial, s2, s6, s7, s8, s9, s10, s11⟩
      · rintro ⟨q, R', U'⟩ ⟨rfl, rfl, s2, s6, s7, s8, s9, s10, s11⟩
        simp only at s2 s6 s7 s8 s9 s10 s11 ll nn xx opU2
        obtain ⟨U3, c1, c2, c3, c4⟩ : ∃ U3, stV 1 (.pointer (some ⟨U.next, 0, none⟩)) (.int .i64 (rankN s.ops (j + 1) : Int)) U' = some (undef, U3) ∧ U3.get U.next = some (.cells (evC n)) ∧ U3.next = U'.next ∧ Le U U3 := ⟨_, stId xx _, by rw [AW.get_put, hn], AW.put_next _ _ _, ll.put (Nat.le_refl _) _⟩
        have w43 := (c4.get _ (by omega)).trans w4
        have w53 : LstA U3 24 evC w' (compL s.ops (l.take i)) bo := w5.keep (by omega) (fun B hB => c4.get _ (w5.lt hB))
        obtain ⟨w'', U4, U5, h1, h2, h3, h4, h5, h6⟩ := pushEv w43 w53 (fun e => by have := w6 _ e; omega) (by omega) (by omega) n
        have co : ldC (.pointer (some ⟨W2.next, 4, none⟩)) U3 = some (w', U3) := hiB_ev w43
        simp only [SX, s2, s6, s7, s8, s9, s10, s11, Nat.zero_add, c1, co, evB_all c2, bs80, h1, h2, t2, Ok_some]
        refine .inl ⟨trivial, by omega, fun b hb hne => ?_, s2, s6, s7, s8, by rw [e3]; rfl, w'', some (U3.next + 1), h3, ?_, fun B hB => by injection hB with hB; omega⟩
        · rw [h6 b (by omega) hne (fun e => by have := w6 _ e; omega), c4.get b (by omega)]
          exact w2 b hb hne
        · rw [compL_yes f1, ← hn]; exact h4
  · rintro R U ⟨w1, w2, r2, r6, r7, r8, r9, hw⟩
    unfold ref24_Complete_L1
    have t1 : ¬ ((l.length : Int) < (l.length : Int)) := by omega
    rw [List.take_length] at hw
    have evU : EvL U w l := row_away evC_len evw q3 (show 5 < 24 by decide) w1 w2
    simp only [SX, r8, r9, evU.len len80, t1, decide_false, Ok_some]
    exact ⟨by simp, trivial, w1, w2, r2, r6, hw⟩
  · rintro ⟨q, R, U⟩ ⟨rfl, w1, w2, r2, r6, w', bo, w4, w5, w6⟩
    simp only at r2 r6 w1 w2 w4 w5
    have y2' : U.get (W.next + 1) = some (.cells (hiC ven0 nilV nilV)) := (w2 _ (by omega) (by omega)).trans q2
    have st := stHi (v := v) (sv := sv) (u := w') y2' hK.one (lcells1 w5).2
    simp only [SX, r2, r6, hiB_all w4, st, oRes_L1n, oL82, hiB_all (AW.get_put _ _ _), Option.bind_some, Ok_some]
    have ul : ∀ b, b < W.next → U.get b = W.get b := fun b hb => (w2 b (by omega) (by omega)).trans ((p2.get b (by omega)).trans ((o2.get b (by omega)).trans ((z4.get b (by omega)).trans (hle.get b hb))))
    exact ⟨w', rfl, (⟨by omega, ul⟩ : Le W U).put (by omega) _, (w5.keep (by rw [AW.put_next]; omega) (fun B hB => AW.get_put_ne _ _ (by have := w6 B hB; omega))).lst.row evC_len (flatAt_in evC_len)⟩
theorem hiPlace (v : Ven) (sv u : Value) (h1 : Eng.one sv = true) (h2 : Eng.one u = true) (V : AW) : ∃ V1 V', oAlloc Tryz.prog 82 V = some (.pointer (some ⟨V.next, 0, none⟩), V1) ∧ stV 5 (.pointer (some ⟨V.next, 0, none⟩)) (hiV v sv u) V1 = some (undef, V') ∧ Le V V' ∧ V'.next = V.next + 1 ∧ V'.get V.next = some (.cells (hiC v sv u)) :=
  ⟨_, _, al82 V, stHi (AW.get_add _ _) h1 h2, ((Le.refl _).add _).put (Nat.le_refl _) _, by rw [AW.put_next, AW.add_next], AW.get_put _ _ _⟩
theorem comp_both {W : AW} {v : Ven} {sv ev : Value} {l : List EvT} {s : TL} (hG : GW W) (h : HiA W v sv ev l) (hK : HiK W v sv ev l) {a e : Int} (hA : Ans (venE v).2 l a e) (hs : e = 0 → Run l l.length s) :
    ∃ v' sv' x W1, omS (.func (.func 54) #[] #[]) [hiV v sv ev] W = some (.tuple #[hiV v' sv' x, .int .i64 e], W1) ∧ Le W W1 ∧ Eng.one sv' = true ∧ Eng.one x = true ∧ ∀ U, Le W1 U → ∃ y W2, omS (.func (.func 55) #[] #[]) [hiV v sv ev] U = some (.tuple #[hiV v' sv' y, .int .i64 e], W2) ∧ Le U W2 ∧ Eng.one y = true ∧ ∀ W3, Le W2 W3 → omS (.func (.func 58) #[] #[]) [hiV v' sv' x, hiV v' sv' y] W3 = some (.bool true, W3) := by
  by_cases he : e = 0
  · subst he
    have hs := hs rfl
    obtain ⟨x, W1, x1, x2, x3⟩ := hisComp_ok hG h hK hA hs
    have h400 := (hA.good rfl).2.1
    have hcl := compL_le s.ops l
    refine ⟨_, _, _, W1, x1, x2, hK.one, ev_one x3, fun U lU => ?_⟩
    obtain ⟨y, W2, y1, y2, y3⟩ := refComp_ok (h.mono (x2.trans lU)) (hK.mono (x2.trans lU)) hA hs
    exact ⟨_, W2, y1, y2, ev_one y3, fun W3 l3 => hisSame_ok (hK.secs.mono (((x2.trans lU).trans y2).trans l3)) h.small h.rows (((x3.mono lU).mono y2).mono l3) (y3.mono l3) (by omega)⟩
  · refine ⟨_, _, _, W, hisComp_bad hG h hA he, Le.refl _, rfl, rfl, fun U lU => ⟨_, U, refComp_bad (h.mono lU) hA he, Le.refl _, rfl, fun W3 _ => ?_⟩⟩
    exact hisSame_ok (v := ven0) ⟨none, 0, rfl, .inl rfl⟩ (by simp [ven0]) (by simp [ven0]) (evNil _ _ _) (evNil _ _ _) (by simp)
theorem cut_both {W : AW} {v : Ven} {sv ev : Value} {l : List EvT} (hG : GW W) (h : HiA W v sv ev l) (hK : HiK W v sv ev l) {a e : Int} (hA : Ans (venE v).2 l a e) (n : Int) :
    ∃ (v' : Ven) (sv' x : Value) (W1 : AW) (f : Int), omS (.func (.func 56) #[] #[]) [hiV v sv ev, .int .i64 n] W = some (.tuple #[hiV v' sv' x, .int .i64 f], W1) ∧ Le W W1 ∧ Eng.one sv' = true ∧ Eng.one x = true ∧ ∀ U, Le W1 U → ∃ y W2, omS (.func (.func 57) #[] #[]) [hiV v sv ev, .int .i64 n] U = some (.tuple #[hiV v' sv' y, .int .i64 f], W2) ∧ Le U W2 ∧ Eng.one y = true ∧ ∀ W3, Le W2 W3 → omS (.func (.func 58) #[] #[]) [hiV v' sv' x, hiV v' sv' y] W3 = some (.bool true, W3) := by
  by_cases hb : e ≠ 0 ∨ n < 0 ∨ (l.length : Int) < n
  · refine ⟨_, _, _, W, _, hisCut_bad hG h hA n hb, Le.refl _, rfl, rfl, fun U lU => ⟨_, U, refCut_bad (h.mono lU) hA n hb, Le.refl _, rfl, fun W3 _ => ?_⟩⟩
    exact hisSame_ok (v := ven0) ⟨none, 0, rfl, .inl rfl⟩ (by simp [ven0]) (by simp [ven0]) (evNil _ _ _) (evNil _ _ _) (by simp)
  · have he : e = 0 := Classical.byContradiction fun he => hb (.inl he)
    subst he
    have h400 := (hA.good rfl).2.1
    obtain ⟨k, rfl⟩ : ∃ k : Nat, n = (k : Int) := ⟨n.toNat, by omega⟩
    obtain ⟨x, W1, x1, x2, x3⟩ := hisCut_ok hG h hK hA (n := k) (by omega)
    refine ⟨_, _, _, W1, 0, x1, x2, hK.one, ev_one x3, fun U lU => ?_⟩
    obtain ⟨y, W2, y1, y2, y3⟩ := refCut_ok (h.mono (x2.trans lU)) (hK.mono (x2.trans lU)) hA (n := k) (by omega)
    exact ⟨_, W2, y1, y2, ev_one y3, fun W3 l3 => hisSame_ok (hK.secs.mono (((x2.trans lU).trans y2).trans l3)) h.small h.rows (((x3.mono lU).mono y2).mono l3) (y3.mono l3) (by rw [List.length_take]; omega)⟩
theorem histCuts_all {W : AW} {v : Ven} {sv ev : Value} {l : List EvT} (hG : GW W) (h : HiR W v sv ev l) (hK : HiK W v sv ev l) (n : Int) : omS (.func (.func 11) #[] #[]) [hiV v sv ev, .int .i64 n] W = some (.bool true, W) := by
  refine om_drop rfl ?_ law24_HistoryCuts_om
  unfold law24_HistoryCuts
  have hle : Le W (W.add (.cells (hiC v sv ev))) := (Le.refl W).add _
  have hg : (W.add (.cells (hiC v sv ev))).get W.next = some (.cells (hiC v sv ev)) := AW.get_add _ _
  have hn1 : (W.add (.cells (hiC v sv ev))).next = W.next + 1 := AW.add_next _ _
  simp only [SX, hiBox, Nat.zero_add]
  generalize W.add (.cells (hiC v sv ev)) = W1 at *
  have cB : ∀ {V : AW}, Le W1 V → ldA 5 (.pointer (some ⟨W.next, 0, none⟩)) V = some (hiV v sv ev, V) := fun {V} hv => hiB_all ((hv.get _ (by omega)).trans hg)
  obtain ⟨c, hf, hc⟩ := far_all (h.mono hle) 80
  have aw := fun {V : AW} (hv : Le W1 V) => awake24_ok ((hG.mono hle).mono hv)
  cases c with
  | true =>
    simp only [SX, cB (Le.refl _), hf, aw (Le.refl _), Ok_some]
    exact ⟨trivial, hle⟩
  | false =>
    obtain ⟨k, -⟩ := hc rfl
    have hG1 := hG.mono hle
    have hK1 := hK.mono hle
    obtain ⟨a, e, hA, -⟩ := refHis_ok k
    obtain ⟨s, hs⟩ := hA.run
    obtain ⟨v1, s1, x, W2, o1, o2, o3, o4, o5⟩ := comp_both hG1 k hK1 hA hs
    obtain ⟨A1, A2, a1, a2, a3, a4, a5⟩ := hiPlace v1 s1 x o3 o4 W2
    have l1 := o2.trans a3
    obtain ⟨y, W3, p1, p2, p3, p4⟩ := o5 A2 a3
    obtain ⟨B1, B2, b1, b2, b3, b4, b5⟩ := hiPlace v1 s1 y o3 p3 W3
    have l2 := (l1.trans p2).trans b3
    obtain ⟨v2, s2, x', W4, f, t1, t2, t3, t4, t5⟩ := cut_both (hG1.mono l2) (k.mono l2) (hK1.mono l2) hA n
    obtain ⟨C1, C2, c1, c2, c3, c4, c5⟩ := hiPlace v2 s2 x' t3 t4 W4
    have l3 := (l2.trans t2).trans c3
    obtain ⟨y', W5, u1, u2, u3, u4⟩ := t5 C2 c3
    obtain ⟨D1, D2, d1, d2, d3, d4, d5⟩ := hiPlace v2 s2 y' t3 u3 W5
    have l4 := (l3.trans u2).trans d3
    have ee : decide (e = e) = true := decide_eq_true rfl
    have ef : decide (f = f) = true := decide_eq_true rfl
    have na := a3.next
    have np := p2.next
    have nb := b3.next
    have nt := t2.next
    have nc := c3.next
    have nu := u2.next
    have gA : D2.get W2.next = some (.cells (hiC v1 s1 x)) := (d3.get _ (by omega)).trans ((u2.get _ (by omega)).trans ((c3.get _ (by omega)).trans ((t2.get _ (by omega)).trans ((b3.get _ (by omega)).trans ((p2.get _ (by omega)).trans a5)))))
    have gB : D2.get W3.next = some (.cells (hiC v1 s1 y)) := (d3.get _ (by omega)).trans ((u2.get _ (by omega)).trans ((c3.get _ (by omega)).trans ((t2.get _ (by omega)).trans b5)))
    have gC : D2.get W4.next = some (.cells (hiC v2 s2 x')) := (d3.get _ (by omega)).trans ((u2.get _ (by omega)).trans c5)
    have e1 := p4 D2 ((((b3.trans t2).trans c3).trans u2).trans d3)
    have e2 := u4 D2 d3
    simp only [SX, cB (Le.refl _), hf, o1, a1, a2, cB l1, p1, b1, b2, cB l2, t1, c1, c2, cB l3, u1, d1, d2, hiB_all gA, hiB_all gB, hiB_all gC, hiB_all d5, e1, e2, ee, ef, aw l4, Ok_some]
    exact ⟨trivial, hle.trans l4⟩
end Go.Proofs.YtnigceddndemkaaGreatDoor
namespace Go.Proofs.YtnigceddndemkaaGreatDoor
open Go Go.Eng Go.RowKit
set_option linter.unusedVariables false
set_option linter.unusedSimpArgs false
set_option linter.unusedSectionVars false
set_option maxRecDepth 100000
theorem dr_bool {W : AW} {n : Nat} {t : TypeId} {cs : List Value} (h : DR Tryz.prog W (n + 1) t cs) (ht : Tryz.prog.underlying t = some .bool) : ∃ b, cs = [.bool b] := by
  unfold DR at h; rw [ht] at h; exact h
theorem tk_of {W : AW} {n : Nat} {c : List Value} (h : DR Tryz.prog W (n + 2) 115 c) : ∃ a b d e : Int, c = [.int .u32 a, .int .u32 b, .int .u64 d, .int .u64 e] := by
  obtain ⟨c1, c2, rfl, h1, h2⟩ := (h.struct Tryz.underlying115).cons
  obtain ⟨c3, c4, rfl, h3, h4⟩ := h2.cons
  obtain ⟨c5, c6, rfl, h5, h6⟩ := h4.cons
  obtain ⟨c7, c8, rfl, h7, h8⟩ := h6.cons
  obtain rfl := h8.nil
  obtain ⟨a, rfl⟩ := h1.int Tryz.underlying35
  obtain ⟨b, rfl⟩ := h3.int Tryz.underlying35
  obtain ⟨d, rfl⟩ := h5.int Tryz.underlying36
  obtain ⟨e, rfl⟩ := h7.int Tryz.underlying36
  exact ⟨a, b, d, e, rfl⟩
theorem op_of {W : AW} {n : Nat} {c : List Value} (h : DR Tryz.prog W (n + 3) 117 c) : ∃ o : OpT, c = (opV o).cells.toList := by
  obtain ⟨c1, r1, rfl, h1, h⟩ := (h.struct Tryz.underlying117).cons
  obtain ⟨c2, r2, rfl, h2, h⟩ := h.cons
  obtain ⟨c3, r3, rfl, h3, h⟩ := h.cons
  obtain ⟨c4, r4, rfl, h4, h⟩ := h.cons
  obtain ⟨c5, r5, rfl, h5, h⟩ := h.cons
  obtain ⟨c6, r6, rfl, h6, h⟩ := h.cons
  obtain ⟨c7, r7, rfl, h7, h⟩ := h.cons
  obtain ⟨c8, r8, rfl, h8, h⟩ := h.cons
  obtain ⟨c9, r9, rfl, h9, h⟩ := h.cons
  obtain rfl := h.nil
  obtain ⟨x1, rfl⟩ := h1.int Tryz.underlying3
  obtain ⟨x2, rfl⟩ := h2.int Tryz.underlying35
  obtain ⟨x3, rfl⟩ := h3.int Tryz.underlying2
  obtain ⟨x4, rfl⟩ := h4.int Tryz.underlying3
  obtain ⟨x5, rfl⟩ := h5.int Tryz.underlying3
  obtain ⟨x6, rfl⟩ := h6.int Tryz.underlying3
  obtain ⟨x7, rfl⟩ := h7.int Tryz.underlying35
  obtain ⟨a, b, d, e, rfl⟩ := tk_of h8
  obtain ⟨x9, rfl⟩ := h9.int Tryz.underlying2
  exact ⟨⟨x1, x2, x3, x4, x5, x6, x7, a, b, d, e, x9⟩, rfl⟩
theorem rp_of {W : AW} {n : Nat} {c : List Value} (h : DR Tryz.prog W (n + 3) 119 c) : ∃ o : RpT, c = (rpV o).cells.toList := by
  obtain ⟨c1, r1, rfl, h1, h⟩ := (h.struct Tryz.underlying119).cons
  obtain ⟨c2, r2, rfl, h2, h⟩ := h.cons
  obtain ⟨c3, r3, rfl, h3, h⟩ := h.cons
  obtain ⟨c4, r4, rfl, h4, h⟩ := h.cons
  obtain ⟨c5, r5, rfl, h5, h⟩ := h.cons
  obtain ⟨c6, r6, rfl, h6, h⟩ := h.cons
  obtain rfl := h.nil
  obtain ⟨x1, rfl⟩ := h1.int Tryz.underlying29
  obtain ⟨x2, rfl⟩ := h2.int Tryz.underlying3
  obtain ⟨x3, rfl⟩ := h3.int Tryz.underlying3
  obtain ⟨x4, rfl⟩ := h4.int Tryz.underlying2
  obtain ⟨a, b, d, e, rfl⟩ := tk_of h5
  obtain ⟨x6, rfl⟩ := h6.int Tryz.underlying3
  exact ⟨⟨x1, x2, x3, x4, a, b, d, e, x6⟩, rfl⟩
theorem ev_of {W : AW} {n : Nat} {c : List Value} (h : DR Tryz.prog W (n + 4) 121 c) : ∃ e : EvT, c = evC e := by
  obtain ⟨c1, r1, rfl, h1, h⟩ := (h.struct Tryz.underlying121).cons
  obtain ⟨c2, r2, rfl, h2, h⟩ := h.cons
  obtain ⟨c3, r3, rfl, h3, h⟩ := h.cons
  obtain ⟨c4, r4, rfl, h4, h⟩ := h.cons
  obtain ⟨c5, r5, rfl, h5, h⟩ := h.cons
  obtain rfl := h.nil
  obtain ⟨x1, rfl⟩ := h1.int Tryz.underlying3
  obtain ⟨x2, rfl⟩ := h2.int Tryz.underlying3
  obtain ⟨x3, rfl⟩ := dr_bool h3 Tryz.underlying4
  obtain ⟨o, rfl⟩ := op_of h4
  obtain ⟨r, rfl⟩ := rp_of h5
  exact ⟨⟨x1, x2, x3, o, r⟩, rfl⟩
section
variable {H : Type} {enc : TypeId × Value → H} {w : World} {σ : Inj} {W : AW} {v0 : Value} {d : DataW H} {p : List MemPlace} {r : Reach} {b0 : Nat}
theorem agg_of {t : TypeId} {fs : Array Field} (ht : Tryz.prog.underlying t = some (.struct fs)) (hv : Value.okWide Tryz.prog w r b0 t v0) : ∃ cs, v0 = .agg cs := by
  unfold Value.okWide at hv
  rw [ht] at hv
  obtain ⟨cs, h, _⟩ := hv
  exact ⟨cs, h⟩
theorem sim82 : simT Tryz.prog 7 82 = true := by kernel_rfl
end
theorem openG {w : World} (hl : LaidG globW w.heap) : Opened (σG globW) (WG globW 5) w := ⟨rel_G rfl hl, allRo_G, 1, _, rfl⟩
theorem gw_W : GW (WG globW 5) := globW_G rfl (fun x hx => by
  have h2 : x = (0, usesV) ∨ x = (1, pow10V) ∨ x = (3, bru32V) ∨ x = (4, bru64V) := by simpa [globW] using hx
  rcases h2 with rfl | rfl | rfl | rfl <;> rfl)
theorem gw_le {W : AW} (h : Le (WG globW 5) W) : GW W := gw_W.mono h
theorem kidsT : Kids Tryz.prog (· < Tryz.prog.types.size) := kids_rows (by kernel_rfl) (by kernel_rfl)
theorem fullT : ∀ t e, t < Tryz.prog.types.size → Tryz.prog.underlying t = some (.slice e) → 0 < Tryz.prog.cellsOf e := slices_full_of Tryz.prog (by kernel_rfl)
theorem open_calls (hok : CalleeOK Tryz.prog PlanTab.ng omS) {w : World} {σ : Inj} {W : AW} (ho : Opened σ W w) (hs : Sub (σG globW) σ) {i : Nat} {args args' : List Value} (hr : LR σ args args') (h : omS (.func (.func i) #[] #[]) args W = some (.bool true, W)) :
    Calls Tryz.prog i args'.toArray w fun e w' => e = .returned (.bool true) ∧ Quiet w w' := by
  have hG : Glob σ [0, 1, 3, 4] := fun g hg => by
    obtain ⟨e, he⟩ := (glob_G (gs := globW) (ng := [0, 1, 3, 4]) rfl) g hg
    exact ⟨e, hs _ _ he⟩
  exact om_calls hok ho.rel hG ho.ro hr rfl h
theorem addr_of {W : AW} {n : Nat} {t e : TypeId} {v : Value} (h : DR Tryz.prog W (n + 1) t [v]) (ht : Tryz.prog.underlying t = some (.slice e)) : ∃ a l c, v = .slice a l c ∧ (a = none ∨ ∃ b, a = some ⟨b, 0, none⟩) := by
  obtain ⟨a, len, cap, e1, -, -, h3, -⟩ := h.sliceA ht
  injection e1 with e1
  exact ⟨a, len, cap, e1, h3⟩
theorem vs_of {v : Value} (h : ∃ a l c, v = .slice a l c ∧ (a = none ∨ ∃ b, a = some ⟨b, 0, none⟩)) : vs1 v v = true ∧ Eng.one v = true := by
  obtain ⟨a, l, c, rfl, rfl | ⟨b, rfl⟩⟩ := h
  · exact ⟨vs_none _ _, rfl⟩
  · exact ⟨vs1_slice _ _ _ _, rfl⟩
theorem sec_of2 {W : AW} {n : Nat} {c : List Value} (h : DR Tryz.prog W (n + 3) 130 c) : ∃ s : Sec, ∀ pre post, SecAt2 W (pre ++ (c ++ post)) pre.length s := by
  obtain ⟨c1, c2, rfl, h1, h2⟩ := (h.struct Tryz.underlying130).cons
  obtain ⟨c3, c4, rfl, h3, h4⟩ := h2.cons
  obtain ⟨c5, c6, rfl, h5, h6⟩ := h4.cons
  obtain rfl := h6.nil
  obtain ⟨s, rfl, _⟩ := h1.str Tryz.underlying9
  obtain ⟨rv, zs, rfl, hz, _⟩ := h3.ints Tryz.underlying69 Tryz.underlying3 (by kernel_rfl)
  have hv := vs_of (addr_of h3 Tryz.underlying69)
  obtain ⟨q, rfl⟩ := h5.int Tryz.underlying3
  refine ⟨⟨s.data.toList, zs, q⟩, fun pre post => ⟨⟨?_, ?_, rv, ?_, hz⟩, fun rv' hrv => ?_⟩⟩
  · rw [List.getElem?_append_right (by omega), bytesL_back]; simp
  · rw [List.getElem?_append_right (by omega), Nat.add_sub_cancel_left]; rfl
  · rw [List.getElem?_append_right (by omega), Nat.add_sub_cancel_left]; rfl
  · rw [List.getElem?_append_right (by omega), Nat.add_sub_cancel_left] at hrv
    injection hrv with hrv
    rw [← hrv]; exact hv
theorem his_of2 {W : AW} {n : Nat} {c : List Value} (h : DR Tryz.prog W (n + 6) 82 c) : ∃ (v : Ven) (sv ev : Value) (l : List EvT), c = [.int .i64 v.sh, .int .i64 v.ttl, .int .i64 v.ses, sv, ev] ∧ HiR W v sv ev l ∧ HiK W v sv ev l := by
  obtain ⟨c1, c2, rfl, h1, h2⟩ := (h.struct Tryz.underlying82).cons
  obtain ⟨c3, c4, rfl, h3, h4⟩ := h2.cons
  obtain rfl := h4.nil
  obtain ⟨d1, d2, rfl, i1, i2⟩ := (h1.struct Tryz.underlying24).cons
  obtain ⟨d3, d4, rfl, i3, i4⟩ := i2.cons
  obtain ⟨d5, d6, rfl, i5, i6⟩ := i4.cons
  obtain ⟨d7, d8, rfl, i7, i8⟩ := i6.cons
  obtain rfl := i8.nil
  obtain ⟨a, rfl⟩ := i1.int Tryz.underlying3
  obtain ⟨b, rfl⟩ := i3.int Tryz.underlying2
  obtain ⟨d, rfl⟩ := i5.int Tryz.underlying2
  obtain ⟨sv, sl, rfl, hr, ac, hrc⟩ := i7.row Tryz.underlying22 (at_ := SecAt2 W) (fun c _ hc => sec_of2 hc)
  have hsv := vs_of (addr_of i7 Tryz.underlying22)
  obtain ⟨ev, l, rfl, he, a', c', he1, he2, he3, -⟩ := h3.row Tryz.underlying80 (at_ := flatAt 24 evC) (fun c _ hc => by
    obtain ⟨e, rfl⟩ := ev_of hc
    exact ⟨e, fun pre post => flatAt_in evC_len e pre post⟩)
  have hec := addr_of h3 Tryz.underlying80
  have hsec : Secs2 W sv sl := hr
  have hrow : Row W 3 (SecAt W) sv sl := Secs2.secs hsec
  refine ⟨⟨a, b, d, sl⟩, sv, ev, l, rfl, ⟨⟨hrow, ac, hrc⟩, he⟩, ⟨hsec, hsv.1, hsv.2, a', c', he1, he2, he3, ?_⟩⟩
  obtain ⟨a2, l2, c2, e2, e3⟩ := hec
  rw [he1] at e2
  injection e2 with e4 e5 e6
  rw [e4]
  rcases e3 with e3 | ⟨b2, e3⟩
  · exact .inl e3
  · exact .inr ⟨b2, 0, e3⟩
section
variable {H : Type} {enc : TypeId × Value → H} {w : World} {σ : Inj} {W : AW} {v0 : Value} {d : DataW H} {p : List MemPlace} {r : Reach} {b0 : Nat}
theorem openHis2 (ho : Opened σ W w) (hv : Value.okWide Tryz.prog w r b0 82 v0) (h : DataW.Trod enc Tryz.prog w 0 (fun _ => true) true 82 v0 d p) :
    ∃ (σ2 : Inj) (W2 : AW) (v : Ven) (sv ev : Value) (l : List EvT), Opened σ2 W2 w ∧ Sub σ σ2 ∧ Le W W2 ∧ VR σ2 (hiV v sv ev) v0 ∧ HiR W2 v sv ev l ∧ HiK W2 v sv ev l := by
  obtain ⟨cs, rfl⟩ := agg_of Tryz.underlying82 hv
  obtain ⟨m, hm⟩ := h
  obtain ⟨σ2, W2, cs2, o2, s2, l2, r2, a2⟩ := opens_trod sim82 hm σ W ho
  obtain ⟨v, sv, ev, l, rfl, hs, hk⟩ := his_of2 a2
  exact ⟨σ2, W2, v, sv, ev, l, o2, s2, l2, .agg' (a := #[.int .i64 v.sh, .int .i64 v.ttl, .int .i64 v.ses, sv, ev]) r2, hs, hk⟩
end
end Go.Proofs.YtnigceddndemkaaGreatDoor
