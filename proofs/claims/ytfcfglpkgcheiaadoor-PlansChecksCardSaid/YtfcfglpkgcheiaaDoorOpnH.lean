/- Slices that read as lists. -/
import Derived.Test.YtfcfglpkgcheiaaDoorOpnG
namespace Go.Eng
open Go
set_option linter.unusedSectionVars false
set_option linter.unusedSimpArgs false
set_option linter.unusedVariables false
variable [PlanTab]
/-! what is looked at first: so a text is walked from its head -/
@[congr] theorem bnd_congr {α ρ : Type} {x y : Option α} {g : α → Option ρ} (h : x = y) : bnd x g = bnd y g := by rw [h]
@[congr] theorem bIf_congr {ρ : Type} {c d : Bool} {a b : ρ} (h : c = d) : bIf c a b = bIf d a b := by rw [h]
@[congr] theorem vIf_congr {ρ : Type} {c d : Value} {a b : Option ρ} (h : c = d) : vIf c a b = vIf d a b := by rw [h]
@[congr] theorem kExit_congr {ρ : Type} {i : Nat} {x y : X} {a b : Option ρ} (h : x = y) : kExit i x a b = kExit i y a b := by rw [h]
@[congr] theorem kNorm_congr {ρ : Type} {x y : X} {a b : Option ρ} (h : x = y) : kNorm x a b = kNorm y a b := by rw [h]
@[congr] theorem kRetX_congr {ρ : Type} {x y : X} {a : Option ρ} (h : x = y) : kRetX x a = kRetX y a := by rw [h]


theorem gc_int {W W' : AW} {k : IntKind} {n : Int} (h : Le W W') : gc W (.int k n, W') = (.int k n, W) := gc_plain rfl h
theorem gc_bool {W W' : AW} {b : Bool} (h : Le W W') : gc W (.bool b, W') = (.bool b, W) := gc_plain rfl h
theorem gc_ii {W W' : AW} {k k' : IntKind} {n m : Int} (h : Le W W') : gc W (.tuple #[.int k n, .int k' m], W') = (.tuple #[.int k n, .int k' m], W) := gc_plain rfl h
theorem gc_bi {W W' : AW} {k' : IntKind} {n : Bool} {m : Int} (h : Le W W') : gc W (.tuple #[.bool n, .int k' m], W') = (.tuple #[.bool n, .int k' m], W) := gc_plain rfl h
theorem gc_iii {W W' : AW} {k k' k2 : IntKind} {n m x : Int} (h : Le W W') : gc W (.tuple #[.int k n, .int k' m, .int k2 x], W') = (.tuple #[.int k n, .int k' m, .int k2 x], W) := gc_plain rfl h

section
variable {P : Program} {W : AW}
theorem natOf_pos {k : IntKind} {n : Int} (h : 0 ≤ n) : natOf (.int k n) = some n.toNat := by
  obtain ⟨m, rfl⟩ : ∃ m : Nat, n = (m : Int) := ⟨n.toNat, by omega⟩
  exact Eq.trans rfl rfl
theorem ixA_pos {len z b o : Nat} {k : IntKind} {n : Int} (h0 : 0 ≤ n) (h : n.toNat < len) : ixA len z (.pointer (some ⟨b, o, none⟩)) (.int k n) W = some (.pointer (some ⟨b, o + n.toNat * z, none⟩), W) := by
  unfold ixA
  simp only [natOf_pos h0, if_pos h, addr_add]
theorem glbV_eq (g : Nat) : glbV g = .pointer (some ⟨g, 0, none⟩) := Eq.trans rfl rfl
theorem add_put (W : AW) (o o' : AObj) : (W.add o).put W.next o' = W.add o' := by
  unfold AW.add AW.put
  simp only [T.set_set]
theorem put_put (W : AW) (b : Nat) (o o' : AObj) : (W.put b o).put b o' = W.put b o' := by
  unfold AW.put
  simp only [T.set_set]
theorem cells_int (k : IntKind) (n : Int) : (Value.int k n).cells = #[.int k n] := Eq.trans rfl rfl
theorem cells_agg (cs : Array Value) : (Value.agg cs).cells = cs := Eq.trans rfl rfl
theorem setN_one (cs : List Value) (o : Nat) (v : Value) (h : o < cs.length) : setN cs o [v] = cs.set o v := by
  unfold setN
  rw [List.set_eq_take_append_cons_drop]
  simp [h]
theorem stV_one {b o : Nat} {v : Value} (h : v.cells = #[v]) (h1 : one v = true) : stV 1 (.pointer (some ⟨b, o, none⟩)) v W = (rwCells W b).bind fun cs => if o < cs.length then some (undef, W.put b (.cells (cs.set o v))) else none := by
  rw [stV_eq, h]
  congr 1
  funext cs
  by_cases hl : o < cs.length
  · rw [if_pos hl, if_pos ⟨rfl, by simp; omega, by simp [h1]⟩, setN_one _ _ _ hl]
  · rw [if_neg hl, if_neg (fun x => hl (by have := x.2.1; simp at this; omega))]
theorem stV_int {b o : Nat} {k : IntKind} {n : Int} : stV 1 (.pointer (some ⟨b, o, none⟩)) (.int k n) W = (rwCells W b).bind fun cs => if o < cs.length then some (undef, W.put b (.cells (cs.set o (.int k n)))) else none := stV_one rfl rfl
theorem stV_bool {b o : Nat} {x : Bool} : stV 1 (.pointer (some ⟨b, o, none⟩)) (.bool x) W = (rwCells W b).bind fun cs => if o < cs.length then some (undef, W.put b (.cells (cs.set o (.bool x)))) else none := stV_one rfl rfl
theorem stV_string {b o : Nat} {x : ByteArray} : stV 1 (.pointer (some ⟨b, o, none⟩)) (.string x) W = (rwCells W b).bind fun cs => if o < cs.length then some (undef, W.put b (.cells (cs.set o (.string x)))) else none := stV_one rfl rfl
theorem stV_slice {b o : Nat} {x : Option Addr} {l c : Nat} : stV 1 (.pointer (some ⟨b, o, none⟩)) (.slice x l c) W = (rwCells W b).bind fun cs => if o < cs.length then some (undef, W.put b (.cells (cs.set o (.slice x l c)))) else none := stV_one rfl rfl
theorem stV_agg {n b o : Nat} {vs : Array Value} : stV n (.pointer (some ⟨b, o, none⟩)) (.agg vs) W = (rwCells W b).bind fun cs => if vs.size = n ∧ o + vs.toList.length ≤ cs.length ∧ vs.toList.all one = true then some (undef, W.put b (.cells (setN cs o vs.toList))) else none := stV_eq
theorem one_int (k : IntKind) (n : Int) : one (.int k n) = true := Eq.trans rfl rfl
theorem one_string (s : ByteArray) : one (.string s) = true := Eq.trans rfl rfl
theorem one_bool (s : Bool) : one (.bool s) = true := Eq.trans rfl rfl
theorem one_slice (a : Option Addr) (l c : Nat) : one (.slice a l c) = true := Eq.trans rfl rfl
theorem ldC_at {b o : Nat} {cs : List Value} (h : cellsAt W b = some cs) : ldC (.pointer (some ⟨b, o, none⟩)) W = (cs[o]?).map fun v => (v, W) := by rw [ldC_eq, h]; rfl
theorem agV_true {r : Option (Value × AW)} {u v : Value} {W' : AW} (h : r = some (u, W')) (h2 : vsame u v = true) : agV true r v = true := by
  subst h; exact h2
theorem vsame_int (k : IntKind) (n : Int) : vsame (.int k n) (.int k n) = true := by simp [vsame, vs1]
theorem vsame_bool (b : Bool) : vsame (.bool b) (.bool b) = true := by simp [vsame, vs1]
theorem vsame_string (s : ByteArray) : vsame (.string s) (.string s) = true := by simp [vsame, vs1, bytesEq]
theorem vsL_refl : ∀ {l : List Value}, (∀ v ∈ l, vs1 v v = true) → vsL l l = true
  | [], _ => rfl
  | v :: l, h => by simp only [vsL, h v (by simp), Bool.true_and]; exact vsL_refl fun u hu => h u (by simp [hu])
theorem oBin_agg_neq {t : TypeId} {c d : Bool} {x y : Array Value} {r : Bool} (hg : P.eqGuardType P.depth t = false) (h : aEqS P 8 t (.agg x) (.agg y) = some r) : oBin P .neq t c d (.agg x) (.agg y) W = some (.bool (!r), W) := by
  have h0 : aEql P W t (.agg x) (.agg y) = none := by unfold aEql; split <;> first | rfl | simp_all
  unfold oBin aBin
  simp only [h0, aEqT, hg, Bool.false_eq_true, if_false, h, Option.map_some]
theorem oBin_agg_eql {t : TypeId} {c d : Bool} {x y : Array Value} {r : Bool} (hg : P.eqGuardType P.depth t = false) (h : aEqS P 8 t (.agg x) (.agg y) = some r) : oBin P .eql t c d (.agg x) (.agg y) W = some (.bool r, W) := by
  have h0 : aEql P W t (.agg x) (.agg y) = none := by unfold aEql; split <;> first | rfl | simp_all
  unfold oBin aBin
  simp only [h0, aEqT, hg, Bool.false_eq_true, if_false, h, Option.map_some]
/-- one pair behind the other -/
noncomputable def eqAll : List (Int × Int) → Option Bool
  | [] => some true
  | p :: l => match some (p.1 == p.2) with
    | some true => eqAll l
    | some false => some false
    | none => none
theorem eqAll_eq : ∀ l : List (Int × Int), eqAll l = some (l.all fun p => p.1 == p.2)
  | [] => rfl
  | p :: l => by
    unfold eqAll
    cases h : p.1 == p.2 with
    | true => simp only [List.all_cons, h, Bool.true_and]; exact eqAll_eq l
    | false => simp only [List.all_cons, h, Bool.false_and]
theorem vs1_int (k : IntKind) (n : Int) : vs1 (.int k n) (.int k n) = true := by simp [vs1]
theorem vs1_string (s : ByteArray) : vs1 (.string s) (.string s) = true := by simp [vs1, bytesEq]
theorem vs1_bool (s : Bool) : vs1 (.bool s) (.bool s) = true := by simp [vs1]
theorem addrEq_refl (a : Addr) (h : a.spot = none) : addrEq a a = true := by obtain ⟨b, o, s⟩ := a; simp only at h; subst h; simp [addrEq]
theorem vs1_slice (b o l c : Nat) : vs1 (.slice (some ⟨b, o, none⟩) l c) (.slice (some ⟨b, o, none⟩) l c) = true := by simp [vs1, addrEq]
theorem vs1_snil (l c : Nat) : vs1 (.slice none l c) (.slice none l c) = true := by simp [vs1]
theorem vs1_ptr (b o : Nat) : vs1 (.pointer (some ⟨b, o, none⟩)) (.pointer (some ⟨b, o, none⟩)) = true := by simp [vs1, addrEq]
theorem vsame_agg {cs : Array Value} (h : vsL cs.toList cs.toList = true) : vsame (.agg cs) (.agg cs) = true := h
theorem vsame_agg4 (a b c d : Value) (h1 : vs1 a a = true) (h2 : vs1 b b = true) (h3 : vs1 c c = true) (h4 : vs1 d d = true) : vsame (.agg #[a, b, c, d]) (.agg #[a, b, c, d]) = true := vsame_agg (by simp [vsL, h1, h2, h3, h4])
theorem vsame_agg3 (a b c : Value) (h1 : vs1 a a = true) (h2 : vs1 b b = true) (h3 : vs1 c c = true) : vsame (.agg #[a, b, c]) (.agg #[a, b, c]) = true := vsame_agg (by simp [vsL, h1, h2, h3])
theorem vsame_slice (b o l c : Nat) : vsame (.slice (some ⟨b, o, none⟩) l c) (.slice (some ⟨b, o, none⟩) l c) = true := vs1_slice b o l c
theorem vsame_snil (l c : Nat) : vsame (.slice none l c) (.slice none l c) = true := vs1_snil l c
theorem vsame_ptr (b o : Nat) : vsame (.pointer (some ⟨b, o, none⟩)) (.pointer (some ⟨b, o, none⟩)) = true := vs1_ptr b o
theorem agV_some {u v : Value} {W' : AW} : agV true (some (u, W')) v = vsame u v := Eq.trans rfl rfl
end

/-! ### that a text answers, and what -/
def Ok {ρ : Type} (t : Option ρ) (G : ρ → Prop) : Prop := ∃ x, t = some x ∧ G x
theorem Ok_some {ρ : Type} {x : ρ} {G : ρ → Prop} : Ok (some x) G ↔ G x := ⟨fun ⟨y, h, g⟩ => by injection h with h; subst h; exact g, fun g => ⟨x, rfl, g⟩⟩
theorem Ok.mono {ρ : Type} {t : Option ρ} {G H : ρ → Prop} (h : Ok t G) (hg : ∀ x, G x → H x) : Ok t H := let ⟨x, a, b⟩ := h; ⟨x, a, hg x b⟩
theorem Ok_bnd {α ρ : Type} {x : Option α} {K : α → Option ρ} {H : α → Prop} {G : ρ → Prop} (h : Ok x H) (hk : ∀ a, H a → Ok (K a) G) : Ok (bnd x K) G := by
  obtain ⟨a, rfl, ha⟩ := h
  rw [bnd_some]
  exact hk a ha
theorem Ok_step {α ρ : Type} {x : Option α} {a : α} {K : α → Option ρ} {G : ρ → Prop} (h : x = some a) (hk : Ok (K a) G) : Ok (bnd x K) G := by rw [h, bnd_some]; exact hk
theorem Ok_bT {ρ : Type} {c : Bool} {a b : Option ρ} {G : ρ → Prop} (h : c = true) (hk : Ok a G) : Ok (bIf c a b) G := by rw [h]; exact hk
theorem Ok_bF {ρ : Type} {c : Bool} {a b : Option ρ} {G : ρ → Prop} (h : c = false) (hk : Ok b G) : Ok (bIf c a b) G := by rw [h]; exact hk
theorem Ok_vIf {ρ : Type} {c : Bool} {a b : Option ρ} {G : ρ → Prop} (h1 : c = true → Ok a G) (h2 : c = false → Ok b G) : Ok (bIf c a b) G := by
  cases c
  · exact h2 rfl
  · exact h1 rfl
/-- A LOOP of at most n rounds before the last -/
theorem Ok_loop {ρ : Type} {body : PlanTab.Fr → AW → Option LT} {R : PlanTab.Fr} {W : AW} {K : LT → Option ρ} {G : ρ → Prop} (n : Nat) (hn : n < 1000000) (I : Nat → PlanTab.Fr → AW → Prop) (Q : LT → Prop) (h0 : I 0 R W)
    (hs : ∀ k R W, k < n → I k R W → Ok (body R W) fun r => (r.1 = .normal ∧ I (k + 1) r.2.1 r.2.2) ∨ (r.1 ≠ .normal ∧ Q r))
    (he : ∀ R W, I n R W → Ok (body R W) fun r => r.1 ≠ .normal ∧ Q r) (hk : ∀ r, Q r → Ok (K r) G) : Ok (bnd (loopO body R W) K) G := by
  obtain ⟨r, h1, h2⟩ := loop_rule n hn I Q h0 hs he
  rw [h1, bnd_some]
  exact hk r h2
/-- what a function answers whose garbage is dropped -/
theorem om_drop {o t : Option (Value × AW)} {v : Value} {W : AW} (hv : (plain v && !isU v) = true) (h : Ok t fun r => r.1 = v ∧ Le W r.2) (hom : ∀ {r}, t = some r → o = some (gc W r)) : o = some (v, W) := by
  obtain ⟨⟨u, W'⟩, h1, h2, h3⟩ := h
  simp only at h2
  subst h2
  rw [hom h1, gc_plain hv h3]

/-- v reads as the list l: each element of z cells, 'at' says what stands in them -/
def Row {α : Type} (W : AW) (z : Nat) (at_ : List Value → Nat → α → Prop) (v : Value) (l : List α) : Prop :=
  ∃ a c, v = .slice a l.length c ∧ (l = [] ∨ ∃ b o cs, a = some ⟨b, o, none⟩ ∧ b < W.next ∧ cellsAt W b = some cs ∧ ∀ i (h : i < l.length), at_ cs (o + i * z) l[i])
def intAt (k : IntKind) (cs : List Value) (p : Nat) (n : Int) : Prop := cs[p]? = some (.int k n)
abbrev Ints (W : AW) (v : Value) (l : List Int) : Prop := Row W 1 (intAt .i64) v l
theorem Row.mono {α : Type} {W W' : AW} {z : Nat} {at_ : List Value → Nat → α → Prop} {v : Value} {l : List α} (h : Row W z at_ v l) (hle : Le W W') : Row W' z at_ v l := by
  obtain ⟨a, c, rfl, h⟩ := h
  refine ⟨a, c, rfl, ?_⟩
  rcases h with h | ⟨b, o, cs, h1, h2, h3, h4⟩
  · exact .inl h
  · exact .inr ⟨b, o, cs, h1, Nat.lt_of_lt_of_le h2 hle.next, by rw [hle.cellsAt h2]; exact h3, h4⟩
theorem Row.len {α : Type} {W : AW} {z : Nat} {at_ : List Value → Nat → α → Prop} {v : Value} {l : List α} (h : Row W z at_ v l) {P : Program} {ts : Array TypeId} {e : TypeId} (ht : (ts[0]?).bind P.underlying = some (.slice e)) (W' : AW) (ty : TypeId) (cf : Array Bool) :
    oBuiltin P .len ts ty cf [v] W' = some (.int .i64 l.length, W') := by
  obtain ⟨a, c, rfl, _⟩ := h
  exact len_slice ht _ _ _
/-- the address of an element, and its cells -/
theorem Row.elem {α : Type} {W : AW} {z : Nat} {at_ : List Value → Nat → α → Prop} {v : Value} {l : List α} (h : Row W z at_ v l) {i : Nat} (hi : i < l.length) :
    ∃ b o cs, (∀ W' k, ixS z v (.int k (i : Int)) W' = some (.pointer (some ⟨b, o, none⟩), W')) ∧ b < W.next ∧ cellsAt W b = some cs ∧ at_ cs o l[i] := by
  obtain ⟨a, c, rfl, h⟩ := h
  rcases h with rfl | ⟨b, o, cs, rfl, h2, h3, h4⟩
  · simp at hi
  · exact ⟨b, o + i * z, cs, fun W' k => ixS_ok hi, h2, h3, h4 i hi⟩
theorem Ints.get {W : AW} {v : Value} {l : List Int} (h : Ints W v l) {i : Nat} (hi : i < l.length) :
    ∃ p, (∀ W' k, ixS 1 v (.int k (i : Int)) W' = some (p, W')) ∧ ∀ W', Le W W' → ldC p W' = some (.int .i64 l[i], W') := by
  obtain ⟨b, o, cs, h1, h2, h3, h4⟩ := h.elem hi
  exact ⟨_, h1, fun W' hle => ldC_ok (by rw [hle.cellsAt h2]; exact h3) h4⟩
end Go.Eng
