/- A part: contracts and laws. -/
import Derived.Test.YthjakbhkmpdblaaGreatDoorPartB
import Derived.RowKit3
import Derived.ProofKit
import Derived.OpenShut
import Derived.Maps.RangeWalk
import Derived.Orders
import Derived.RowKit
import Derived.Sort.Grow
import Derived.ChangeArms
import Derived.ReadAgain
import Derived.Shelf.SlIterI.Nil
import Derived.Maps.Range
set_option linter.unusedSectionVars false
set_option linter.unusedVariables false
namespace Go.Eng
open Go
section
variable [PlanTab]
@[congr] theorem bnd_congr {α ρ : Type} {x y : Option α} {g : α → Option ρ} (h : x = y) : bnd x g = bnd y g := by rw [h]
@[congr] theorem bIf_congr {ρ : Type} {c d : Bool} {a b : ρ} (h : c = d) : bIf c a b = bIf d a b := by rw [h]
@[congr] theorem vIf_congr {ρ : Type} {c d : Value} {a b : Option ρ} (h : c = d) : vIf c a b = vIf d a b := by rw [h]
@[congr] theorem kExit_congr {ρ : Type} {i : Nat} {x y : X} {a b : Option ρ} (h : x = y) : kExit i x a b = kExit i y a b := by rw [h]
@[congr] theorem kNorm_congr {ρ : Type} {x y : X} {a b : Option ρ} (h : x = y) : kNorm x a b = kNorm y a b := by rw [h]
@[congr] theorem kRetX_congr {ρ : Type} {x y : X} {a : Option ρ} (h : x = y) : kRetX x a = kRetX y a := by rw [h]


theorem gc_int {W W' : AW} {k : IntKind} {n : Int} (h : Le W W') : gc W (.int k n, W') = (.int k n, W) := gc_plain rfl h
theorem gc_bool {W W' : AW} {b : Bool} (h : Le W W') : gc W (.bool b, W') = (.bool b, W) := gc_plain rfl h
section
variable {P : Program} {W : AW}
theorem natOf_pos {k : IntKind} {n : Int} (h : 0 ≤ n) : natOf (.int k n) = some n.toNat := by
  obtain ⟨m, rfl⟩ : ∃ m : Nat, n = (m : Int) := ⟨n.toNat, by omega⟩
  exact Eq.trans rfl rfl
theorem ixA_pos {len z b o : Nat} {k : IntKind} {n : Int} (h0 : 0 ≤ n) (h : n.toNat < len) : ixA len z (.pointer (some ⟨b, o, none⟩)) (.int k n) W = some (.pointer (some ⟨b, o + n.toNat * z, none⟩), W) := by
  unfold ixA
  simp only [natOf_pos h0, if_pos h, addr_add]
theorem glbV_eq (g : Nat) : glbV g = .pointer (some ⟨g, 0, none⟩) := Eq.trans rfl rfl
theorem add_put (W : AW) (o o' : AObj) : (W.add o).put W.next o' = W.add o' := by
  unfold AW.add AW.put
  simp only [T.set_set]
theorem put_put (W : AW) (b : Nat) (o o' : AObj) : (W.put b o).put b o' = W.put b o' := by
  unfold AW.put
  simp only [T.set_set]
theorem cells_agg (cs : Array Value) : (Value.agg cs).cells = cs := Eq.trans rfl rfl
theorem setN_one (cs : List Value) (o : Nat) (v : Value) (h : o < cs.length) : setN cs o [v] = cs.set o v := by
  unfold setN
  rw [List.set_eq_take_append_cons_drop]
  simp [h]
theorem stV_one {b o : Nat} {v : Value} (h : v.cells = #[v]) (h1 : one v = true) : stV 1 (.pointer (some ⟨b, o, none⟩)) v W = (rwCells W b).bind fun cs => if o < cs.length then some (undef, W.put b (.cells (cs.set o v))) else none := by
  rw [stV_eq, h]
  congr 1
  funext cs
  by_cases hl : o < cs.length
  · rw [if_pos hl, if_pos ⟨rfl, by simp; omega, by simp [h1]⟩, setN_one _ _ _ hl]
  · rw [if_neg hl, if_neg (fun x => hl (by have := x.2.1; simp at this; omega))]
theorem stV_int {b o : Nat} {k : IntKind} {n : Int} : stV 1 (.pointer (some ⟨b, o, none⟩)) (.int k n) W = (rwCells W b).bind fun cs => if o < cs.length then some (undef, W.put b (.cells (cs.set o (.int k n)))) else none := stV_one rfl rfl
theorem stV_bool {b o : Nat} {x : Bool} : stV 1 (.pointer (some ⟨b, o, none⟩)) (.bool x) W = (rwCells W b).bind fun cs => if o < cs.length then some (undef, W.put b (.cells (cs.set o (.bool x)))) else none := stV_one rfl rfl
theorem stV_string {b o : Nat} {x : ByteArray} : stV 1 (.pointer (some ⟨b, o, none⟩)) (.string x) W = (rwCells W b).bind fun cs => if o < cs.length then some (undef, W.put b (.cells (cs.set o (.string x)))) else none := stV_one rfl rfl
theorem stV_slice {b o : Nat} {x : Option Addr} {l c : Nat} : stV 1 (.pointer (some ⟨b, o, none⟩)) (.slice x l c) W = (rwCells W b).bind fun cs => if o < cs.length then some (undef, W.put b (.cells (cs.set o (.slice x l c)))) else none := stV_one rfl rfl
theorem stV_agg {n b o : Nat} {vs : Array Value} : stV n (.pointer (some ⟨b, o, none⟩)) (.agg vs) W = (rwCells W b).bind fun cs => if vs.size = n ∧ o + vs.toList.length ≤ cs.length ∧ vs.toList.all one = true then some (undef, W.put b (.cells (setN cs o vs.toList))) else none := stV_eq
theorem one_int (k : IntKind) (n : Int) : one (.int k n) = true := Eq.trans rfl rfl
theorem one_string (s : ByteArray) : one (.string s) = true := Eq.trans rfl rfl
theorem one_bool (s : Bool) : one (.bool s) = true := Eq.trans rfl rfl
theorem one_slice (a : Option Addr) (l c : Nat) : one (.slice a l c) = true := Eq.trans rfl rfl
theorem agV_true {r : Option (Value × AW)} {u v : Value} {W' : AW} (h : r = some (u, W')) (h2 : vsame u v = true) : agV true r v = true := by
  subst h; exact h2
theorem vsame_int (k : IntKind) (n : Int) : vsame (.int k n) (.int k n) = true := by simp [vsame, vs1]
theorem vsame_bool (b : Bool) : vsame (.bool b) (.bool b) = true := by simp [vsame, vs1]
theorem vsame_string (s : ByteArray) : vsame (.string s) (.string s) = true := by simp [vsame, vs1, bytesEq]
theorem oBin_agg_neq {t : TypeId} {c d : Bool} {x y : Array Value} {r : Bool} (hg : P.eqGuardType P.depth t = false) (h : aEqS P 8 t (.agg x) (.agg y) = some r) : oBin P .neq t c d (.agg x) (.agg y) W = some (.bool (!r), W) := by
  have h0 : aEql P W t (.agg x) (.agg y) = none := by unfold aEql; split <;> first | rfl | simp_all
  unfold oBin aBin
  simp only [h0, aEqT, hg, Bool.false_eq_true, if_false, h, Option.map_some]
noncomputable def eqAll : List (Int × Int) → Option Bool
  | [] => some true
  | p :: l => match some (p.1 == p.2) with
    | some true => eqAll l
    | some false => some false
    | none => none
theorem eqAll_eq : ∀ l : List (Int × Int), eqAll l = some (l.all fun p => p.1 == p.2)
  | [] => rfl
  | p :: l => by
    unfold eqAll
    cases h : p.1 == p.2 with
    | true => simp only [List.all_cons, h, Bool.true_and]; exact eqAll_eq l
    | false => simp only [List.all_cons, h, Bool.false_and]
theorem vs1_int (k : IntKind) (n : Int) : vs1 (.int k n) (.int k n) = true := by simp [vs1]
theorem vs1_string (s : ByteArray) : vs1 (.string s) (.string s) = true := by simp [vs1, bytesEq]
theorem vs1_bool (s : Bool) : vs1 (.bool s) (.bool s) = true := by simp [vs1]
theorem vs1_slice (b o l c : Nat) : vs1 (.slice (some ⟨b, o, none⟩) l c) (.slice (some ⟨b, o, none⟩) l c) = true := by simp [vs1, addrEq]
theorem vs1_snil (l c : Nat) : vs1 (.slice none l c) (.slice none l c) = true := by simp [vs1]
theorem vs1_ptr (b o : Nat) : vs1 (.pointer (some ⟨b, o, none⟩)) (.pointer (some ⟨b, o, none⟩)) = true := by simp [vs1, addrEq]
theorem vsame_agg {cs : Array Value} (h : vsL cs.toList cs.toList = true) : vsame (.agg cs) (.agg cs) = true := h
theorem vsame_agg4 (a b c d : Value) (h1 : vs1 a a = true) (h2 : vs1 b b = true) (h3 : vs1 c c = true) (h4 : vs1 d d = true) : vsame (.agg #[a, b, c, d]) (.agg #[a, b, c, d]) = true := vsame_agg (by simp [vsL, h1, h2, h3, h4])
theorem vsame_slice (b o l c : Nat) : vsame (.slice (some ⟨b, o, none⟩) l c) (.slice (some ⟨b, o, none⟩) l c) = true := vs1_slice b o l c
theorem vsame_snil (l c : Nat) : vsame (.slice none l c) (.slice none l c) = true := vs1_snil l c
theorem vsame_ptr (b o : Nat) : vsame (.pointer (some ⟨b, o, none⟩)) (.pointer (some ⟨b, o, none⟩)) = true := vs1_ptr b o
theorem agV_some {u v : Value} {W' : AW} : agV true (some (u, W')) v = vsame u v := Eq.trans rfl rfl
end

def Ok {ρ : Type} (t : Option ρ) (G : ρ → Prop) : Prop := ∃ x, t = some x ∧ G x
theorem Ok_some {ρ : Type} {x : ρ} {G : ρ → Prop} : Ok (some x) G ↔ G x := ⟨fun ⟨y, h, g⟩ => by injection h with h; subst h; exact g, fun g => ⟨x, rfl, g⟩⟩
theorem Ok.mono {ρ : Type} {t : Option ρ} {G H : ρ → Prop} (h : Ok t G) (hg : ∀ x, G x → H x) : Ok t H := let ⟨x, a, b⟩ := h; ⟨x, a, hg x b⟩
theorem Ok_loop {ρ : Type} {body : PlanTab.Fr → AW → Option LT} {R : PlanTab.Fr} {W : AW} {K : LT → Option ρ} {G : ρ → Prop} (n : Nat) (hn : n < 1000000) (I : Nat → PlanTab.Fr → AW → Prop) (Q : LT → Prop) (h0 : I 0 R W)
    (hs : ∀ k R W, k < n → I k R W → Ok (body R W) fun r => (r.1 = .normal ∧ I (k + 1) r.2.1 r.2.2) ∨ (r.1 ≠ .normal ∧ Q r))
    (he : ∀ R W, I n R W → Ok (body R W) fun r => r.1 ≠ .normal ∧ Q r) (hk : ∀ r, Q r → Ok (K r) G) : Ok (bnd (loopO body R W) K) G := by
  obtain ⟨r, h1, h2⟩ := loop_rule n hn I Q h0 hs he
  rw [h1, bnd_some]
  exact hk r h2
theorem om_drop {o t : Option (Value × AW)} {v : Value} {W : AW} (hv : (plain v && !isU v) = true) (h : Ok t fun r => r.1 = v ∧ Le W r.2) (hom : ∀ {r}, t = some r → o = some (gc W r)) : o = some (v, W) := by
  obtain ⟨⟨u, W'⟩, h1, h2, h3⟩ := h
  simp only at h2
  subst h2
  rw [hom h1, gc_plain hv h3]

def Row {α : Type} (W : AW) (z : Nat) (at_ : List Value → Nat → α → Prop) (v : Value) (l : List α) : Prop :=
  ∃ a c, v = .slice a l.length c ∧ (l = [] ∨ ∃ b o cs, a = some ⟨b, o, none⟩ ∧ b < W.next ∧ cellsAt W b = some cs ∧ ∀ i (h : i < l.length), at_ cs (o + i * z) l[i])
def intAt (k : IntKind) (cs : List Value) (p : Nat) (n : Int) : Prop := cs[p]? = some (.int k n)
abbrev Ints (W : AW) (v : Value) (l : List Int) : Prop := Row W 1 (intAt .i64) v l
theorem Row.mono {α : Type} {W W' : AW} {z : Nat} {at_ : List Value → Nat → α → Prop} {v : Value} {l : List α} (h : Row W z at_ v l) (hle : Le W W') : Row W' z at_ v l := by
  obtain ⟨a, c, rfl, h⟩ := h
  refine ⟨a, c, rfl, ?_⟩
  rcases h with h | ⟨b, o, cs, h1, h2, h3, h4⟩
  · exact .inl h
  · exact .inr ⟨b, o, cs, h1, Nat.lt_of_lt_of_le h2 hle.next, by rw [hle.cellsAt h2]; exact h3, h4⟩
theorem Row.len {α : Type} {W : AW} {z : Nat} {at_ : List Value → Nat → α → Prop} {v : Value} {l : List α} (h : Row W z at_ v l) {P : Program} {ts : Array TypeId} {e : TypeId} (ht : (ts[0]?).bind P.underlying = some (.slice e)) (W' : AW) (ty : TypeId) (cf : Array Bool) :
    oBuiltin P .len ts ty cf [v] W' = some (.int .i64 l.length, W') := by
  obtain ⟨a, c, rfl, _⟩ := h
  exact len_slice ht _ _ _
theorem Row.elem {α : Type} {W : AW} {z : Nat} {at_ : List Value → Nat → α → Prop} {v : Value} {l : List α} (h : Row W z at_ v l) {i : Nat} (hi : i < l.length) :
    ∃ b o cs, (∀ W' k, ixS z v (.int k (i : Int)) W' = some (.pointer (some ⟨b, o, none⟩), W')) ∧ b < W.next ∧ cellsAt W b = some cs ∧ at_ cs o l[i] := by
  obtain ⟨a, c, rfl, h⟩ := h
  rcases h with rfl | ⟨b, o, cs, rfl, h2, h3, h4⟩
  · simp at hi
  · exact ⟨b, o + i * z, cs, fun W' k => ixS_ok hi, h2, h3, h4 i hi⟩
theorem Ints.get {W : AW} {v : Value} {l : List Int} (h : Ints W v l) {i : Nat} (hi : i < l.length) :
    ∃ p, (∀ W' k, ixS 1 v (.int k (i : Int)) W' = some (p, W')) ∧ ∀ W', Le W W' → ldC p W' = some (.int .i64 l[i], W') := by
  obtain ⟨b, o, cs, h1, h2, h3, h4⟩ := h.elem hi
  exact ⟨_, h1, fun W' hle => ldC_ok (by rw [hle.cellsAt h2]; exact h3) h4⟩
end
end Go.Eng
namespace Go.Eng
open Go Go.RowKit
section
variable [PlanTab]

def okTrue : Option (Value × AW) → Bool
  | some (v, _) => match v with
    | .bool b => b
    | _ => false
  | none => false
theorem okTrue_eq {r : Option (Value × AW)} (h : okTrue r = true) : ∃ W, r = some (.bool true, W) := by
  unfold okTrue at h
  split at h
  · rename_i v W
    split at h
    · subst h; exact ⟨W, rfl⟩
    · cases h
  · cases h

theorem noSpec {P : Program} {ng : List Nat} : CalleeOK P ng (fun _ _ _ => none) := fun f args W v W' h => by cases h

def GrownB (W w' : World) : Prop := W.keptBut w' (fun _ => False) ∧ (∀ a : Addr, a.block < W.heap.size → w'.frozen? a = W.frozen? a) ∧ W.heap.size ≤ w'.heap.size
theorem GrownB.frame {W w' : World} (h : GrownB W w') (may : MemPlace → Prop) : W.keptBut w' may := World.keptBut_mono (fun _ f => f.elim) h.1
theorem plains_rel {σ : Inj} : ∀ {args : List Value}, args.all plain = true → LR σ args args := by
  intro args h
  exact LR.refl_of (fun v => plain_refl) h
end
section
variable [PlanTab]

def σG (gs : List (Nat × List Value)) : Inj := fun b => (gs.find? (fun x => x.1 == b)).map fun x => ⟨x.1, 0, x.2.length⟩
noncomputable def treeG (gs : List (Nat × List Value)) : T AObj := gs.foldr (fun x t => T.set (some (.ro x.2)) (path x.1) t) .lf
noncomputable def WG (gs : List (Nat × List Value)) (N : Nat) : AW := ⟨treeG gs, N⟩
theorem treeG_get (b : Nat) : ∀ gs : List (Nat × List Value), T.get (path b) (treeG gs) = (gs.find? (fun x => x.1 == b)).map fun x => AObj.ro x.2
  | [] => T.get_lf _
  | x :: gs => by
    show T.get (path b) (T.set (some (.ro x.2)) (path x.1) (treeG gs)) = _
    by_cases h : x.1 = b
    · subst h
      rw [T.get_set]
      simp
    · rw [T.get_set_ne _ _ _ _ (path_ne h), treeG_get b gs]
      have hb : (x.1 == b) = false := by simpa using h
      rw [List.find?_cons, hb]
def LaidG (gs : List (Nat × List Value)) (h : Array Obj) : Prop :=
  ∀ x ∈ gs, ∃ c t fr, h[x.1]? = some (.cells c t fr) ∧ ∀ (i : Nat) (v : Value), x.2[i]? = some v → c[i]? = some v ∧ scalar v = true
theorem σG_some {gs : List (Nat × List Value)} {b : Nat} {g : Seg} (h : σG gs b = some g) : ∃ x ∈ gs, x.1 = b ∧ g = ⟨b, 0, x.2.length⟩ ∧ T.get (path b) (treeG gs) = some (AObj.ro x.2) := by
  unfold σG at h
  cases hf : gs.find? (fun x => x.1 == b) with
  | none => rw [hf] at h; cases h
  | some x =>
    rw [hf] at h
    have hb : x.1 = b := by simpa using List.find?_some hf
    refine ⟨x, List.mem_of_find?_eq_some hf, hb, ?_, ?_⟩
    · cases h; subst hb; rfl
    · show T.get (path b) (treeG gs) = _
      rw [treeG_get, hf]; rfl
theorem rel_G {gs : List (Nat × List Value)} {N : Nat} (hN : gs.all (fun x => Nat.blt x.1 N) = true) {h : Array Obj} (hl : LaidG gs h) : WRel (σG gs) (WG gs N) h where
  free b hb := by
    show T.get (path b) (treeG gs) = none
    rw [treeG_get]
    cases hf : gs.find? (fun x => x.1 == b) with
    | none => rfl
    | some x =>
      have hxb : x.1 = b := by simpa using List.find?_some hf
      have := List.all_eq_true.1 hN x (List.mem_of_find?_eq_some hf)
      have : x.1 < N := by simpa [Nat.blt_eq] using this
      exact absurd hb (by show ¬ N ≤ b; omega)
  dom b g hb := by
    obtain ⟨x, hx, rfl, rfl, _⟩ := σG_some hb
    obtain ⟨c, t, fr, h1, _⟩ := hl x hx
    have := List.all_eq_true.1 hN x hx
    have h3 : x.1 < N := by simpa [Nat.blt_eq] using this
    exact ⟨h3, (Array.getElem?_eq_some_iff.1 h1).1⟩
  obj b o g hb hg := by
    obtain ⟨x, hx, rfl, rfl, ht⟩ := σG_some hg
    obtain ⟨c, t, fr, h1, h2⟩ := hl x hx
    obtain rfl : o = .ro x.2 := Option.some.inj (hb.symm.trans ht)
    exact ⟨c, t, fr, h1, by simp, fun i v hv => ⟨v, by simpa using (h2 i v hv).1, scalar_refl (h2 i v hv).2⟩⟩
  disj b1 b2 o1 o2 g1 g2 hne _ _ h1 h2 _ := by
    obtain ⟨x1, _, rfl, rfl, _⟩ := σG_some h1
    obtain ⟨x2, _, rfl, rfl, _⟩ := σG_some h2
    exact .inl hne
theorem glob_G {gs : List (Nat × List Value)} {ng : List Nat} (h : ng.all (fun g => (gs.find? (fun x => x.1 == g)).isSome) = true) : Glob (σG gs) ng := by
  intro g hg
  have := List.all_eq_true.1 h g hg
  cases hf : gs.find? (fun x => x.1 == g) with
  | none => rw [hf] at this; cases this
  | some x =>
    have hxb : x.1 = g := by simpa using List.find?_some hf
    exact ⟨x.2.length, by unfold σG; rw [hf]; subst hxb; rfl⟩
theorem mut_G {gs : List (Nat × List Value)} {N : Nat} {B : Nat} : ¬ Mut (σG gs) (WG gs N) B := by
  rintro ⟨b, g, hg, _, hro⟩
  obtain ⟨x, _, _, _, ht⟩ := σG_some hg
  exact hro x.2 ht
end
end Go.Eng
namespace Go.Eng
open Go Go.RowKit Go.ChangeShapes
section
variable {H : Type} {enc : TypeId × Value → H} {P : Program} {w : World} {base : Nat} {spare : Nat → Bool} {held : Bool}

end
end Go.Eng
namespace Go.Eng
open Go Go.RowKit
open Go.Maps (Keyed)
section
variable [PlanTab]

section
variable {H : Type}
def ent (j : Nat) (g b : Bool) : List (Lit × DataW H) := match g with | true => [(.int .i64 ((2 ^ j : Nat) : Int), .lit (.bool b))] | false => []
def Dof (g0 g1 g2 g3 g4 g5 g6 g7 b0 b1 b2 b3 b4 b5 b6 b7 : Bool) : DataW H :=
  .map (ent 0 g0 b0 ++ (ent 1 g1 b1 ++ (ent 2 g2 b2 ++ (ent 3 g3 b3 ++ (ent 4 g4 b4 ++ (ent 5 g5 b5 ++ (ent 6 g6 b6 ++ ent 7 g7 b7)))))))
variable (g0 g1 g2 g3 g4 g5 g6 g7 b0 b1 b2 b3 b4 b5 b6 b7 : Bool)
theorem put0 : (Dof (H := H) g0 g1 g2 g3 g4 g5 g6 g7 b0 b1 b2 b3 b4 b5 b6 b7).put (.int .i64 1) (.lit (.bool b0)) = Dof true g1 g2 g3 g4 g5 g6 g7 b0 b1 b2 b3 b4 b5 b6 b7 := by
  cases g0 <;> cases g1 <;> cases g2 <;> cases g3 <;> cases g4 <;> cases g5 <;> cases g6 <;> cases g7 <;> rfl
theorem put1 : (Dof (H := H) g0 g1 g2 g3 g4 g5 g6 g7 b0 b1 b2 b3 b4 b5 b6 b7).put (.int .i64 2) (.lit (.bool b1)) = Dof g0 true g2 g3 g4 g5 g6 g7 b0 b1 b2 b3 b4 b5 b6 b7 := by
  cases g0 <;> cases g1 <;> cases g2 <;> cases g3 <;> cases g4 <;> cases g5 <;> cases g6 <;> cases g7 <;> rfl
theorem put2 : (Dof (H := H) g0 g1 g2 g3 g4 g5 g6 g7 b0 b1 b2 b3 b4 b5 b6 b7).put (.int .i64 4) (.lit (.bool b2)) = Dof g0 g1 true g3 g4 g5 g6 g7 b0 b1 b2 b3 b4 b5 b6 b7 := by
  cases g0 <;> cases g1 <;> cases g2 <;> cases g3 <;> cases g4 <;> cases g5 <;> cases g6 <;> cases g7 <;> rfl
theorem put3 : (Dof (H := H) g0 g1 g2 g3 g4 g5 g6 g7 b0 b1 b2 b3 b4 b5 b6 b7).put (.int .i64 8) (.lit (.bool b3)) = Dof g0 g1 g2 true g4 g5 g6 g7 b0 b1 b2 b3 b4 b5 b6 b7 := by
  cases g0 <;> cases g1 <;> cases g2 <;> cases g3 <;> cases g4 <;> cases g5 <;> cases g6 <;> cases g7 <;> rfl
theorem put4 : (Dof (H := H) g0 g1 g2 g3 g4 g5 g6 g7 b0 b1 b2 b3 b4 b5 b6 b7).put (.int .i64 16) (.lit (.bool b4)) = Dof g0 g1 g2 g3 true g5 g6 g7 b0 b1 b2 b3 b4 b5 b6 b7 := by
  cases g0 <;> cases g1 <;> cases g2 <;> cases g3 <;> cases g4 <;> cases g5 <;> cases g6 <;> cases g7 <;> rfl
theorem put5 : (Dof (H := H) g0 g1 g2 g3 g4 g5 g6 g7 b0 b1 b2 b3 b4 b5 b6 b7).put (.int .i64 32) (.lit (.bool b5)) = Dof g0 g1 g2 g3 g4 true g6 g7 b0 b1 b2 b3 b4 b5 b6 b7 := by
  cases g0 <;> cases g1 <;> cases g2 <;> cases g3 <;> cases g4 <;> cases g5 <;> cases g6 <;> cases g7 <;> rfl
theorem put6 : (Dof (H := H) g0 g1 g2 g3 g4 g5 g6 g7 b0 b1 b2 b3 b4 b5 b6 b7).put (.int .i64 64) (.lit (.bool b6)) = Dof g0 g1 g2 g3 g4 g5 true g7 b0 b1 b2 b3 b4 b5 b6 b7 := by
  cases g0 <;> cases g1 <;> cases g2 <;> cases g3 <;> cases g4 <;> cases g5 <;> cases g6 <;> cases g7 <;> rfl
theorem put7 : (Dof (H := H) g0 g1 g2 g3 g4 g5 g6 g7 b0 b1 b2 b3 b4 b5 b6 b7).put (.int .i64 128) (.lit (.bool b7)) = Dof g0 g1 g2 g3 g4 g5 g6 true b0 b1 b2 b3 b4 b5 b6 b7 := by
  cases g0 <;> cases g1 <;> cases g2 <;> cases g3 <;> cases g4 <;> cases g5 <;> cases g6 <;> cases g7 <;> rfl
end

theorem own_update {H : Type} {P : Program} {k e t : TypeId} {w : World} {R : Value → Option (DataW H × List MemPlace)} {b n : Nat} {D : DataW H} (h : w.ownsMap P k R b n D) (K : Keyed P k) (ht : P.underlying t = some (.map k e)) (hn : n < maxLen) {key val : Value} {kl : Lit} {d : DataW H} {ps : List MemPlace}
    (hkey : keyOf P k key = some kl) (hv : R val = some (d, ps)) : ∃ w', (Instr.mapUpdate t (.map (some b)) key val).run P w = .ok () w' ∧ w'.ownsMap P k R b (n + 1) (D.put kl d) ∧ w.grownBy w' (some b) ∧ w'.heap.size = w.heap.size := by
  obtain ⟨w', h1, h2, h3⟩ := h.update K ht hn hkey hv
  obtain ⟨es, clock, hb, F, hs, rfl⟩ := h
  obtain ⟨es', clock', hrun, _⟩ := Maps.fit_store (R' := R) K ht hb F (Nat.lt_of_le_of_lt hs hn) (fun _ _ _ _ hz => hz) hkey hv
  refine ⟨w', h1, h2, h3, ?_⟩
  rw [hrun] at h1
  injection h1 with _ h1
  rw [← h1]
  simp [Go.ChangeMaps.setBlock]

theorem own_cold {H : Type} {P : Program} {k : TypeId} {w : World} {R : Value → Option (DataW H × List MemPlace)} {b n : Nat} {D : DataW H} (h : w.ownsMap P k R b n D) {a : Addr} (ha : a.block = b) : w.frozen? a = false := by
  obtain ⟨es, clock, hb, _⟩ := h
  unfold World.frozen?
  rw [ha, hb]
theorem none_cold {w : World} {a : Addr} (h : w.heap.size ≤ a.block) : w.frozen? a = false := by
  unfold World.frozen?
  rw [Array.getElem?_eq_none h]

theorem ext_other {σ0 σ : Inj} {W0 W : AW} {w0 w w' : World} (h : Ext σ0 W0 w0 σ W w) {m : Nat} (hm : w0.heap.size ≤ m) (hg : w.grownBy w' (some m)) (hfr : ∀ a, w'.frozen? a = w.frozen? a) : Ext σ0 W0 w0 σ W w' :=
  ⟨h.sub, h.ro, Nat.le_trans h.size hg.size, hg.os.trans h.os, hg.tape.trans h.tape, hg.output.trans h.output,
   fun B hB hn => (hg.block B (Nat.lt_of_lt_of_le hB h.size) (fun e => by injection e with e; omega)).trans (h.keep B hB hn), h.ghost, h.grow⟩
theorem rel_other {σ : Inj} {W : AW} {w w' : World} (h : WRel σ W w.heap) {m : Nat} (hm : ∀ b g, σ b = some g → g.B ≠ m) (hg : w.grownBy w' (some m)) : WRel σ W w'.heap where
  free := h.free
  dom b g hb := ⟨(h.dom b g hb).1, Nat.lt_of_lt_of_le (h.dom b g hb).2 hg.size⟩
  obj b o g hb hσ := (h.obj b o g hb hσ).same (hg.block _ (h.dom b g hσ).2 (fun e => by injection e with e; exact hm b g hσ e))
  disj := h.disj

def edgeTo (e : Nat) (o : Oper) : Bool := o.after.any fun x => Region.binds .any x && Nat.beq x.on e
theorem edgeTo_listed {e : Nat} {o : Oper} {listed : Array Bool} (h : edgeTo e o = true) (hr : ∀ x ∈ o.after, Region.binds .any x = true → listed.getD x.on false = true) : listed.getD e false = true := by
  unfold edgeTo at h
  rw [Array.any_eq_true'] at h
  obtain ⟨x, hx, hb⟩ := h
  rw [Bool.and_eq_true, Nat.beq_eq] at hb
  obtain ⟨hb, rfl⟩ := hb
  exact hr x hx hb
def argOK (ops : Array Oper) (o : Oper) (x : Operand) : Bool := match x with
  | .const v => plain v
  | .tmp t => Nat.beq t 1 || o.after.any fun e => Region.binds .any e && (match ops[e.on]? with | some o' => (match o'.dst with | some d => Nat.beq d t && (Nat.blt 14 d && Nat.blt d 40) | none => false) | none => false)
  | _ => false
def pureOK (ops : Array Oper) (o : Oper) : Bool := o.guard.isNone && (match o.dst with | some d => Nat.blt 14 d && Nat.blt d 40 | none => false) && o.op.operands.toList.all (argOK ops o)
def insOK (ops : Array Oper) (TM key s k : Nat) (o : Oper) : Bool := o.guard.isNone && o.dst.isNone && edgeTo 0 o && edgeTo k o &&
  (match o.op with | .insert t (.tmp m) (.const (.int .i64 (.ofNat n))) (.tmp v) => Nat.beq t TM && Nat.beq m 14 && Nat.beq n key && Nat.beq v s && Nat.blt 14 s && Nat.blt s 40 | _ => false) &&
  (match ops[k]? with | some o' => (match o'.dst with | some d => Nat.beq d s | none => false) | none => false)
def shapeAt (ops : Array Oper) (TM : Nat) (i : Nat) (o : Oper) : Bool := match i with
  | 0 => o.guard.isNone && (match o.op, o.dst with | .makeMap t none, some d => Nat.beq t TM && Nat.beq d 14 | _, _ => false)
  | 4 => insOK ops TM 1 17 3 o
  | 8 => insOK ops TM 2 20 7 o
  | 12 => insOK ops TM 4 23 11 o
  | 16 => insOK ops TM 8 26 15 o
  | 20 => insOK ops TM 16 29 19 o
  | 24 => insOK ops TM 32 32 23 o
  | 29 => insOK ops TM 64 36 28 o
  | 33 => insOK ops TM 128 39 32 o
  | 34 => o.guard.isNone && (match o.op, o.dst with | .move (.tmp x), some d => Nat.beq x 14 && Nat.beq d 40 | _, _ => false) && (List.range 34).all fun e => edgeTo e o
  | 35 => o.guard.isNone && (match o.op, o.dst with | .range t (.tmp x), some d => Nat.beq t TM && Nat.beq x 40 && Nat.beq d 41 | _, _ => false) && edgeTo 34 o
  | _ => pureOK ops o
def isPure (i : Nat) : Bool := match i with | 0 | 4 | 8 | 12 | 16 | 20 | 24 | 29 | 33 | 34 | 35 => false | _ => true
def backOK (i : Nat) (o : Oper) : Bool := o.after.all fun e => Nat.blt e.on i
def shapeOK (ops : Array Oper) (TM : Nat) : Bool := Nat.beq ops.size 36 && (List.range 36).all fun i => match ops[i]? with | some o => shapeAt ops TM i o && backOK i o | none => false

theorem wpOp_value {P : Program} {ops : Array Oper} {Q : Exit → Act → World → Prop} {i : Nat} {K : Act → World → Prop} {a : Act} {w w' : World} {o : Oper} {v : Value} (ho : ops[i]? = some o) (hg : o.guard = none)
    (h : (execOp a.eval o).run P w = .ok (.value v) w') (hk : K (a.put o.dst v) w') : wpOp P ops Q i K a w := by
  unfold wpOp
  rw [ho]
  have : Region.wanted o (yielded ops a.tmps) = true := by unfold Region.wanted; rw [hg]
  simp only [this, if_true]
  refine .inl ?_
  unfold Oper.wp
  rw [h]
  exact hk
theorem wpOp_skip {P : Program} {ops : Array Oper} {Q : Exit → Act → World → Prop} {i : Nat} {K : Act → World → Prop} {a : Act} {w w' : World} {o : Oper} (ho : ops[i]? = some o) (hg : o.guard = none)
    (h : (execOp a.eval o).run P w = .ok .skip w') (hk : K (a.put o.dst undef) w') : wpOp P ops Q i K a w := by
  unfold wpOp
  rw [ho]
  have : Region.wanted o (yielded ops a.tmps) = true := by unfold Region.wanted; rw [hg]
  simp only [this, if_true]
  refine .inl ?_
  unfold Oper.wp
  rw [h]
  exact hk

section
variable {P : Program} {ops : Array Oper} {nt TM TK TE : Nat} {σ0 : Inj} {W : AW} {R : PlanTab.Fr} {w0 : World} {tm0 : Array Value} {ds : List Deferred} {b0 b1 b2 b3 b4 b5 b6 b7 : Bool} {l : Array Bool} {a : Act} {w : World}

def Dl (l : Array Bool) (b0 b1 b2 b3 b4 b5 b6 b7 : Bool) : DataW Unit :=
  Dof (l.getD 4 false) (l.getD 8 false) (l.getD 12 false) (l.getD 16 false) (l.getD 20 false) (l.getD 24 false) (l.getD 29 false) (l.getD 33 false) b0 b1 b2 b3 b4 b5 b6 b7

structure RB (ops : Array Oper) (nt : Nat) (tm0 : Array Value) (ds : List Deferred) (l : Array Bool) (a : Act) : Prop where
  lsz : l.size = 36
  tsz : a.tmps.size = nt
  dfs : a.defers = ds
  down : ∀ i, l.getD i false = true → ∀ o, ops[i]? = some o → ∀ e ∈ o.after, Region.binds .any e = true → l.getD e.on false = true
  old : ∀ t, (t < 14 ∨ 41 < t) → a.tmps[t]? = tm0[t]?
def RM (P : Program) (TK TE : Nat) (w0 : World) (b0 b1 b2 b3 b4 b5 b6 b7 : Bool) (l : Array Bool) (a : Act) (w : World) (σ : Inj) (m n : Nat) : Prop :=
  (∀ b g, σ b = some g → g.B ≠ m) ∧ w0.heap.size ≤ m ∧ a.tmps.getD 14 undef = .map (some m) ∧ n ≤ (List.range 36).countP (fun i => l.getD i false) ∧ (l.getD 34 false = true → a.tmps.getD 40 undef = .map (some m)) ∧
      (l.getD 35 false = false → w.ownsMap P TK (plainElem P TE) m n (Dl l b0 b1 b2 b3 b4 b5 b6 b7)) ∧
      (l.getD 35 false = true → ∃ r, a.tmps.getD 41 undef = .pointer (some ⟨r, 0, none⟩) ∧ (∀ b g, σ b = some g → g.B ≠ r) ∧ w0.heap.size ≤ r ∧
        w.ranges P TK (plainElem P TE) m r n (Dl l b0 b1 b2 b3 b4 b5 b6 b7) (Maps.has (Dl l b0 b1 b2 b3 b4 b5 b6 b7)) (Maps.size (Dl l b0 b1 b2 b3 b4 b5 b6 b7)))
structure RI (P : Program) (ops : Array Oper) (nt TK TE : Nat) (σ0 : Inj) (W : AW) (R : PlanTab.Fr) (w0 : World) (tm0 : Array Value) (ds : List Deferred) (b0 b1 b2 b3 b4 b5 b6 b7 : Bool)
    (l : Array Bool) (a : Act) (w : World) : Prop where
  base : RB ops nt tm0 ds l a
  world : ∃ σ, WRel σ W w.heap ∧ Ext σ0 W w0 σ W w ∧ (∀ i o d, ops[i]? = some o → isPure i = true → l.getD i false = true → o.dst = some d → VR σ (rget R d) (a.tmps.getD d undef)) ∧
    (l.getD 0 false = true → ∃ m n, RM P TK TE w0 b0 b1 b2 b3 b4 b5 b6 b7 l a w σ m n)
structure RF (P : Program) (ops : Array Oper) (nt TM TK TE : Nat) (σ0 : Inj) (W : AW) (R : PlanTab.Fr) (tm0 : Array Value) (b0 b1 b2 b3 b4 b5 b6 b7 : Bool) : Prop where
  size : ops.size = 36
  shape : ∀ i o, ops[i]? = some o → shapeAt ops TM i o = true
  back : ∀ i o, ops[i]? = some o → backOK i o = true
  does : ∀ i o d, ops[i]? = some o → isPure i = true → o.dst = some d → ∀ (σ : Inj) (w : World) (ρ : Operand → Value), WRel σ W w.heap → (∀ x ∈ o.op.operands, VR σ (aEval R x) (ρ x)) → Does P σ W w (execOp ρ o) (rget R d) W
  v0 : rget R 17 = .bool b0
  v1 : rget R 20 = .bool b1
  v2 : rget R 23 = .bool b2
  v3 : rget R 26 = .bool b3
  v4 : rget R 29 = .bool b4
  v5 : rget R 32 = .bool b5
  v6 : rget R 36 = .bool b6
  v7 : rget R 39 = .bool b7
  ptr : VR σ0 (rget R 1) (tm0.getD 1 undef)
  nt : 42 ≤ nt
  TM : P.underlying TM = some (.map TK TE)
  TK : P.underlying TK = some (.int .i64)
  TE : P.underlying TE = some .bool

theorem count_set {l : Array Bool} {i : Nat} (hi : i < 36) (hs : l.size = 36) (h : l.getD i false = false) : (List.range 36).countP (fun k => l.getD k false) + 1 ≤ (List.range 36).countP (fun k => (l.setIfInBounds i true).getD k false) := by
  refine countP_lt (x := i) (by simpa using hi) (set_same (by omega) false) h fun y hy => ?_
  by_cases e : i = y
  · subst e; exact set_same (by omega) false
  · rw [set_ne e]; exact hy
theorem count_le {l : Array Bool} : (List.range 36).countP (fun k => l.getD k false) ≤ 36 := by
  have := List.countP_le_length (p := fun k => l.getD k false) (l := List.range 36)
  simpa using this
theorem same_false {l : Array Bool} {i : Nat} (h : l.getD i true = false) (hi : i < l.size) : l.getD i false = false := by
  simp only [Array.getD_eq_getD_getElem?] at h ⊢
  rw [Array.getElem?_eq_getElem hi] at h ⊢
  exact h

theorem dst_in (hF : RF P ops nt TM TK TE σ0 W R tm0 b0 b1 b2 b3 b4 b5 b6 b7) {i : Nat} {o : Oper} (ho : ops[i]? = some o) : o.guard = none ∧ (isPure i = true → (∃ d, o.dst = some d ∧ 14 < d ∧ d < 40) ∧ o.op.operands.toList.all (argOK ops o) = true) ∧
    (∀ d, o.dst = some d → 14 ≤ d ∧ d ≤ 41) ∧ (∀ d, o.dst = some d → 14 < d → d < 40 → isPure i = true) := by
  have hs := hF.shape i o ho
  by_cases hp : isPure i = true
  · have hq : pureOK ops o = true := by
      unfold shapeAt at hs
      unfold isPure at hp
      split at hs <;> first | exact hs | (simp at hp; done)
    unfold pureOK at hq
    simp only [Bool.and_eq_true, Option.isNone_iff_eq_none] at hq
    obtain ⟨⟨h1, h2⟩, h3⟩ := hq
    cases hd : o.dst with
    | none => rw [hd] at h2; cases h2
    | some d =>
      rw [hd] at h2
      simp only [Bool.and_eq_true, Nat.blt_eq] at h2
      refine ⟨h1, fun _ => ⟨⟨d, rfl, h2⟩, h3⟩, fun d' e => ?_, fun _ _ _ _ => hp⟩
      injection e with e; subst e
      exact ⟨Nat.le_of_lt h2.1, Nat.le_of_lt (Nat.lt_trans h2.2 (by decide))⟩
  · refine ⟨?_, fun h => absurd h hp, ?_, ?_⟩
    · unfold shapeAt at hs
      unfold isPure at hp
      split at hs <;> simp_all [insOK]
    · intro d hd
      unfold shapeAt at hs
      unfold isPure at hp
      split at hs <;> simp_all [insOK]
      all_goals (first | (split at hs <;> simp_all) | skip)
      all_goals omega
    · intro d hd h1 h2
      exfalso
      unfold shapeAt at hs
      unfold isPure at hp
      split at hs <;> simp_all [insOK]
      all_goals (first | (split at hs <;> simp_all) | skip)
      all_goals omega

theorem RB.step (hB : RB ops nt tm0 ds l a) (hF : RF P ops nt TM TK TE σ0 W R tm0 b0 b1 b2 b3 b4 b5 b6 b7) {i : Nat} {o : Oper} (ho : ops[i]? = some o)
    (hr : ∀ e ∈ o.after, Region.binds .any e = true → l.getD e.on false = true) (v : Value) : RB ops nt tm0 ds (l.setIfInBounds i true) (a.put o.dst v) := by
  obtain ⟨_, _, hd, _⟩ := dst_in hF ho
  have hi : i < l.size := by rw [hB.lsz, ← hF.size]; exact (Array.getElem?_eq_some_iff.1 ho).1
  have hmono : ∀ k, l.getD k false = true → (l.setIfInBounds i true).getD k false = true := fun k hk => by
    by_cases e : i = k
    · subst e; exact set_same hi _
    · rw [set_ne e]; exact hk
  refine ⟨by simp [hB.lsz], by rw [put_size]; exact hB.tsz, by rw [put_defers]; exact hB.dfs, ?_, ?_⟩
  · intro k hk o' ho' e he hb
    by_cases e1 : i = k
    · subst e1
      rw [ho] at ho'
      injection ho' with ho'
      subst ho'
      exact hmono _ (hr e he hb)
    · rw [set_ne e1] at hk
      exact hmono _ (hB.down k hk o' ho' e he hb)
  · intro t ht
    rw [← hB.old t ht]
    cases hq : o.dst with
    | none => rfl
    | some d =>
      have := hd d hq
      show (a.tmps.setIfInBounds d v)[t]? = a.tmps[t]?
      rw [Array.getElem?_setIfInBounds_ne]
      rintro rfl
      rcases ht with h | h
      · exact absurd (Nat.lt_of_lt_of_le h this.1) (Nat.lt_irrefl _)
      · exact absurd (Nat.lt_of_lt_of_le h this.2) (Nat.lt_irrefl _)

theorem nm_keep {σ σ' : Inj} {W W' : AW} {w w' : World} (he : Ext σ W w σ' W' w') {m : Nat} (hm : m < w.heap.size) (hn : ∀ b g, σ b = some g → g.B ≠ m) : (∀ b g, σ' b = some g → g.B ≠ m) ∧ w'.heap[m]? = w.heap[m]? := by
  have hnm : ¬ Mut σ W m := by
    rintro ⟨b, g, h1, h2, _⟩
    exact hn b g h1 h2
  refine ⟨fun b g hb e => ?_, he.keep m hm hnm⟩
  subst e
  rcases he.grow b g hb hm with h1 | h1
  · exact hn b g h1 rfl
  · exact hnm h1
theorem own_same {H : Type} {k : TypeId} {w w' : World} {Re : Value → Option (DataW H × List MemPlace)} {b n : Nat} {D : DataW H} (h : w.ownsMap P k Re b n D) (e : w'.heap[b]? = w.heap[b]?) : w'.ownsMap P k Re b n D := by
  obtain ⟨es, clock, hb, r⟩ := h
  exact ⟨es, clock, e.trans hb, r⟩

theorem step_pure (hF : RF P ops nt TM TK TE σ0 W R tm0 b0 b1 b2 b3 b4 b5 b6 b7) (hI : RI P ops nt TK TE σ0 W R w0 tm0 ds b0 b1 b2 b3 b4 b5 b6 b7 l a w) {i : Nat} {o : Oper} (ho : ops[i]? = some o) (hl : l.getD i true = false)
    (hr : ∀ e ∈ o.after, Region.binds .any e = true → l.getD e.on false = true) (hp : isPure i = true) {Q : Exit → Act → World → Prop} {K : Act → World → Prop}
    (hK : ∀ a' w', RI P ops nt TK TE σ0 W R w0 tm0 ds b0 b1 b2 b3 b4 b5 b6 b7 (l.setIfInBounds i true) a' w' → K a' w') : wpOp P ops Q i K a w := by
  obtain ⟨hg, hpd, _, hback⟩ := dst_in hF ho
  obtain ⟨⟨d, hd, hd1, hd2⟩, hargs⟩ := hpd hp
  obtain ⟨hB, σ, hW, hE, hregs, hmap⟩ := hI
  have hi : i < l.size := by rw [hB.lsz, ← hF.size]; exact (Array.getElem?_eq_some_iff.1 ho).1
  have hlf := same_false hl hi
  have hρ : ∀ x ∈ o.op.operands, VR σ (aEval R x) (a.eval x) := by
    intro x hx
    have hx1 := List.all_eq_true.1 hargs x (by simpa using hx)
    unfold argOK at hx1
    split at hx1
    · exact plain_refl hx1
    · rename_i t
      rw [Bool.or_eq_true] at hx1
      show VR σ (rget R t) (a.tmps.getD t undef)
      rcases hx1 with h1 | h1
      · obtain rfl : t = 1 := by simpa using h1
        have : a.tmps.getD 1 undef = tm0.getD 1 undef := by
          simp only [Array.getD_eq_getD_getElem?]; rw [hB.old 1 (.inl (by decide))]
        rw [this]
        exact hF.ptr.mono hE.sub
      · rw [Array.any_eq_true'] at h1
        obtain ⟨e, he, hb⟩ := h1
        rw [Bool.and_eq_true] at hb
        obtain ⟨hb1, hb2⟩ := hb
        split at hb2
        · rename_i o' ho'
          split at hb2
          · rename_i d' hd'
            simp only [Bool.and_eq_true, Nat.beq_eq, Nat.blt_eq] at hb2
            obtain ⟨rfl, h3, h4⟩ := hb2
            exact hregs e.on o' d' ho' ((dst_in hF ho').2.2.2 d' hd' h3 h4) (hr e he hb1) hd'
          · cases hb2
        · cases hb2
    · cases hx1
  obtain ⟨σ', nx, v', w', hrun, hnx, hv, hW', hE'⟩ := hF.does i o d ho hp hd σ w a.eval hW hρ
  have fin : RI P ops nt TK TE σ0 W R w0 tm0 ds b0 b1 b2 b3 b4 b5 b6 b7 (l.setIfInBounds i true) (a.put o.dst v') w' := by
    refine ⟨hB.step hF ho hr v', σ', hW', hE.trans hE', ?_, ?_⟩
    · intro k o' d' ho' hp' hl' hd'
      by_cases e : i = k
      · subst e
        rw [ho] at ho'
        injection ho' with ho'
        subst ho'
        rw [hd] at hd'
        injection hd' with hd'
        subst hd'
        rw [put_getD hd (by rw [hB.tsz]; exact Nat.lt_of_lt_of_le hd2 (Nat.le_trans (by decide) hF.nt))]
        exact hv
      · rw [set_ne e] at hl'
        by_cases e2 : d' = d
        · subst e2
          rw [put_getD hd (by rw [hB.tsz]; exact Nat.lt_of_lt_of_le hd2 (Nat.le_trans (by decide) hF.nt))]
          exact hv
        · rw [put_getD_ne (by rw [hd]; intro e3; injection e3 with e3; exact e2 e3.symm)]
          exact (hregs k o' d' ho' hp' hl' hd').mono hE'.sub
    · intro h0
      have hne : ∀ k, isPure k = false → (l.setIfInBounds i true).getD k false = l.getD k false := fun k hk => set_ne (fun e => by subst e; rw [hp] at hk; cases hk) _
      have hget : ∀ t, (t = 14 ∨ 39 < t) → (a.put o.dst v').tmps.getD t undef = a.tmps.getD t undef := fun t ht => put_getD_ne (by
        rw [hd]; intro e3; injection e3 with e3; subst e3
        rcases ht with h | h
        · subst h; exact absurd hd1 (by decide)
        · exact absurd hd2 (by intro h5; exact absurd (Nat.lt_of_lt_of_le h5 h) (Nat.lt_irrefl _)))
      rw [hne 0 rfl] at h0
      obtain ⟨m, n, k1, k2, k3, k4, k5, k6, k7⟩ := hmap h0
      have hD : Dl (l.setIfInBounds i true) b0 b1 b2 b3 b4 b5 b6 b7 = Dl l b0 b1 b2 b3 b4 b5 b6 b7 := by
        unfold Dl
        rw [hne 4 rfl, hne 8 rfl, hne 12 rfl, hne 16 rfl, hne 20 rfl, hne 24 rfl, hne 29 rfl, hne 33 rfl]
      have hlt : m < w.heap.size := by
        cases hq : l.getD 35 false with
        | false => exact (k6 hq).lt
        | true => obtain ⟨r, _, _, _, hrg⟩ := k7 hq; exact hrg.owns.lt
      obtain ⟨q1, q2⟩ := nm_keep hE' hlt k1
      refine ⟨m, n, q1, k2, by rw [hget 14 (.inl rfl)]; exact k3, Nat.le_trans k4 (Nat.le_trans (Nat.le_succ _) (count_set (by rw [← hB.lsz]; exact hi) hB.lsz hlf)), fun h => ?_, fun h => ?_, fun h => ?_⟩
      · rw [hne 34 rfl] at h; rw [hget 40 (.inr (by decide))]; exact k5 h
      · rw [hne 35 rfl] at h; rw [hD]; exact own_same (k6 h) q2
      · rw [hne 35 rfl] at h
        obtain ⟨r, p1, p2, p3, p4⟩ := k7 h
        have hrlt : r < w.heap.size := by
          obtain ⟨es, clock, since, seen, c0, _, _, _, _, hr, _⟩ := p4
          exact (Array.getElem?_eq_some_iff.1 hr).1
        obtain ⟨q3, q4⟩ := nm_keep hE' hrlt p2
        refine ⟨r, by rw [hget 41 (.inr (by decide))]; exact p1, q3, p3, ?_⟩
        rw [hD]
        obtain ⟨es, clock, since, seen, c0, z1, z2, z3, z4, z5, z6⟩ := p4
        exact ⟨es, clock, since, seen, c0, q2.trans z1, z2, z3, z4, q4.trans z5, z6⟩
  rcases hnx with rfl | ⟨rfl, rfl⟩
  · exact wpOp_value ho hg hrun (hK _ _ fin)
  · exact wpOp_skip ho hg hrun (hK _ _ fin)

theorem needs (hF : RF P ops nt TM TK TE σ0 W R tm0 b0 b1 b2 b3 b4 b5 b6 b7) (hB : RB ops nt tm0 ds l a) :
    (l.getD 35 false = true → l.getD 34 false = true) ∧ (l.getD 34 false = true → ∀ e, e < 34 → l.getD e false = true) ∧ (∀ i, (i = 4 ∨ i = 8 ∨ i = 12 ∨ i = 16 ∨ i = 20 ∨ i = 24 ∨ i = 29 ∨ i = 33) → l.getD i false = true → l.getD 0 false = true) := by
  have at_ : ∀ i, i < 36 → ∃ o, ops[i]? = some o := fun i hi => ⟨ops[i]'(by rw [hF.size]; exact hi), Array.getElem?_eq_getElem _⟩
  refine ⟨fun h => ?_, fun h e he => ?_, fun i hi h => ?_⟩
  · obtain ⟨o, ho⟩ := at_ 35 (by decide)
    have hs := hF.shape 35 o ho
    simp only [shapeAt, Bool.and_eq_true] at hs
    exact edgeTo_listed hs.2 (hB.down 35 h o ho)
  · obtain ⟨o, ho⟩ := at_ 34 (by decide)
    have hs := hF.shape 34 o ho
    simp only [shapeAt, Bool.and_eq_true, List.all_eq_true] at hs
    exact edgeTo_listed (hs.2 e (by simpa using he)) (hB.down 34 h o ho)
  · obtain ⟨o, ho⟩ := at_ i (by omega)
    have hs := hF.shape i o ho
    have : edgeTo 0 o = true := by
      rcases hi with rfl | rfl | rfl | rfl | rfl | rfl | rfl | rfl <;> (simp only [shapeAt, insOK, Bool.and_eq_true] at hs; exact hs.1.1.1.2)
    exact edgeTo_listed this (hB.down i h o ho)

theorem regs_other {σ : Inj} (hF : RF P ops nt TM TK TE σ0 W R tm0 b0 b1 b2 b3 b4 b5 b6 b7) {i : Nat} {o : Oper} (ho : ops[i]? = some o) (hp : isPure i = false)
    (h : ∀ i o d, ops[i]? = some o → isPure i = true → l.getD i false = true → o.dst = some d → VR σ (rget R d) (a.tmps.getD d undef)) (v : Value) :
    ∀ k o' d, ops[k]? = some o' → isPure k = true → (l.setIfInBounds i true).getD k false = true → o'.dst = some d → VR σ (rget R d) ((a.put o.dst v).tmps.getD d undef) := by
  intro k o' d ho' hp' hl hd
  have e : i ≠ k := fun e => by subst e; rw [hp] at hp'; cases hp'
  rw [set_ne e] at hl
  obtain ⟨_, hpd, _, _⟩ := dst_in hF ho'
  obtain ⟨⟨d', hd', h1, h2⟩, _⟩ := hpd hp'
  rw [hd] at hd'
  injection hd' with hd'
  subst hd'
  rw [put_getD_ne]
  · exact h k o' d ho' hp' hl hd
  · intro e2
    have := (dst_in hF ho).2.2.2 d e2 h1 h2
    rw [hp] at this; cases this

theorem frozen_alloc {w : World} {o : Obj} (ho : ∀ c t f, o ≠ .cells c t f) (x : Addr) : (w.alloc o).frozen? x = w.frozen? x := by
  by_cases h : x.block < w.heap.size
  · exact World.frozen?_of_block ((World.grownBy_alloc w o none).block _ h (by simp))
  · rw [none_cold (w := w) (by omega)]
    by_cases e : x.block = w.heap.size
    · unfold World.frozen?
      rw [e]
      have : (w.alloc o).heap[w.heap.size]? = some o := (MapKept.heap_alloc w o).1
      rw [this]
      cases o <;> first | rfl | exact absurd rfl (ho _ _ _)
    · refine none_cold ?_
      have : (w.alloc o).heap.size = w.heap.size + 1 := by simp
      omega

theorem step_make (hF : RF P ops nt TM TK TE σ0 W R tm0 b0 b1 b2 b3 b4 b5 b6 b7) (hI : RI P ops nt TK TE σ0 W R w0 tm0 ds b0 b1 b2 b3 b4 b5 b6 b7 l a w) {o : Oper} (ho : ops[0]? = some o) (hl : l.getD 0 true = false)
    (hr : ∀ e ∈ o.after, Region.binds .any e = true → l.getD e.on false = true) {Q : Exit → Act → World → Prop} {K : Act → World → Prop}
    (hK : ∀ a' w', RI P ops nt TK TE σ0 W R w0 tm0 ds b0 b1 b2 b3 b4 b5 b6 b7 (l.setIfInBounds 0 true) a' w' → K a' w') : wpOp P ops Q 0 K a w := by
  obtain ⟨hB, σ, hW, hE, hregs, hmap⟩ := hI
  have hi : 0 < l.size := by rw [hB.lsz]; decide
  have hlf := same_false hl hi
  obtain ⟨n1, n2, n3⟩ := needs hF hB
  have hs := hF.shape 0 o ho
  simp only [shapeAt, Bool.and_eq_true, Option.isNone_iff_eq_none] at hs
  obtain ⟨hg, hs⟩ := hs
  split at hs
  case h_2 => cases hs
  rename_i t d hop hd
  simp only [Bool.and_eq_true, Nat.beq_eq] at hs
  obtain ⟨rfl, rfl⟩ := hs
  have hrun : (execOp a.eval o).run P w = .ok (.value (.map (some w.heap.size))) (w.alloc (.map #[] 0)) := by
    simp [execOp, hop, run_makeMap]
  refine wpOp_value ho hg hrun (hK _ _ ⟨hB.step hF ho hr _, σ, ?_, ?_, regs_other hF ho rfl hregs _, fun _ => ⟨w.heap.size, 0, ?_, hE.size, ?_, Nat.zero_le _, ?_, ?_, ?_⟩⟩)
  · exact rel_other (m := w.heap.size) hW (fun b g hb => Nat.ne_of_lt (hW.dom b g hb).2) ((World.grownBy_alloc w _ none).but _)
  · exact ext_other (m := w.heap.size) hE hE.size ((World.grownBy_alloc w _ none).but _) (frozen_alloc (fun _ _ _ h => by cases h))
  · exact fun b g hb => Nat.ne_of_lt (hW.dom b g hb).2
  · exact put_getD hd (by rw [hB.tsz]; exact Nat.lt_of_lt_of_le (by decide) hF.nt)
  · intro h
    rw [set_ne (by decide)] at h
    rw [n2 h 0 (by decide)] at hlf; cases hlf
  · intro _
    have hno : ∀ i, (i = 4 ∨ i = 8 ∨ i = 12 ∨ i = 16 ∨ i = 20 ∨ i = 24 ∨ i = 29 ∨ i = 33) → (l.setIfInBounds 0 true).getD i false = false := fun i hi => by
      rw [set_ne (by omega)]
      cases hq : l.getD i false with
      | false => rfl
      | true => rw [n3 i hi hq] at hlf; cases hlf
    have hD : Dl (l.setIfInBounds 0 true) b0 b1 b2 b3 b4 b5 b6 b7 = .map [] := by
      unfold Dl
      rw [hno 4 (by simp), hno 8 (by simp), hno 12 (by simp), hno 16 (by simp), hno 20 (by simp), hno 24 (by simp), hno 29 (by simp), hno 33 (by simp)]
      rfl
    rw [hD]
    exact World.ownsMap_made _ _ _ _
  · intro h
    rw [set_ne (by decide)] at h
    rw [n2 (n1 h) 0 (by decide)] at hlf; cases hlf

theorem step_ins (hF : RF P ops nt TM TK TE σ0 W R tm0 b0 b1 b2 b3 b4 b5 b6 b7) (hI : RI P ops nt TK TE σ0 W R w0 tm0 ds b0 b1 b2 b3 b4 b5 b6 b7 l a w) {i key s k : Nat} {bj : Bool} {o : Oper} (ho : ops[i]? = some o) (hl : l.getD i true = false)
    (hr : ∀ e ∈ o.after, Region.binds .any e = true → l.getD e.on false = true) (hs : insOK ops TM key s k o = true) (hp : isPure i = false) (hi34 : i < 34) (hi0 : i ≠ 0) (hv : rget R s = .bool bj) (hwf : (Lit.int .i64 key).wf = true)
    (hput : (Dl l b0 b1 b2 b3 b4 b5 b6 b7).put (.int .i64 key) (.lit (.bool bj)) = Dl (l.setIfInBounds i true) b0 b1 b2 b3 b4 b5 b6 b7) {Q : Exit → Act → World → Prop} {K : Act → World → Prop}
    (hK : ∀ a' w', RI P ops nt TK TE σ0 W R w0 tm0 ds b0 b1 b2 b3 b4 b5 b6 b7 (l.setIfInBounds i true) a' w' → K a' w') : wpOp P ops Q i K a w := by
  obtain ⟨hB, σ, hW, hE, hregs, hmap⟩ := hI
  have hi : i < l.size := by rw [hB.lsz]; omega
  have hlf := same_false hl hi
  obtain ⟨n1, n2, n3⟩ := needs hF hB
  unfold insOK at hs
  simp only [Bool.and_eq_true, Option.isNone_iff_eq_none] at hs
  obtain ⟨⟨⟨⟨⟨hg, hd⟩, e0⟩, ek⟩, hop⟩, hk⟩ := hs
  split at hop
  case h_2 => cases hop
  rename_i t m' n' v' hop'
  simp only [Bool.and_eq_true, Nat.beq_eq, Nat.blt_eq] at hop
  obtain ⟨⟨⟨⟨⟨rfl, rfl⟩, rfl⟩, rfl⟩, hs1⟩, hs2⟩ := hop
  split at hk
  case h_2 => cases hk
  rename_i ok hok
  split at hk
  case h_2 => cases hk
  rename_i dk hdk
  obtain rfl : dk = v' := by simpa using hk
  have hval : a.tmps.getD dk undef = .bool bj := by
    have := hregs k ok dk hok ((dst_in hF hok).2.2.2 dk hdk hs1 hs2) (edgeTo_listed ek hr) hdk
    rw [hv] at this
    exact this.bool_inv
  obtain ⟨m, n, k1, k2, k3, k4, k5, k6, k7⟩ := hmap (edgeTo_listed e0 hr)
  have h34 : l.getD 34 false = false := by
    cases hq : l.getD 34 false with
    | false => rfl
    | true => rw [n2 hq i hi34] at hlf; cases hlf
  have h35 : l.getD 35 false = false := by
    cases hq : l.getD 35 false with
    | false => rfl
    | true => rw [n1 hq] at h34; cases h34
  have hkey : keyOf P TK (.int .i64 (n' : Int)) = some (.int .i64 (n' : Int)) := by
    simp [keyOf, mapKey, hF.TK, hwf]
  obtain ⟨w', hrun, hown', hgr, hsz⟩ := own_update (k6 h35) (Go.Maps.int_keyed hF.TK) hF.TM (Nat.lt_of_le_of_lt (Nat.le_trans k4 count_le) (by decide)) hkey (plainElem_bool hF.TE bj)
  have hrun' : (execOp a.eval o).run P w = .ok .skip w' := by
    have e1 : a.eval (.tmp 14) = .map (some m) := k3
    have e2 : a.eval (.tmp dk) = .bool bj := hval
    have e3 : a.eval (.const (.int .i64 (Int.ofNat n'))) = .int .i64 (n' : Int) := rfl
    simp only [execOp, hop', e1, e2, e3]
    simp [hrun]
  refine wpOp_skip ho hg hrun' (hK _ _ ⟨hB.step hF ho hr _, σ, ?_, ?_, regs_other hF ho hp hregs _, fun _ => ⟨m, n + 1, k1, k2, ?_, ?_, ?_, ?_, ?_⟩⟩)
  · exact rel_other hW k1 hgr
  · refine ext_other hE k2 hgr fun x => ?_
    by_cases e : x.block = m
    · rw [own_cold (k6 h35) e, own_cold hown' e]
    · by_cases h : x.block < w.heap.size
      · exact World.frozen?_of_block (hgr.block _ h (fun e2 => by injection e2 with e2; exact e e2))
      · rw [none_cold (w := w) (by omega), none_cold (w := w') (by omega)]
  · rw [hd]; exact k3
  · exact Nat.le_trans (Nat.succ_le_succ k4) (count_set (by rw [← hB.lsz]; exact hi) hB.lsz hlf)
  · intro h; rw [set_ne (by omega), h34] at h; cases h
  · intro _; rw [← hput]; exact hown'
  · intro h; rw [set_ne (by omega), h35] at h; cases h

theorem step_move (hF : RF P ops nt TM TK TE σ0 W R tm0 b0 b1 b2 b3 b4 b5 b6 b7) (hI : RI P ops nt TK TE σ0 W R w0 tm0 ds b0 b1 b2 b3 b4 b5 b6 b7 l a w) {o : Oper} (ho : ops[34]? = some o) (hl : l.getD 34 true = false)
    (hr : ∀ e ∈ o.after, Region.binds .any e = true → l.getD e.on false = true) {Q : Exit → Act → World → Prop} {K : Act → World → Prop}
    (hK : ∀ a' w', RI P ops nt TK TE σ0 W R w0 tm0 ds b0 b1 b2 b3 b4 b5 b6 b7 (l.setIfInBounds 34 true) a' w' → K a' w') : wpOp P ops Q 34 K a w := by
  obtain ⟨hB, σ, hW, hE, hregs, hmap⟩ := hI
  have hi : 34 < l.size := by rw [hB.lsz]; decide
  have hlf := same_false hl hi
  obtain ⟨n1, n2, n3⟩ := needs hF hB
  have hs := hF.shape 34 o ho
  simp only [shapeAt, Bool.and_eq_true, Option.isNone_iff_eq_none, List.all_eq_true] at hs
  obtain ⟨⟨hg, hs⟩, hed⟩ := hs
  split at hs
  case h_2 => cases hs
  rename_i x d hop hd
  simp only [Bool.and_eq_true, Nat.beq_eq] at hs
  obtain ⟨rfl, rfl⟩ := hs
  have h0 : l.getD 0 false = true := edgeTo_listed (hed 0 (by simp)) hr
  obtain ⟨m, n, k1, k2, k3, k4, k5, k6, k7⟩ := hmap h0
  have h35 : l.getD 35 false = false := by
    cases hq : l.getD 35 false with
    | false => rfl
    | true => rw [n1 hq] at hlf; cases hlf
  have hrun : (execOp a.eval o).run P w = .ok (.value (.map (some m))) w := by
    have e1 : a.eval (.tmp 14) = .map (some m) := k3
    simp only [execOp, hop, e1]
    rfl
  have hD : Dl (l.setIfInBounds 34 true) b0 b1 b2 b3 b4 b5 b6 b7 = Dl l b0 b1 b2 b3 b4 b5 b6 b7 := by
    unfold Dl
    rw [set_ne (by decide), set_ne (by decide), set_ne (by decide), set_ne (by decide), set_ne (by decide), set_ne (by decide), set_ne (by decide), set_ne (by decide)]
  refine wpOp_value ho hg hrun (hK _ _ ⟨hB.step hF ho hr _, σ, hW, hE, regs_other hF ho rfl hregs _, fun _ => ⟨m, n, k1, k2, ?_, ?_, ?_, ?_, ?_⟩⟩)
  · rw [put_getD_ne (by rw [hd]; intro e; injection e with e; cases e)]; exact k3
  · exact Nat.le_trans k4 (Nat.le_trans (Nat.le_succ _) (count_set (by decide) hB.lsz hlf))
  · intro _; exact put_getD hd (by rw [hB.tsz]; exact Nat.lt_of_lt_of_le (by decide) hF.nt)
  · intro _; rw [hD]; exact k6 h35
  · intro h; rw [set_ne (by decide), h35] at h; cases h

theorem step_range (hF : RF P ops nt TM TK TE σ0 W R tm0 b0 b1 b2 b3 b4 b5 b6 b7) (hI : RI P ops nt TK TE σ0 W R w0 tm0 ds b0 b1 b2 b3 b4 b5 b6 b7 l a w) {o : Oper} (ho : ops[35]? = some o) (hl : l.getD 35 true = false)
    (hr : ∀ e ∈ o.after, Region.binds .any e = true → l.getD e.on false = true) {Q : Exit → Act → World → Prop} {K : Act → World → Prop}
    (hK : ∀ a' w', RI P ops nt TK TE σ0 W R w0 tm0 ds b0 b1 b2 b3 b4 b5 b6 b7 (l.setIfInBounds 35 true) a' w' → K a' w') : wpOp P ops Q 35 K a w := by
  obtain ⟨hB, σ, hW, hE, hregs, hmap⟩ := hI
  have hi : 35 < l.size := by rw [hB.lsz]; decide
  have hlf := same_false hl hi
  obtain ⟨n1, n2, n3⟩ := needs hF hB
  have hs := hF.shape 35 o ho
  simp only [shapeAt, Bool.and_eq_true, Option.isNone_iff_eq_none] at hs
  obtain ⟨⟨hg, hs⟩, hed⟩ := hs
  split at hs
  case h_2 => cases hs
  rename_i t x d hop hd
  simp only [Bool.and_eq_true, Nat.beq_eq] at hs
  obtain ⟨⟨rfl, rfl⟩, rfl⟩ := hs
  have h34 : l.getD 34 false = true := edgeTo_listed hed hr
  obtain ⟨m, n, k1, k2, k3, k4, k5, k6, k7⟩ := hmap (n2 h34 0 (by decide))
  obtain ⟨w', hrun, hrg, hgr, hsz⟩ := (k6 hlf).range (Go.Maps.int_keyed hF.TK) hF.TM
  have hrun' : (execOp a.eval o).run P w = .ok (.value (.pointer (some ⟨w.heap.size, 0, none⟩))) w' := by
    have e1 : a.eval (.tmp 40) = .map (some m) := k5 h34
    simp only [execOp, hop, e1]
    simp [hrun]
  have hcold : ∀ x : Addr, x.block = w.heap.size → w'.frozen? x = false := fun x e => by
    obtain ⟨es, clock, since, seen, c0, _, _, _, _, hr, _⟩ := hrg
    unfold World.frozen?
    rw [e, hr]
  have hD : Dl (l.setIfInBounds 35 true) b0 b1 b2 b3 b4 b5 b6 b7 = Dl l b0 b1 b2 b3 b4 b5 b6 b7 := by
    unfold Dl
    rw [set_ne (by decide), set_ne (by decide), set_ne (by decide), set_ne (by decide), set_ne (by decide), set_ne (by decide), set_ne (by decide), set_ne (by decide)]
  refine wpOp_value ho hg hrun' (hK _ _ ⟨hB.step hF ho hr _, σ, ?_, ?_, regs_other hF ho rfl hregs _, fun _ => ⟨m, n, k1, k2, ?_, ?_, ?_, ?_, ?_⟩⟩)
  · exact rel_other (m := w.heap.size) hW (fun b g hb => Nat.ne_of_lt (hW.dom b g hb).2) (hgr.but _)
  · refine ext_other (m := w.heap.size) hE hE.size (hgr.but _) fun x => ?_
    by_cases h : x.block < w.heap.size
    · exact World.frozen?_of_block (hgr.block _ h (by simp))
    · rw [none_cold (w := w) (by omega)]
      by_cases e : x.block = w.heap.size
      · exact hcold x e
      · exact none_cold (by omega)
  · rw [put_getD_ne (by rw [hd]; intro e; injection e with e; cases e)]; exact k3
  · exact Nat.le_trans k4 (Nat.le_trans (Nat.le_succ _) (count_set (by decide) hB.lsz hlf))
  · intro _; rw [put_getD_ne (by rw [hd]; intro e; injection e with e; cases e)]; exact k5 h34
  · intro h; rw [set_same hi] at h; cases h
  · intro _
    refine ⟨w.heap.size, put_getD hd (by rw [hB.tsz]; exact Nat.lt_of_lt_of_le (by decide) hF.nt), fun b g hb => Nat.ne_of_lt (hW.dom b g hb).2, hE.size, ?_⟩
    rw [hD]
    exact hrg

theorem ready_nil (hF : RF P ops nt TM TK TE σ0 W R tm0 b0 b1 b2 b3 b4 b5 b6 b7) (hB : RB ops nt tm0 ds l a) (h : Region.ready .any ops l = []) : ∀ i, i < 36 → l.getD i false = true := by
  have key : ∀ n i, i < n → i < 36 → l.getD i false = true := by
    intro n
    induction n with
    | zero => intro i h; exact absurd h (Nat.not_lt_zero _)
    | succ n ih =>
      intro i hi hi36
      by_cases hlt : i < n
      · exact ih i hlt hi36
      · have hin : i < ops.size := by rw [hF.size]; exact hi36
        have ho : ops[i]? = some ops[i] := Array.getElem?_eq_getElem hin
        cases hq : l.getD i false with
        | true => rfl
        | false =>
          exfalso
          have hb := hF.back i _ ho
          unfold backOK at hb
          have hil : i < l.size := by rw [hB.lsz]; exact hi36
          have : i ∈ Region.ready .any ops l := mem_ready.2 ⟨by
            simp only [Array.getD_eq_getD_getElem?] at hq ⊢
            rw [Array.getElem?_eq_getElem hil] at hq ⊢
            exact hq, _, ho, fun e he hbd => by
            rw [Array.all_eq_true'] at hb
            have h1 := hb e he
            rw [Nat.blt_eq] at h1
            exact ih e.on (by omega) (by omega)⟩
          rw [h] at this
          cases this
  exact fun i hi => key (i + 1) i (Nat.lt_succ_self i) hi

theorem step_any (hF : RF P ops nt TM TK TE σ0 W R tm0 b0 b1 b2 b3 b4 b5 b6 b7) (hI : RI P ops nt TK TE σ0 W R w0 tm0 ds b0 b1 b2 b3 b4 b5 b6 b7 l a w) {i : Nat} (hi : i ∈ Region.ready .any ops l) {Q : Exit → Act → World → Prop} {K : Act → World → Prop}
    (hK : ∀ a' w', RI P ops nt TK TE σ0 W R w0 tm0 ds b0 b1 b2 b3 b4 b5 b6 b7 (l.setIfInBounds i true) a' w' → K a' w') : wpOp P ops Q i K a w := by
  obtain ⟨hl, o, ho, hr⟩ := mem_ready.1 hi
  have hsz : l.size = 36 := hI.base.lsz
  cases hp : isPure i with
  | true => exact step_pure hF hI ho hl hr hp hK
  | false =>
    have hs := hF.shape i o ho
    have hc : i = 0 ∨ i = 4 ∨ i = 8 ∨ i = 12 ∨ i = 16 ∨ i = 20 ∨ i = 24 ∨ i = 29 ∨ i = 33 ∨ i = 34 ∨ i = 35 := by
      unfold isPure at hp
      split at hp <;> first | simp | cases hp
    rcases hc with rfl | rfl | rfl | rfl | rfl | rfl | rfl | rfl | rfl | rfl | rfl
    · exact step_make hF hI ho hl hr hK
    · exact step_ins hF hI ho hl hr hs rfl (by decide) (by decide) hF.v0 rfl (by unfold Dl; rw [set_same (by omega), set_ne (show (4 : Nat) ≠ 8 by decide), set_ne (show (4 : Nat) ≠ 12 by decide), set_ne (show (4 : Nat) ≠ 16 by decide), set_ne (show (4 : Nat) ≠ 20 by decide), set_ne (show (4 : Nat) ≠ 24 by decide), set_ne (show (4 : Nat) ≠ 29 by decide), set_ne (show (4 : Nat) ≠ 33 by decide)]; exact put0 ..) hK
    · exact step_ins hF hI ho hl hr hs rfl (by decide) (by decide) hF.v1 rfl (by unfold Dl; rw [set_same (by omega), set_ne (show (8 : Nat) ≠ 4 by decide), set_ne (show (8 : Nat) ≠ 12 by decide), set_ne (show (8 : Nat) ≠ 16 by decide), set_ne (show (8 : Nat) ≠ 20 by decide), set_ne (show (8 : Nat) ≠ 24 by decide), set_ne (show (8 : Nat) ≠ 29 by decide), set_ne (show (8 : Nat) ≠ 33 by decide)]; exact put1 ..) hK
    · exact step_ins hF hI ho hl hr hs rfl (by decide) (by decide) hF.v2 rfl (by unfold Dl; rw [set_same (by omega), set_ne (show (12 : Nat) ≠ 4 by decide), set_ne (show (12 : Nat) ≠ 8 by decide), set_ne (show (12 : Nat) ≠ 16 by decide), set_ne (show (12 : Nat) ≠ 20 by decide), set_ne (show (12 : Nat) ≠ 24 by decide), set_ne (show (12 : Nat) ≠ 29 by decide), set_ne (show (12 : Nat) ≠ 33 by decide)]; exact put2 ..) hK
    · exact step_ins hF hI ho hl hr hs rfl (by decide) (by decide) hF.v3 rfl (by unfold Dl; rw [set_same (by omega), set_ne (show (16 : Nat) ≠ 4 by decide), set_ne (show (16 : Nat) ≠ 8 by decide), set_ne (show (16 : Nat) ≠ 12 by decide), set_ne (show (16 : Nat) ≠ 20 by decide), set_ne (show (16 : Nat) ≠ 24 by decide), set_ne (show (16 : Nat) ≠ 29 by decide), set_ne (show (16 : Nat) ≠ 33 by decide)]; exact put3 ..) hK
    · exact step_ins hF hI ho hl hr hs rfl (by decide) (by decide) hF.v4 rfl (by unfold Dl; rw [set_same (by omega), set_ne (show (20 : Nat) ≠ 4 by decide), set_ne (show (20 : Nat) ≠ 8 by decide), set_ne (show (20 : Nat) ≠ 12 by decide), set_ne (show (20 : Nat) ≠ 16 by decide), set_ne (show (20 : Nat) ≠ 24 by decide), set_ne (show (20 : Nat) ≠ 29 by decide), set_ne (show (20 : Nat) ≠ 33 by decide)]; exact put4 ..) hK
    · exact step_ins hF hI ho hl hr hs rfl (by decide) (by decide) hF.v5 rfl (by unfold Dl; rw [set_same (by omega), set_ne (show (24 : Nat) ≠ 4 by decide), set_ne (show (24 : Nat) ≠ 8 by decide), set_ne (show (24 : Nat) ≠ 12 by decide), set_ne (show (24 : Nat) ≠ 16 by decide), set_ne (show (24 : Nat) ≠ 20 by decide), set_ne (show (24 : Nat) ≠ 29 by decide), set_ne (show (24 : Nat) ≠ 33 by decide)]; exact put5 ..) hK
    · exact step_ins hF hI ho hl hr hs rfl (by decide) (by decide) hF.v6 rfl (by unfold Dl; rw [set_same (by omega), set_ne (show (29 : Nat) ≠ 4 by decide), set_ne (show (29 : Nat) ≠ 8 by decide), set_ne (show (29 : Nat) ≠ 12 by decide), set_ne (show (29 : Nat) ≠ 16 by decide), set_ne (show (29 : Nat) ≠ 20 by decide), set_ne (show (29 : Nat) ≠ 24 by decide), set_ne (show (29 : Nat) ≠ 33 by decide)]; exact put6 ..) hK
    · exact step_ins hF hI ho hl hr hs rfl (by decide) (by decide) hF.v7 rfl (by unfold Dl; rw [set_same (by omega), set_ne (show (33 : Nat) ≠ 4 by decide), set_ne (show (33 : Nat) ≠ 8 by decide), set_ne (show (33 : Nat) ≠ 12 by decide), set_ne (show (33 : Nat) ≠ 16 by decide), set_ne (show (33 : Nat) ≠ 20 by decide), set_ne (show (33 : Nat) ≠ 24 by decide), set_ne (show (33 : Nat) ≠ 29 by decide)]; exact put7 ..) hK
    · exact step_move hF hI ho hl hr hK
    · exact step_range hF hI ho hl hr hK

def Dall (b0 b1 b2 b3 b4 b5 b6 b7 : Bool) : DataW Unit := Dof true true true true true true true true b0 b1 b2 b3 b4 b5 b6 b7
structure RQ (P : Program) (nt TK TE : Nat) (σ0 : Inj) (W : AW) (w0 : World) (tm0 : Array Value) (ds : List Deferred) (b0 b1 b2 b3 b4 b5 b6 b7 : Bool) (a : Act) (w : World) (σ : Inj) (m r n : Nat) : Prop where
  tsz : a.tmps.size = nt
  dfs : a.defers = ds
  old : ∀ t, (t < 14 ∨ 41 < t) → a.tmps[t]? = tm0[t]?
  it : a.tmps.getD 41 undef = .pointer (some ⟨r, 0, none⟩)
  rel : WRel σ W w.heap
  ext : Ext σ0 W w0 σ W w
  nm : ∀ b g, σ b = some g → g.B ≠ m
  nr : ∀ b g, σ b = some g → g.B ≠ r
  gm : w0.heap.size ≤ m
  gr : w0.heap.size ≤ r
  rg : w.ranges P TK (plainElem P TE) m r n (Dall b0 b1 b2 b3 b4 b5 b6 b7) (Maps.has (Dall b0 b1 b2 b3 b4 b5 b6 b7)) (Maps.size (Dall b0 b1 b2 b3 b4 b5 b6 b7))

theorem RI.done (hF : RF P ops nt TM TK TE σ0 W R tm0 b0 b1 b2 b3 b4 b5 b6 b7) (hI : RI P ops nt TK TE σ0 W R w0 tm0 ds b0 b1 b2 b3 b4 b5 b6 b7 l a w) (h : ∀ i, i < 36 → l.getD i false = true) :
    ∃ σ m r n, RQ P nt TK TE σ0 W w0 tm0 ds b0 b1 b2 b3 b4 b5 b6 b7 a w σ m r n := by
  obtain ⟨hB, σ, hW, hE, hregs, hmap⟩ := hI
  obtain ⟨m, n, k1, k2, k3, k4, k5, k6, k7⟩ := hmap (h 0 (by decide))
  obtain ⟨r, p1, p2, p3, p4⟩ := k7 (h 35 (by decide))
  have hD : Dl l b0 b1 b2 b3 b4 b5 b6 b7 = Dall b0 b1 b2 b3 b4 b5 b6 b7 := by
    unfold Dl Dall
    rw [h 4 (by decide), h 8 (by decide), h 12 (by decide), h 16 (by decide), h 20 (by decide), h 24 (by decide), h 29 (by decide), h 33 (by decide)]
  rw [hD] at p4
  exact ⟨σ, m, r, n, hB.tsz, hB.dfs, hB.old, p1, hW, hE, k1, p2, k2, p3, p4⟩

theorem region_any (hF : RF P ops nt TM TK TE σ0 W R tm0 b0 b1 b2 b3 b4 b5 b6 b7) {Q : Exit → Act → World → Prop} (hQ : ∀ a' w' σ m r n, RQ P nt TK TE σ0 W w0 tm0 ds b0 b1 b2 b3 b4 b5 b6 b7 a' w' σ m r n → Q .normal a' w') :
    ∀ (fuel : Nat) (l : Array Bool) (a : Act) (w : World), RI P ops nt TK TE σ0 W R w0 tm0 ds b0 b1 b2 b3 b4 b5 b6 b7 l a w → unl 36 l ≤ fuel → wpAny P .any ops Q fuel l a w := by
  intro fuel
  induction fuel with
  | zero =>
    intro l a w hI hu
    have hall : ∀ i, i < 36 → l.getD i false = true := fun i hi => by
      have h1 := unl_zero (n := 36) (l := l) (by omega) hi
      have hil : i < l.size := by rw [hI.base.lsz]; exact hi
      simp only [Array.getD_eq_getD_getElem?] at h1 ⊢
      rw [Array.getElem?_eq_getElem hil] at h1 ⊢
      exact h1
    refine ⟨?_, ?_⟩
    · rw [List.eq_nil_iff_forall_not_mem]
      intro i hi
      obtain ⟨h1, o, ho, _⟩ := mem_ready.1 hi
      have hi36 : i < 36 := by rw [← hF.size]; exact (Array.getElem?_eq_some_iff.1 ho).1
      have := hall i hi36
      rw [same_false h1 (by rw [hI.base.lsz]; exact hi36)] at this
      cases this
    · obtain ⟨σ, m, r, n, h⟩ := hI.done hF hall
      exact hQ _ _ _ _ _ _ h
  | succ fuel ih =>
    intro l a w hI hu
    refine ⟨fun hr => ?_, fun i hi => ?_⟩
    · obtain ⟨σ, m, r, n, h⟩ := hI.done hF (ready_nil hF hI.base hr)
      exact hQ _ _ _ _ _ _ h
    · refine step_any hF hI hi fun a' w' hI' => ih _ a' w' hI' ?_
      obtain ⟨h1, o, ho, _⟩ := mem_ready.1 hi
      have hi36 : i < 36 := by rw [← hF.size]; exact (Array.getElem?_eq_some_iff.1 ho).1
      have := unl_set (l := l) hi36 (by rw [hI.base.lsz]; exact hi36) h1
      omega

theorem region_map (hm : P.follows .mixedOrders = true) {id : Nat} (hF : RF P ops nt TM TK TE σ0 W R a.tmps b0 b1 b2 b3 b4 b5 b6 b7) (hnt : a.tmps.size = nt) (hW : WRel σ0 W w.heap) {Q : Exit → Act → World → Prop}
    (hQ : ∀ a' w' σ m r n, RQ P nt TK TE σ0 W w a.tmps a.defers b0 b1 b2 b3 b4 b5 b6 b7 a' w' σ m r n → Q .normal a' w') : (Code.region id ops true).wp P Q a w := by
  refine wp_region_any hm ?_
  have hno : ∀ i, (Array.replicate ops.size false).getD i false = false := fun i => by
    simp only [Array.getD_eq_getD_getElem?, Array.getElem?_replicate]
    split <;> rfl
  refine region_any (w0 := w) (tm0 := a.tmps) (ds := a.defers) hF hQ _ _ _ _ ⟨⟨by simp [hF.size], hnt, rfl, ?_, fun _ _ => rfl⟩, σ0, hW, .drawn _ _ _ _, ?_, ?_⟩ ?_
  · intro i hi; rw [hno] at hi; cases hi
  · intro i o d _ _ hl; rw [hno] at hl; cases hl
  · intro hl; rw [hno] at hl; cases hl
  · unfold unl
    have := List.countP_le_length (p := fun i => !(Array.replicate ops.size false).getD i true) (l := List.range 36)
    rw [hF.size] at this ⊢
    simpa using this
end
end
end Go.Eng
namespace Go.Eng
open Go Go.RowKit
section
variable [PlanTab]

structure Quiet (w w' : World) : Prop where
  os : w'.os = w.os
  tape : w'.tape = w.tape
  output : w'.output = w.output
  size : w.heap.size ≤ w'.heap.size
  block : ∀ B, B < w.heap.size → w'.heap[B]? = w.heap[B]?
theorem Quiet.grown {w w' : World} (h : Quiet w w') : GrownB w w' := by
  refine ⟨⟨h.os, h.output, fun i hi => ?_⟩, fun a ha => frozen_same (h.block _ ha), h.size⟩
  rw [h.block i hi]
  cases w.heap[i]? with
  | none => rfl
  | some o => cases o <;> first | rfl | exact ⟨rfl, rfl, rfl, fun _ _ => rfl⟩ | exact .inr ⟨rfl, rfl⟩
theorem Quiet.cell {w w' : World} (h : Quiet w w') {a : Addr} {v : Value} (hc : w.cell? a = some v) : w'.cell? a = some v := by
  have hlt : a.block < w.heap.size := by
    rcases Nat.lt_or_ge a.block w.heap.size with h' | h'
    · exact h'
    · unfold World.cell? at hc; rw [Array.getElem?_eq_none h'] at hc; simp at hc
  rw [World.cell?_of_block (h.block _ hlt)]; exact hc
theorem Quiet.rel {w w' : World} (h : Quiet w w') {σ : Inj} {W : AW} (hW : WRel σ W w.heap) : WRel σ W w'.heap where
  free := hW.free
  dom b g hb := ⟨(hW.dom b g hb).1, Nat.lt_of_lt_of_le (hW.dom b g hb).2 h.size⟩
  obj b o g hb hσ := (hW.obj b o g hb hσ).same (h.block _ (hW.dom b g hσ).2)
  disj := hW.disj
theorem Quiet.ext {w w' : World} (h : Quiet w w') (σ : Inj) (W : AW) : Ext σ W w σ W w' :=
  ⟨.refl _, fun _ _ h => h, h.size, h.os, h.tape, h.output, fun B hB _ => h.block B hB, fun _ _ a b => ⟨a, b⟩, fun _ _ a _ => .inl a⟩
theorem Quiet.other {w w' w'' : World} (h : Quiet w w') {r : Nat} (hr : w.heap.size ≤ r) (hg : w'.grownBy w'' (some r)) (hsz : w''.heap.size = w'.heap.size)
    (h1 : ∀ a : Addr, a.block = r → w'.frozen? a = false) (h2 : ∀ a : Addr, a.block = r → w''.frozen? a = false) : Quiet w w'' := by
  refine ⟨hg.os.trans h.os, hg.tape.trans h.tape, hg.output.trans h.output, Nat.le_trans h.size hg.size, fun B hB => (hg.block B (Nat.lt_of_lt_of_le hB h.size) (fun e => by injection e with e; omega)).trans (h.block B hB)⟩
theorem ranges_cold {H : Type} {P : Program} {k : TypeId} {w : World} {Re : Value → Option (DataW H × List MemPlace)} {b r n cnt : Nat} {D : DataW H} {left : Lit → Bool} (h : w.ranges P k Re b r n D left cnt) {a : Addr} (ha : a.block = r) : w.frozen? a = false := by
  obtain ⟨es, clock, since, seen, c0, _, _, _, _, hr, _⟩ := h
  unfold World.frozen?
  rw [ha, hr]

def σbox (B n : Nat) : Inj := fun b => if b = 0 then some ⟨B, 0, n⟩ else none
noncomputable def Wbox (cs : List Value) : AW := ⟨T.set (some (.cells cs)) (path 0) .lf, 1⟩
noncomputable def Rbox : PlanTab.Fr := rset PlanTab.blank 1 (.pointer (some ⟨0, 0, none⟩))
theorem Wbox_none {cs : List Value} {b : Nat} (e : b ≠ 0) : (Wbox cs).get b = none := by
  show T.get (path b) (T.set (some (AObj.cells cs)) (path 0) .lf) = _
  exact (T.get_set_ne _ _ _ _ (path_ne (Ne.symm e))).trans (T.get_lf _)
theorem Wbox_get (cs : List Value) {b : Nat} {o : AObj} (h : (Wbox cs).get b = some o) : b = 0 ∧ o = .cells cs := by
  by_cases e : b = 0
  · subst e
    have : (Wbox cs).get 0 = some (.cells cs) := by
      show T.get (path 0) (T.set (some (AObj.cells cs)) (path 0) .lf) = _
      exact T.get_set _ _ _
    rw [this] at h
    injection h with h
    exact ⟨rfl, h.symm⟩
  · have : (Wbox cs).get b = none := Wbox_none e
    rw [this] at h; cases h
theorem rel_box (w : World) (t : TypeId) (cs : List Value) (hp : cs.all plain = true) : WRel (σbox w.heap.size cs.length) (Wbox cs) (w.alloc (.cells cs.toArray t)).heap where
  free b hb := Wbox_none (by have h1 : 1 ≤ b := hb; intro e; subst e; exact absurd h1 (by decide))
  dom b g hb := by
    unfold σbox at hb
    split at hb
    · rename_i e; subst e; injection hb with hb; subst hb
      exact ⟨Nat.lt_succ_self 0, by simp⟩
    · cases hb
  obj b o g hb hg := by
    obtain ⟨rfl, rfl⟩ := Wbox_get cs hb
    injection hg with hg
    subst hg
    refine ⟨cs.toArray, t, (0, 0), (MapKept.heap_alloc w _).1, fun _ => rfl, by simp, by simp, fun i v hv => ⟨v, by simpa using hv, ?_⟩⟩
    exact plain_refl (List.all_eq_true.1 hp v (List.mem_of_getElem? hv))
  disj b1 b2 o1 o2 g1 g2 hne h1 h2 _ _ _ := absurd ((Wbox_get cs h1).1.trans (Wbox_get cs h2).1.symm) hne
theorem quiet_box {w w2 : World} {t : TypeId} {cs : List Value} {n : Nat} {σ : Inj} (h : Ext (σbox w.heap.size n) (Wbox cs) (w.alloc (.cells cs.toArray t)) σ (Wbox cs) w2) : Quiet w w2 := by
  have hsz : (w.alloc (.cells cs.toArray t)).heap.size = w.heap.size + 1 := by simp
  refine ⟨h.os, h.tape, h.output, by have := h.size; omega, fun B hB => ?_⟩
  · rw [h.keep B (by omega) ?_]
    · exact (World.grownBy_alloc w _ none).block B hB (by simp)
    · rintro ⟨b, g, hb, hg, _⟩
      unfold σbox at hb
      split at hb
      · injection hb with hb; subst hb; simp only at hg; omega
      · cases hb

def pureIdx : List Nat := (List.range 36).filter isPure
noncomputable def runPure (P : Program) (ops : Array Oper) (W : AW) : List Nat → PlanTab.Fr → PlanTab.Fr
  | [], R => R
  | i :: l, R => match ops[i]? with
    | some o => (match aOp P o R W with
      | some (v, _) => runPure P ops W l (rput R o.dst v)
      | none => R)
    | none => R
theorem shape_of {ops : Array Oper} {TM : Nat} (h : shapeOK ops TM = true) : ops.size = 36 ∧ ∀ i o, ops[i]? = some o → shapeAt ops TM i o = true ∧ backOK i o = true := by
  unfold shapeOK at h
  rw [Bool.and_eq_true, Nat.beq_eq, List.all_eq_true] at h
  refine ⟨h.1, fun i o ho => ?_⟩
  have := h.2 i (by have := (Array.getElem?_eq_some_iff.1 ho).1; simp; omega)
  rw [ho] at this
  simpa using this
section
variable {P : Program}
theorem eqFields_int {d : Nat} {xs ys : Array Value} {f : Field} {fs : List Field} {k : IntKind} {a b : Int} {r : Bool} {w : World} (hn : f.name ≠ "_") (hk : P.plainKey f.type = true) (hu : P.underlying f.type = some (.int k))
    (hx : xs[f.offset]? = some (.int k a)) (hy : ys[f.offset]? = some (.int k b)) (hr : (Op.eqFields (d + 1) xs ys fs).run P w = .ok r w) : (Op.eqFields (d + 1) xs ys (f :: fs)).run P w = .ok ((a == b) && r) w := by
  unfold Op.eqFields
  rw [if_pos hn, Sem.run_bind, run_part_plain w hk hx, Result.andThen_ok, Sem.run_bind, run_part_plain w hk hy, Result.andThen_ok, Sem.run_bind, run_equalIn_int _ _ _ _ _ _ _ hu, Result.andThen_ok]
  cases a == b
  · simp
  · simpa using hr
theorem neq_four {t : TypeId} {x y : Operand} {f0 f1 f2 f3 : Field} {k0 k1 k2 k3 : IntKind} {a b c d : Int} (hs : P.underlying t = some (.struct (P.fieldsOf t))) (hp : P.stoodInHeld t = false) (hm : P.eqGuardType P.depth t = false)
    (hf : (P.fieldsOf t).toList = [f0, f1, f2, f3]) (n0 : f0.name ≠ "_") (n1 : f1.name ≠ "_") (n2 : f2.name ≠ "_") (n3 : f3.name ≠ "_") (p0 : P.plainKey f0.type = true) (p1 : P.plainKey f1.type = true) (p2 : P.plainKey f2.type = true) (p3 : P.plainKey f3.type = true)
    (u0 : P.underlying f0.type = some (.int k0)) (u1 : P.underlying f1.type = some (.int k1)) (u2 : P.underlying f2.type = some (.int k2)) (u3 : P.underlying f3.type = some (.int k3)) (o0 : f0.offset = 0) (o1 : f1.offset = 1) (o2 : f2.offset = 2) (o3 : f3.offset = 3) (w : World) :
    (do eqGuard .neq t x y (.agg #[.int k0 a, .int k1 b, .int k2 c, .int k3 d]) (.agg #[.int k0 0, .int k1 0, .int k2 0, .int k3 0]); binOp .neq t (.agg #[.int k0 a, .int k1 b, .int k2 c, .int k3 d]) (.agg #[.int k0 0, .int k1 0, .int k2 0, .int k3 0]) : Sem Value).run P w =
      .ok (.bool (!((a == 0) && ((b == 0) && ((c == 0) && ((d == 0) && true)))))) w := by
  have h9 : ∀ xs ys : Array Value, (Op.equalIn 10000 t (.agg xs) (.agg ys)).run P w = (Op.eqFields 9999 xs ys (P.fieldsOf t).toList).run P w := fun xs ys => run_equalIn_struct w 9999 t xs ys hs hp
  have h3 := eqFields_int (P := P) (d := 9998) (xs := #[.int k0 a, .int k1 b, .int k2 c, .int k3 d]) (ys := #[.int k0 0, .int k1 0, .int k2 0, .int k3 0]) (fs := []) (r := true) (w := w) n3 p3 u3 (by rw [o3]; rfl) (by rw [o3]; rfl) (by simp [Op.eqFields])
  have h2 := eqFields_int n2 p2 u2 (by rw [o2]; rfl) (by rw [o2]; rfl) h3
  have h1 := eqFields_int n1 p1 u1 (by rw [o1]; rfl) (by rw [o1]; rfl) h2
  have h0 := eqFields_int n0 p0 u0 (by rw [o0]; rfl) (by rw [o0]; rfl) h1
  have h0' : (Op.eqFields 9999 #[.int k0 a, .int k1 b, .int k2 c, .int k3 d] #[.int k0 0, .int k1 0, .int k2 0, .int k3 0] [f0, f1, f2, f3]).run P w = _ := h0
  rw [Sem.run_bind, run_eqGuard_agg _ _ _ _ _ _ _ hm, Result.andThen_ok, run_neq_struct, h9, hf, h0', Result.andThen_ok]
end

def idx32 : List Nat := pureIdx.filter fun i => !Nat.beq i 28
noncomputable def R32 (P : Program) (ops : Array Oper) (cs : List Value) (b6 : Bool) : PlanTab.Fr := rset (runPure P ops (Wbox cs) idx32 Rbox) 36 (.bool b6)
def op32 (TT : Nat) (o : Oper) : Bool := match o.op, o.dst with | .binOp .neq t (.tmp x) (.tmp y) _, some d => Nat.beq t TT && Nat.beq x 34 && Nat.beq y 35 && Nat.beq d 36 | _, _ => false
theorem region_map4 {P : Program} (hm : P.follows .mixedOrders = true) {id nt TM TK TE TT B : Nat} {ops : Array Oper} {cs : List Value} {a : Act} {w : World} {b0 b1 b2 b3 b4 b5 b6 b7 : Bool} {Q : Exit → Act → World → Prop} {tk zk : Array Value}
    (h1 : shapeOK ops TM = true)
    (h2 : (idx32.map fun i => (ops[i]?).bind fun o => aOp P o (R32 P ops cs b6) (Wbox cs)) = idx32.map fun i => (ops[i]?).bind fun o => o.dst.map fun d => (rget (R32 P ops cs b6) d, Wbox cs))
    (v0 : rget (R32 P ops cs b6) 17 = .bool b0) (v1 : rget (R32 P ops cs b6) 20 = .bool b1) (v2 : rget (R32 P ops cs b6) 23 = .bool b2) (v3 : rget (R32 P ops cs b6) 26 = .bool b3)
    (v4 : rget (R32 P ops cs b6) 29 = .bool b4) (v5 : rget (R32 P ops cs b6) 32 = .bool b5) (v7 : rget (R32 P ops cs b6) 39 = .bool b7)
    (c1 : rget (R32 P ops cs b6) 34 = .agg tk) (c2 : rget (R32 P ops cs b6) 35 = .agg zk) (c3 : plain (.agg tk) = true) (c4 : plain (.agg zk) = true) (c5 : (ops[28]?).any (op32 TT) = true)
    (c6 : ∀ w, (do eqGuard .neq TT (.tmp 34) (.tmp 35) (.agg tk) (.agg zk); binOp .neq TT (.agg tk) (.agg zk) : Sem Value).run P w = .ok (.bool b6) w)
    (h3 : rget (R32 P ops cs b6) 1 = .pointer (some ⟨0, 0, none⟩)) (h4 : a.tmps.getD 1 undef = .pointer (some ⟨B, 0, none⟩)) (h5 : 42 ≤ nt) (h6 : a.tmps.size = nt)
    (tM : P.underlying TM = some (.map TK TE)) (tK : P.underlying TK = some (.int .i64)) (tE : P.underlying TE = some .bool) {n : Nat} (hW : WRel (σbox B n) (Wbox cs) w.heap)
    (hQ : ∀ a' w' σ m r k, RQ P nt TK TE (σbox B n) (Wbox cs) w a.tmps a.defers b0 b1 b2 b3 b4 b5 b6 b7 a' w' σ m r k → Q .normal a' w') : (Code.region id ops true).wp P Q a w := by
  obtain ⟨hsz, hsh⟩ := shape_of h1
  have v6 : rget (R32 P ops cs b6) 36 = .bool b6 := rget_rset _ _ _
  refine region_map (nt := nt) (TM := TM) (TK := TK) (TE := TE) (R := R32 P ops cs b6) hm ⟨hsz, fun i o ho => (hsh i o ho).1, fun i o ho => (hsh i o ho).2, ?_, v0, v1, v2, v3, v4, v5, v6, v7, ?_, h5, tM, tK, tE⟩ h6 hW hQ
  · intro i o d ho hp hd σ w ρ hW hρ
    by_cases h32 : i = 28
    · subst h32
      rw [ho] at c5
      simp only [Option.any_some] at c5
      unfold op32 at c5
      split at c5
      case h_2 => cases c5
      rename_i t x y dt d' hop hd'
      simp only [Bool.and_eq_true, Nat.beq_eq] at c5
      obtain ⟨⟨⟨rfl, rfl⟩, rfl⟩, rfl⟩ := c5
      rw [hd] at hd'
      injection hd' with hd'
      subst hd'
      rw [v6]
      have e1 : ρ (.tmp 34) = .agg tk := by
        have := hρ (.tmp 34) (by rw [hop]; simp [Op.operands])
        rw [show aEval (R32 P ops cs b6) (.tmp 34) = .agg tk from c1] at this
        exact plain_eq c3 this
      have e2 : ρ (.tmp 35) = .agg zk := by
        have := hρ (.tmp 35) (by rw [hop]; simp [Op.operands])
        rw [show aEval (R32 P ops cs b6) (.tmp 35) = .agg zk from c2] at this
        exact plain_eq c4 this
      refine Does.value (s := do eqGuard .neq t (.tmp 34) (.tmp 35) (.agg tk) (.agg zk); binOp .neq t (.agg tk) (.agg zk)) ?_ hW (c6 w) (.bool b6)
      simp only [execOp, hop, e1, e2]
    · have hi : i ∈ idx32 := List.mem_filter.2 ⟨List.mem_filter.2 ⟨by have := (Array.getElem?_eq_some_iff.1 ho).1; simp; omega, hp⟩, by cases hb : Nat.beq i 28 with | false => rfl | true => exact absurd (Nat.eq_of_beq_eq_true hb) h32⟩
      have := List.map_inj_left.1 h2 i hi
      exact aOp_run hW (by simpa [ho, hd] using this) hρ
  · rw [h3, h4]
    exact VR.ptr (σ := σbox B n) ⟨0, 0, none⟩ ⟨B, 0, n⟩ rfl rfl

theorem arr_of {tm tm0 : Array Value} {it : Value} (h : tm.size = 58) (h0 : tm0.size = 58) (old : ∀ t, (t < 14 ∨ 41 < t) → tm[t]? = tm0[t]?) (hit : tm.getD 41 undef = it) :
    ∃ xs : List Value, xs.length = 27 ∧ tm = (tm0.toList.take 14 ++ (xs ++ (it :: tm0.toList.drop 42))).toArray := by
  have hl : tm.toList.length = 58 := by simpa using h
  have hl0 : tm0.toList.length = 58 := by simpa using h0
  refine ⟨(tm.toList.drop 14).take 27, by simp [hl], ?_⟩
  apply Array.ext'
  apply List.ext_getElem?
  intro i
  simp only []
  by_cases h1 : i < 14
  · rw [List.getElem?_append_left (by simp [hl0]; omega), List.getElem?_take_of_lt h1]
    have := old i (.inl h1)
    simpa using this
  · rw [List.getElem?_append_right (by simp [hl0]; omega)]
    have e14 : (tm0.toList.take 14).length = 14 := by simp [hl0]
    rw [e14]
    by_cases h2 : i < 41
    · rw [List.getElem?_append_left (by simp [hl]; omega), List.getElem?_take_of_lt (by omega), List.getElem?_drop]
      congr 1
      omega
    · rw [List.getElem?_append_right (by simp [hl]; omega)]
      have e27 : ((tm.toList.drop 14).take 27).length = 27 := by simp [hl]
      rw [e27]
      by_cases h3 : i = 41
      · subst h3
        have : tm[41]? = some it := by
          rw [← hit]
          simp [Array.getElem?_eq_getElem (show 41 < tm.size by omega)]
        simpa using this
      · obtain ⟨j, rfl⟩ : ∃ j, i = j + 42 := ⟨i - 42, by omega⟩
        have e : j + 42 - 14 - 27 = j + 1 := by omega
        rw [e, List.getElem?_cons_succ, List.getElem?_drop]
        have := old (j + 42) (.inr (by omega))
        have e2 : 42 + j = j + 42 := by omega
        rw [e2]
        simpa using this
theorem bool_inv {H : Type} {P : Program} {e : TypeId} (he : P.underlying e = some .bool) {v : Value} {y : DataW H × List MemPlace} (h : plainElem P e v = some y) : ∃ c, v = .bool c := by
  unfold plainElem at h
  rw [he] at h
  cases v <;> simp at h
  exact ⟨_, rfl⟩

theorem box_cell {σ : Inj} {cs : List Value} {w' : World} {B n : Nat} (h : WRel σ (Wbox cs) w'.heap) (hσ : σ 0 = some ⟨B, 0, n⟩) {i : Nat} {v : Value} (hv : cs[i]? = some v) (hp : plain v = true) : w'.cell? ⟨B, i, none⟩ = some v := by
  have hg : (Wbox cs).get 0 = some (.cells cs) := by
    show T.get (path 0) (T.set (some (AObj.cells cs)) (path 0) .lf) = _
    exact T.get_set _ _ _
  obtain ⟨c, t, fr, h1, _, _, _, h4⟩ := h.obj 0 _ _ hg hσ
  obtain ⟨v', h5, h6⟩ := h4 i v hv
  rw [plain_eq hp h6] at h5
  simp only [Nat.zero_add] at h5
  simp [World.cell?, h1, h5]
def hof (g0 g1 g2 g3 g4 g5 g6 g7 : Bool) : Int := (cond g0 1 0 + (cond g1 2 0 + (cond g2 4 0 + (cond g3 8 0 + (cond g4 16 0 + (cond g5 32 0 + (cond g6 64 0 + cond g7 128 0)))))) : Nat)

structure Came (P : Program) (TK TE m r n : Nat) (D : DataW Unit) (left : Lit → Bool) (cnt : Nat) (w : World) where
  x : Int
  c : Bool
  w1 : World
  cnt1 : Nat
  hl : left (.int .i64 x) = true
  hat : ∀ zd, D.atKey (.int .i64 x) zd = .lit (.bool c)
  hrg : w1.ranges P TK (plainElem P TE) m r n D (fun z => left z && !z.sameKey (.int .i64 x)) cnt1
  hlt : cnt1 < cnt
  hgr : w.grownBy w1 (some r)
  hsz : w1.heap.size = w.heap.size
  hen : (Instr.entry (.pointer (some ⟨r, 0, none⟩))).run P w1 = .ok (.tuple #[.int .i64 x, .bool c]) w1
theorem wpList_next_bool {P : Program} {ops : Array Oper} {rest : List Oper} {o : Oper} {a : Act} {w : World} {Q : Exit → Act → World → Prop} (hg : o.guard = none) (it : Operand) (hop : o.op = Op.next it false) {TK TE m r n : Nat} {D : DataW Unit} {left : Lit → Bool} {cnt : Nat}
    (hk : P.underlying TK = some (.int .i64)) (he : P.underlying TE = some .bool) (hit : a.eval it = .pointer (some ⟨r, 0, none⟩)) (h : w.ranges P TK (plainElem P TE) m r n D left cnt)
    (hDone : (∀ kl, left kl = false) → wpList P ops Q rest (a.put o.dst (.tuple #[.bool false])) w)
    (hMore : ∀ z : Came P TK TE m r n D left cnt w, wpList P ops Q rest (a.put o.dst (.tuple #[.bool true, .int .i64 z.x, .bool z.c])) z.w1) : wpList P ops Q (o :: rest) a w :=
  wpList_next_ranges (α := Int) (β := Bool) w hg it hop TK (Go.Maps.int_keyed hk) (plainElem P TE) (Value.int .i64) Value.bool (fun key kl hkey => by obtain ⟨x, rfl, _⟩ := Go.Maps.keyOf_int_inv hk hkey; exact ⟨x, rfl⟩) (fun v y hv => bool_inv he hv) m r n D left cnt hit h (fun _ => hDone)
    (fun x c kl y w1 cnt1 hkey hlk hy hat hrg hlt hgr hsz hen => by
      obtain ⟨x', ex, rfl, _⟩ := Go.Maps.keyOf_int_inv hk hkey
      cases ex
      rw [plainElem_bool he] at hy
      injection hy with hy
      subst hy
      exact hMore ⟨x, c, w1, cnt1, hlk, hat, hrg, hlt, hgr, hsz, hen⟩)
theorem dall_key {b0 b1 b2 b3 b4 b5 b6 b7 c : Bool} {x : Int} (h : Maps.has (Dall b0 b1 b2 b3 b4 b5 b6 b7) (.int .i64 x) = true) (hat : ∀ zd, (Dall b0 b1 b2 b3 b4 b5 b6 b7).atKey (.int .i64 x) zd = .lit (.bool c)) :
    (x = 1 ∧ c = b0) ∨ (x = 2 ∧ c = b1) ∨ (x = 4 ∧ c = b2) ∨ (x = 8 ∧ c = b3) ∨ (x = 16 ∧ c = b4) ∨ (x = 32 ∧ c = b5) ∨ (x = 64 ∧ c = b6) ∨ (x = 128 ∧ c = b7) := by
  have hx : x = 1 ∨ x = 2 ∨ x = 4 ∨ x = 8 ∨ x = 16 ∨ x = 32 ∨ x = 64 ∨ x = 128 := by
    simp only [Maps.has, Dall, Dof, ent, List.cons_append, List.nil_append, List.any_cons, List.any_nil, Bool.or_false, Bool.or_eq_true] at h
    rcases h with h | h | h | h | h | h | h | h <;> (have := WideAt.sameKey_eq h; injection this with _ this; simp_all)
  rcases hx with rfl | rfl | rfl | rfl | rfl | rfl | rfl | rfl
  · have : (DataW.lit (.bool b0) : DataW Unit) = .lit (.bool c) := hat .nil
    injection this with this; injection this with this; simp [this]
  · have : (DataW.lit (.bool b1) : DataW Unit) = .lit (.bool c) := hat .nil
    injection this with this; injection this with this; simp [this]
  · have : (DataW.lit (.bool b2) : DataW Unit) = .lit (.bool c) := hat .nil
    injection this with this; injection this with this; simp [this]
  · have : (DataW.lit (.bool b3) : DataW Unit) = .lit (.bool c) := hat .nil
    injection this with this; injection this with this; simp [this]
  · have : (DataW.lit (.bool b4) : DataW Unit) = .lit (.bool c) := hat .nil
    injection this with this; injection this with this; simp [this]
  · have : (DataW.lit (.bool b5) : DataW Unit) = .lit (.bool c) := hat .nil
    injection this with this; injection this with this; simp [this]
  · have : (DataW.lit (.bool b6) : DataW Unit) = .lit (.bool c) := hat .nil
    injection this with this; injection this with this; simp [this]
  · have : (DataW.lit (.bool b7) : DataW Unit) = .lit (.bool c) := hat .nil
    injection this with this; injection this with this; simp [this]
theorem or0 : ∀ g1 g2 g3 g4 g5 g6 g7 : Bool, bits .or .i64 (hof false g1 g2 g3 g4 g5 g6 g7) 1 = hof true g1 g2 g3 g4 g5 g6 g7 := by decide +kernel
theorem or1 : ∀ g0 g2 g3 g4 g5 g6 g7 : Bool, bits .or .i64 (hof g0 false g2 g3 g4 g5 g6 g7) 2 = hof g0 true g2 g3 g4 g5 g6 g7 := by decide +kernel
theorem or2 : ∀ g0 g1 g3 g4 g5 g6 g7 : Bool, bits .or .i64 (hof g0 g1 false g3 g4 g5 g6 g7) 4 = hof g0 g1 true g3 g4 g5 g6 g7 := by decide +kernel
theorem or3 : ∀ g0 g1 g2 g4 g5 g6 g7 : Bool, bits .or .i64 (hof g0 g1 g2 false g4 g5 g6 g7) 8 = hof g0 g1 g2 true g4 g5 g6 g7 := by decide +kernel
theorem or4 : ∀ g0 g1 g2 g3 g5 g6 g7 : Bool, bits .or .i64 (hof g0 g1 g2 g3 false g5 g6 g7) 16 = hof g0 g1 g2 g3 true g5 g6 g7 := by decide +kernel
theorem or5 : ∀ g0 g1 g2 g3 g4 g6 g7 : Bool, bits .or .i64 (hof g0 g1 g2 g3 g4 false g6 g7) 32 = hof g0 g1 g2 g3 g4 true g6 g7 := by decide +kernel
theorem or6 : ∀ g0 g1 g2 g3 g4 g5 g7 : Bool, bits .or .i64 (hof g0 g1 g2 g3 g4 g5 false g7) 64 = hof g0 g1 g2 g3 g4 g5 true g7 := by decide +kernel
theorem or7 : ∀ g0 g1 g2 g3 g4 g5 g6 : Bool, bits .or .i64 (hof g0 g1 g2 g3 g4 g5 g6 false) 128 = hof g0 g1 g2 g3 g4 g5 g6 true := by decide +kernel
theorem hof_step {left : Lit → Bool} {x : Int} {c : Bool} {b0 b1 b2 b3 b4 b5 b6 b7 : Bool} (hl : left (.int .i64 x) = true)
    (h8 : (x = 1 ∧ c = b0) ∨ (x = 2 ∧ c = b1) ∨ (x = 4 ∧ c = b2) ∨ (x = 8 ∧ c = b3) ∨ (x = 16 ∧ c = b4) ∨ (x = 32 ∧ c = b5) ∨ (x = 64 ∧ c = b6) ∨ (x = 128 ∧ c = b7)) :
    (c = false → hof (!left (.int .i64 1) && b0) (!left (.int .i64 2) && b1) (!left (.int .i64 4) && b2) (!left (.int .i64 8) && b3) (!left (.int .i64 16) && b4) (!left (.int .i64 32) && b5) (!left (.int .i64 64) && b6) (!left (.int .i64 128) && b7) = hof (!(fun z => left z && !z.sameKey (.int .i64 x)) (.int .i64 1) && b0) (!(fun z => left z && !z.sameKey (.int .i64 x)) (.int .i64 2) && b1) (!(fun z => left z && !z.sameKey (.int .i64 x)) (.int .i64 4) && b2) (!(fun z => left z && !z.sameKey (.int .i64 x)) (.int .i64 8) && b3) (!(fun z => left z && !z.sameKey (.int .i64 x)) (.int .i64 16) && b4) (!(fun z => left z && !z.sameKey (.int .i64 x)) (.int .i64 32) && b5) (!(fun z => left z && !z.sameKey (.int .i64 x)) (.int .i64 64) && b6) (!(fun z => left z && !z.sameKey (.int .i64 x)) (.int .i64 128) && b7)) ∧
    (c = true → bits .or .i64 (hof (!left (.int .i64 1) && b0) (!left (.int .i64 2) && b1) (!left (.int .i64 4) && b2) (!left (.int .i64 8) && b3) (!left (.int .i64 16) && b4) (!left (.int .i64 32) && b5) (!left (.int .i64 64) && b6) (!left (.int .i64 128) && b7)) x = hof (!(fun z => left z && !z.sameKey (.int .i64 x)) (.int .i64 1) && b0) (!(fun z => left z && !z.sameKey (.int .i64 x)) (.int .i64 2) && b1) (!(fun z => left z && !z.sameKey (.int .i64 x)) (.int .i64 4) && b2) (!(fun z => left z && !z.sameKey (.int .i64 x)) (.int .i64 8) && b3) (!(fun z => left z && !z.sameKey (.int .i64 x)) (.int .i64 16) && b4) (!(fun z => left z && !z.sameKey (.int .i64 x)) (.int .i64 32) && b5) (!(fun z => left z && !z.sameKey (.int .i64 x)) (.int .i64 64) && b6) (!(fun z => left z && !z.sameKey (.int .i64 x)) (.int .i64 128) && b7)) := by
  have e : ∀ a b : Int, (Lit.int .i64 a).sameKey (.int .i64 b) = decide (a = b) := by intro a b; simp [Lit.sameKey]
  rcases h8 with ⟨rfl, rfl⟩ | ⟨rfl, rfl⟩ | ⟨rfl, rfl⟩ | ⟨rfl, rfl⟩ | ⟨rfl, rfl⟩ | ⟨rfl, rfl⟩ | ⟨rfl, rfl⟩ | ⟨rfl, rfl⟩
  · exact ⟨fun hc => by simp [e, hl, hc], fun hc => by simp [e, hl, hc, or0]⟩
  · exact ⟨fun hc => by simp [e, hl, hc], fun hc => by simp [e, hl, hc, or1]⟩
  · exact ⟨fun hc => by simp [e, hl, hc], fun hc => by simp [e, hl, hc, or2]⟩
  · exact ⟨fun hc => by simp [e, hl, hc], fun hc => by simp [e, hl, hc, or3]⟩
  · exact ⟨fun hc => by simp [e, hl, hc], fun hc => by simp [e, hl, hc, or4]⟩
  · exact ⟨fun hc => by simp [e, hl, hc], fun hc => by simp [e, hl, hc, or5]⟩
  · exact ⟨fun hc => by simp [e, hl, hc], fun hc => by simp [e, hl, hc, or6]⟩
  · exact ⟨fun hc => by simp [e, hl, hc], fun hc => by simp [e, hl, hc, or7]⟩
theorem frozen_ranges {H : Type} {P : Program} {k : TypeId} {w : World} {Re : Value → Option (DataW H × List MemPlace)} {b r n cnt : Nat} {D : DataW H} {left : Lit → Bool} (h : w.ranges P k Re b r n D left cnt) : ∀ a : Addr, a.block = r → w.frozen? a = false := fun a ha => ranges_cold h ha
def errB (b0 b1 b2 b3 b4 b5 b6 b7 : Bool) (u : Int) : Int := if bits .andNot .i64 (hof b0 b1 b2 b3 b4 b5 b6 b7) u = 0 then 0 else 2
theorem ranges_lt {H : Type} {P : Program} {k : TypeId} {w : World} {Re : Value → Option (DataW H × List MemPlace)} {b r n cnt : Nat} {D : DataW H} {left : Lit → Bool} (h : w.ranges P k Re b r n D left cnt) : r < w.heap.size := by
  obtain ⟨es, clock, since, seen, c0, _, _, _, _, hr, _⟩ := h
  exact (Array.getElem?_eq_some_iff.1 hr).1
end
section
variable [PlanTab]

def opArr (k ow un se sc n to t1 t2 t3 t4 nw : Int) : Array Value := #[.int .i64 k, .int .u32 ow, .int .i64 un, .int .i64 se, .int .i64 sc, .int .i64 n, .int .u32 to, .int .u32 t1, .int .u32 t2, .int .u64 t3, .int .u64 t4, .int .i64 nw]
def errOp (ow un se sc n to t1 t2 t3 t4 nw u : Int) : Int :=
  errB (!decide (ow = 0)) (!decide (un = 0)) (!decide (se = 0)) (!decide (sc = 0)) (!decide (n = 0)) (!decide (to = 0)) (!((t1 == 0) && ((t2 == 0) && ((t3 == 0) && ((t4 == 0) && true))))) (!decide (nw = 0)) u
noncomputable def chkArgs (c : List Value) (W : AW) : Option Value :=
  match c with
  | [.int .i64 k, .int .u32 ow, .int .i64 un, .int .i64 se, .int .i64 sc, .int .i64 n, .int .u32 to, .int .u32 t1, .int .u32 t2, .int .u64 t3, .int .u64 t4, .int .i64 nw] =>
    (match decide (k < 1) || decide (12 < k) with
    | true => some (.int .i64 2)
    | false => match W.get 0 with
      | some (.ro us) => (match us[k.toNat]? with
        | some (.int .i64 u) => some (.int .i64 (errOp ow un se sc n to t1 t2 t3 t4 nw u))
        | _ => none)
      | _ => none)
  | _ => none
noncomputable def chk (F : Nat) : Callee := fun f args W => match f with
  | .func (.func g) fs cs => (match Nat.beq g F && (fs.isEmpty && cs.isEmpty) with
    | true => (match args with
      | [.agg c] => (match chkArgs c.toList W with
        | some v => some (v, W)
        | none => none)
      | _ => none)
    | false => none)
  | _ => none

theorem Quiet.box (w : World) (cs : Array Value) (t : TypeId) : Quiet w (w.alloc (.cells cs t)) := by
  exact ⟨rfl, rfl, rfl, by simp, fun B hB => (World.grownBy_alloc w _ none).block B hB (by simp)⟩

theorem chk_ok {P : Program} {ng : List Nat} (h0 : 0 ∈ ng) {F : Nat} {fn : Func} {body : Code} (hfn : P.funcs[F]? = some fn) (hname : (fn.name == "runtime.NumGoroutine") = false) (hb : fn.body = some body)
    (hin : ∀ (k ow un se sc n to t1 t2 t3 t4 nw u : Int) (w : World), ¬ k < 1 → ¬ 12 < k → w.cell? ⟨0, k.toNat, none⟩ = some (.int .i64 u) →
      Calls P F #[.agg (opArr k ow un se sc n to t1 t2 t3 t4 nw)] w fun e w' => e = .returned (.int .i64 (errOp ow un se sc n to t1 t2 t3 t4 nw u)) ∧ Quiet w w')
    (hout : ∀ (k ow un se sc n to t1 t2 t3 t4 nw : Int) (w : World), (k < 1 ∨ 12 < k) →
      Calls P F #[.agg (opArr k ow un se sc n to t1 t2 t3 t4 nw)] w fun e w' => e = .returned (.int .i64 2) ∧ Quiet w w') : CalleeOK P ng (chk F) := by
  intro f args W v W' h σ w f' args' hW hG hf hargs
  unfold chk at h
  split at h
  case h_2 => cases h
  rename_i g fs cs
  split at h
  case h_2 => cases h
  rename_i hgf
  simp only [Bool.and_eq_true, Nat.beq_eq, Array.isEmpty_iff] at hgf
  obtain ⟨rfl, rfl, rfl⟩ := hgf
  split at h
  case h_2 => cases h
  rename_i c
  split at h
  case h_2 => cases h
  rename_i v1 hv1
  injection h with h
  injection h with h1 h2
  subst h1; subst h2
  obtain ⟨fn', fs', cs', hfr, hfs, hcs, rfl⟩ := hf.func_inv
  cases hfr
  obtain rfl : fs' = #[] := by
    have h1 : fs'.toList.length = 0 := hfs.1.symm
    exact Array.toList_eq_nil_iff.1 (List.length_eq_zero_iff.1 h1)
  obtain rfl : cs' = #[] := by
    have h1 : cs'.toList.length = 0 := hcs.1.symm
    exact Array.toList_eq_nil_iff.1 (List.length_eq_zero_iff.1 h1)
  obtain ⟨a0, rfl⟩ : ∃ a0, args' = [a0] := by
    have := hargs.1
    match args', this with
    | [a0], _ => exact ⟨a0, rfl⟩
  unfold chkArgs at hv1
  split at hv1
  case h_2 => cases hv1
  rename_i k ow un se sc n to t1 t2 t3 t4 nw hc
  have hc' : c = opArr k ow un se sc n to t1 t2 t3 t4 nw := by
    apply Array.ext'
    rw [hc]; rfl
  subst hc'
  have ha : a0 = .agg (opArr k ow un se sc n to t1 t2 t3 t4 nw) := plain_eq (v := .agg (opArr k ow un se sc n to t1 t2 t3 t4 nw)) rfl (hargs.2 0 _ _ rfl rfl)
  subst ha
  have fin : ∀ z : Int, (Calls P g #[.agg (opArr k ow un se sc n to t1 t2 t3 t4 nw)] w fun e w' => e = .returned (.int .i64 z) ∧ Quiet w w') →
      CallV P (.func (.func g) #[] #[]) [.agg (opArr k ow un se sc n to t1 t2 t3 t4 nw)] w (fun v' w' => ∃ σ', VR σ' (.int .i64 z) v' ∧ WRel σ' W w'.heap ∧ Ext σ W w σ' W w') := by
    intro z hz
    refine ⟨run_callFunc_enter' hfn hname hb _ w, ?_⟩
    refine CallsIn.mono (show CallsIn Fence.wide 0 P g _ w _ from (callsIn_wide (n := 0)).2 hz) ?_
    rintro e w' ⟨rfl, hq⟩
    exact ⟨_, rfl, σ, .int _ _, hq.rel hW, hq.ext σ W⟩
  split at hv1
  · rename_i hk
    injection hv1 with hv1
    subst hv1
    exact fin _ (hout _ _ _ _ _ _ _ _ _ _ _ _ w (by simpa using hk))
  · rename_i hk
    simp only [Bool.or_eq_false_iff, decide_eq_false_iff_not] at hk
    split at hv1
    case h_2 => cases hv1
    rename_i us hus
    split at hv1
    case h_2 => cases hv1
    rename_i u hu
    injection hv1 with hv1
    subst hv1
    obtain ⟨e, he⟩ := hG 0 h0
    obtain ⟨cc, t, fr, k1, _, k3⟩ := hW.obj 0 _ _ hus he
    have hcell : w.cell? ⟨0, k.toNat, none⟩ = some (.int .i64 u) := by
      obtain ⟨v', this, hv'⟩ := k3 _ _ hu
      obtain rfl := hv'.int_inv
      simp only [Nat.zero_add] at this
      simp [World.cell?, k1, this]
    exact fin _ (hin _ _ _ _ _ _ _ _ _ _ _ _ _ w hk.1 hk.2 hcell)

theorem quiet_ofG {gs : List (Nat × List Value)} {N : Nat} {σ' : Inj} {W' : AW} {w w' : World} (he : Ext (σG gs) (WG gs N) w σ' W' w') : Quiet w w' :=
  ⟨he.os, he.tape, he.output, he.size, fun B hB => he.keep B hB mut_G⟩
theorem closed_quiet {P : Program} (hm : P.follows .mixedOrders = true) {bad : List Nat} (hP : funsOk PlanTab.ng bad 0 P.funcs.toList = true) {spec : Callee} (hs : CalleeOK P PlanTab.ng spec) (n : Nat)
    {gs : List (Nat × List Value)} {N : Nat} (hN : gs.all (fun x => Nat.blt x.1 N) = true) (hng : PlanTab.ng.all (fun g => (gs.find? (fun x => x.1 == g)).isSome) = true) {i : Nat} {args : List Value} (hpl : args.all plain = true)
    (h : okTrue (aCallF P bad spec n (.func (.func i) #[] #[]) args (WG gs N)) = true) (w : World) (hl : LaidG gs w.heap) :
    Calls P i args.toArray w fun e w' => e = .returned (.bool true) ∧ Quiet w w' := by
  obtain ⟨W', hr⟩ := okTrue_eq h
  have hc := callee_ok hm rfl hP hs n _ _ _ _ _ hr (σG gs) w (.func (.func i) #[] #[]) args (rel_G hN hl) (glob_G hng)
    (.func _ _ _ _ _ _ (.func i) rfl (fun i v v' x => by simp at x) rfl (fun i v v' x => by simp at x)) (plains_rel hpl)
  unfold CallV at hc
  obtain ⟨_, hc⟩ := hc
  have e1 : (#[] : Array Value) ++ args.toArray ++ #[] = args.toArray := by simp
  rw [e1] at hc
  refine (callsIn_wide (n := 0)).1 ?_
  refine CallsIn.mono (show CallsIn Fence.wide 0 P i args.toArray w _ from hc) ?_
  rintro e w' ⟨v, rfl, σ', hv, _, he⟩
  exact ⟨by rw [hv.bool_inv], quiet_ofG he⟩
theorem funsOk_more {ng bad : List Nat} {F : Nat} : ∀ {l : List Func} {i : Nat}, funsOk ng bad i l = true → funsOk ng (F :: bad) i l = true
  | [], _, _ => rfl
  | f :: l, i, h => by
    simp only [funsOk, Bool.and_eq_true, Bool.or_eq_true] at h ⊢
    refine ⟨?_, funsOk_more h.2⟩
    rcases h.1 with h1 | h1
    · exact .inl (inL_iff.2 (List.mem_cons_of_mem _ (inL_iff.1 h1)))
    · exact .inr h1
noncomputable def memo (F : Nat) (names : List ByteArray) (s : Callee) : Callee := fun f args W => match f with
  | .func (.func g) fs cs => (match Nat.beq g F && (fs.isEmpty && cs.isEmpty) with
    | true => (match args with
      | [.string b] => (match names.any (bytesEq b) with
        | true => (match W.get 0 with
          | some (.ro _) => some (.bool true, W)
          | _ => none)
        | false => none)
      | _ => none)
    | false => s (.func (.func g) fs cs) args W)
  | _ => none
theorem memo_ok {P : Program} {ng : List Nat} (h0 : 0 ∈ ng) {F : Nat} {fn : Func} {body : Code} (hfn : P.funcs[F]? = some fn) (hname : (fn.name == "runtime.NumGoroutine") = false) (hb : fn.body = some body) {names : List ByteArray} {s : Callee} (hs : CalleeOK P ng s)
    (hall : ∀ b ∈ names, ∀ w : World, LaidG [(0, [])] w.heap → Calls P F #[.string b] w fun e w' => e = .returned (.bool true) ∧ Quiet w w') : CalleeOK P ng (memo F names s) := by
  intro f args W v W' h σ w f' args' hW hG hf hargs
  unfold memo at h
  split at h
  case h_2 => cases h
  rename_i g fs cs
  split at h
  case h_2 => exact hs _ _ _ _ _ h σ w f' args' hW hG hf hargs
  rename_i hgf
  simp only [Bool.and_eq_true, Nat.beq_eq, Array.isEmpty_iff] at hgf
  obtain ⟨rfl, rfl, rfl⟩ := hgf
  split at h
  case h_2 => cases h
  rename_i b
  split at h
  case h_2 => cases h
  rename_i hbn
  split at h
  case h_2 => cases h
  rename_i us hus
  injection h with h
  injection h with h1 h2
  subst h1; subst h2
  obtain ⟨fn', fs', cs', hfr, hfs, hcs, rfl⟩ := hf.func_inv
  cases hfr
  obtain rfl : fs' = #[] := by
    have h1 : fs'.toList.length = 0 := hfs.1.symm
    exact Array.toList_eq_nil_iff.1 (List.length_eq_zero_iff.1 h1)
  obtain rfl : cs' = #[] := by
    have h1 : cs'.toList.length = 0 := hcs.1.symm
    exact Array.toList_eq_nil_iff.1 (List.length_eq_zero_iff.1 h1)
  obtain ⟨a0, rfl⟩ : ∃ a0, args' = [a0] := by
    have := hargs.1
    match args', this with
    | [a0], _ => exact ⟨a0, rfl⟩
  have ha : a0 = .string b := VR.string_inv (hargs.2 0 _ _ rfl rfl)
  subst ha
  obtain ⟨e, he⟩ := hG 0 h0
  obtain ⟨cc, t, fr, k1, _, _⟩ := hW.obj 0 _ _ hus he
  obtain ⟨b', hb', hbb⟩ := List.any_eq_true.1 hbn
  have := bytesEq_eq hbb
  subst this
  have hl : LaidG [(0, [])] w.heap := fun x hx => by
    obtain rfl : x = (0, []) := by simpa using hx
    exact ⟨cc, t, fr, k1, fun i v hv => by simp at hv⟩
  refine ⟨run_callFunc_enter' hfn hname hb _ w, ?_⟩
  refine CallsIn.mono (show CallsIn Fence.wide 0 P g _ w _ from (callsIn_wide (n := 0)).2 (hall _ hb' w hl)) ?_
  rintro e w' ⟨rfl, hq⟩
  exact ⟨_, rfl, σ, .bool _, hq.rel hW, hq.ext σ W⟩
end
section
variable [PlanTab]

noncomputable def specL : List (Nat × Callee) → Callee
  | [] => fun _ _ _ => none
  | (F, c) :: l => fun f args W => match f with
    | .func (.func g) fs cs => (match Nat.beq g F with
      | true => c (.func (.func g) fs cs) args W
      | false => specL l (.func (.func g) fs cs) args W)
    | _ => none
theorem specL_ok {P : Program} {ng : List Nat} : ∀ {l : List (Nat × Callee)}, (∀ x ∈ l, CalleeOK P ng x.2) → CalleeOK P ng (specL l)
  | [], _ => fun f args W v W' h => by cases h
  | (F, c) :: l, hl => by
    intro f args W v W' h
    unfold specL at h
    split at h
    case h_2 => cases h
    split at h
    · exact hl (F, c) (by simp) _ _ _ _ _ h
    · exact specL_ok (fun x hx => hl x (by simp [hx])) _ _ _ _ _ h
def GlobW (gs : List (Nat × List Value)) (W : AW) : Prop := ∀ x ∈ gs, W.get x.1 = some (.ro x.2) ∧ x.1 < W.next
theorem GlobW.mono {gs : List (Nat × List Value)} {W W' : AW} (h : GlobW gs W) (hle : Le W W') : GlobW gs W' := fun x hx =>
  ⟨by rw [hle.get _ (h x hx).2]; exact (h x hx).1, Nat.lt_of_lt_of_le (h x hx).2 hle.next⟩
noncomputable def memoV (F : Nat) (gs : List (Nat × List Value)) (val : List Value → Option Value) : Callee := fun f args W => match f with
  | .func (.func g) fs cs => (match Nat.beq g F && (fs.isEmpty && cs.isEmpty) with
    | true => open Classical in if GlobW gs W then (match val args with
      | some v => if plain v && args.all plain then some (v, W) else none
      | none => none) else none
    | false => none)
  | _ => none
theorem memoV_at {F : Nat} {gs : List (Nat × List Value)} {val : List Value → Option Value} {args : List Value} {W : AW} {v : Value} (hg : GlobW gs W) (hv : val args = some v) (hp : plain v = true) (ha : args.all plain = true) :
    memoV F gs val (.func (.func F) #[] #[]) args W = some (v, W) := by
  unfold memoV
  simp only [Nat.beq_refl, Array.isEmpty_empty, Bool.and_self, if_pos hg, hv, hp, ha, if_true]
theorem memoV_ok {P : Program} {ng : List Nat} {F : Nat} {fn : Func} {body : Code} (hfn : P.funcs[F]? = some fn) (hname : (fn.name == "runtime.NumGoroutine") = false) (hb : fn.body = some body) {gs : List (Nat × List Value)} (hsc : gs.all (fun x => x.2.all scalar && inL x.1 ng) = true) {val : List Value → Option Value}
    (hall : ∀ args v, val args = some v → ∀ w : World, LaidG gs w.heap → Calls P F args.toArray w fun e w' => e = .returned v ∧ Quiet w w') : CalleeOK P ng (memoV F gs val) := by
  intro f args W v W' h σ w f' args' hW hG hf hargs
  unfold memoV at h
  split at h
  case h_2 => cases h
  rename_i g fs cs
  split at h
  case h_2 => cases h
  rename_i hgf
  simp only [Bool.and_eq_true, Nat.beq_eq, Array.isEmpty_iff] at hgf
  obtain ⟨rfl, rfl, rfl⟩ := hgf
  split at h
  case isFalse => cases h
  rename_i hgl
  split at h
  case h_2 => cases h
  rename_i u hu
  split at h
  case isFalse => cases h
  rename_i hpl
  injection h with h
  injection h with h1 h2
  subst h1; subst h2
  simp only [Bool.and_eq_true] at hpl
  obtain ⟨fn', fs', cs', hfr, hfs, hcs, rfl⟩ := hf.func_inv
  cases hfr
  obtain rfl : fs' = #[] := by
    have h1 : fs'.toList.length = 0 := hfs.1.symm
    exact Array.toList_eq_nil_iff.1 (List.length_eq_zero_iff.1 h1)
  obtain rfl : cs' = #[] := by
    have h1 : cs'.toList.length = 0 := hcs.1.symm
    exact Array.toList_eq_nil_iff.1 (List.length_eq_zero_iff.1 h1)
  obtain rfl : args' = args := LR.eq_of (fun v v' => plain_eq) hpl.2 hargs
  have hl : LaidG gs w.heap := fun x hx => by
    have hs := List.all_eq_true.1 hsc x hx
    simp only [Bool.and_eq_true] at hs
    obtain ⟨e, he⟩ := hG x.1 (inL_iff.1 hs.2)
    obtain ⟨c, t, fr, k1, _, k3⟩ := hW.obj x.1 _ _ (hgl x hx).1 he
    refine ⟨c, t, fr, k1, fun i v hv => ?_⟩
    obtain ⟨v', a, b⟩ := k3 i v hv
    have hsv := List.all_eq_true.1 hs.1 v (List.mem_of_getElem? hv)
    have : v' = v := scalar_eq hsv b
    subst this
    exact ⟨by simpa using a, hsv⟩
  refine ⟨run_callFunc_enter' hfn hname hb _ w, ?_⟩
  have e1 : (#[] : Array Value) ++ args'.toArray ++ #[] = args'.toArray := by simp
  rw [e1]
  refine CallsIn.mono (show CallsIn Fence.wide 0 P g _ w _ from (callsIn_wide (n := 0)).2 (hall _ _ hu w hl)) ?_
  rintro e w' ⟨rfl, hq⟩
  exact ⟨_, rfl, σ, plain_refl hpl.1, hq.rel hW, hq.ext σ W⟩
def AllRo (σ : Inj) (W : AW) : Prop := ∀ b g, σ b = some g → ∃ cs, W.get b = some (.ro cs)
theorem AllRo.quiet {σ σ' : Inj} {W W' : AW} {w w' : World} (h : AllRo σ W) (he : Ext σ W w σ' W' w') : Quiet w w' :=
  ⟨he.os, he.tape, he.output, he.size, fun B hB => he.keep B hB (by rintro ⟨b, g, hg, _, hn⟩; obtain ⟨cs, hc⟩ := h b g hg; exact hn cs hc)⟩
theorem om_calls {P : Program} {o : Callee} (hok : CalleeOK P PlanTab.ng o) {σ : Inj} {W W' : AW} {w : World} (hW : WRel σ W w.heap) (hG : Glob σ PlanTab.ng) (hro : AllRo σ W) {i : FuncId} {args args' : List Value} (hargs : LR σ args args') {v : Value} (hv : plain v = true)
    (h : o (.func (.func i) #[] #[]) args W = some (v, W')) : Calls P i args'.toArray w fun e w' => e = .returned v ∧ Quiet w w' := by
  have hc := hok _ _ _ _ _ h σ w (.func (.func i) #[] #[]) args' hW hG (.func _ _ _ _ _ _ (.func i) rfl (fun i v v' x => by simp at x) rfl (fun i v v' x => by simp at x)) hargs
  unfold CallV at hc
  obtain ⟨_, hc⟩ := hc
  have e1 : (#[] : Array Value) ++ args'.toArray ++ #[] = args'.toArray := by simp
  rw [e1] at hc
  refine (callsIn_wide (n := 0)).1 ?_
  refine CallsIn.mono (show CallsIn Fence.wide 0 P i args'.toArray w _ from hc) ?_
  rintro e w' ⟨v', rfl, σ', hv', _, he⟩
  exact ⟨by rw [plain_eq hv hv'], hro.quiet he⟩
theorem allRo_G {gs : List (Nat × List Value)} {N : Nat} : AllRo (σG gs) (WG gs N) := by
  intro b g hg
  obtain ⟨x, _, _, _, ht⟩ := σG_some hg
  exact ⟨x.2, ht⟩
theorem globW_G {gs : List (Nat × List Value)} {N : Nat} (hN : gs.all (fun x => Nat.blt x.1 N) = true) (hd : ∀ x ∈ gs, gs.find? (fun y => y.1 == x.1) = some x) : GlobW gs (WG gs N) := by
  intro x hx
  refine ⟨?_, show x.1 < N by have := List.all_eq_true.1 hN x hx; simpa [Nat.blt_eq] using this⟩
  show T.get (path x.1) (treeG gs) = _
  rw [treeG_get, hd x hx]
  rfl
end
end Go.Eng
namespace Go.Eng
open Go
section
variable [PlanTab]
section
variable {P : Program} {W : AW}
def bytesL (l : List UInt8) : ByteArray := ⟨l.toArray⟩
theorem bytesL_back (b : ByteArray) : bytesL b.data.toList = b := by cases b; simp [bytesL]
theorem bytesL_size (l : List UInt8) : (bytesL l).size = l.length := by simp [bytesL, ByteArray.size]
theorem strV_L (l : List Nat) : strV l = .string (bytesL (l.map UInt8.ofNat)) := Eq.trans rfl rfl
theorem bytesL_getElem? (l : List UInt8) (i : Nat) : (bytesL l)[i]? = l[i]? := by
  by_cases h : i < l.length
  · have h2 : i < (bytesL l).size := by rw [bytesL_size]; exact h
    rw [List.getElem?_eq_getElem h, getElem?_pos (bytesL l) i h2]
    rfl
  · rw [List.getElem?_eq_none (by omega), getElem?_neg (bytesL l) i (by rw [bytesL_size]; exact h)]
theorem pureV {s : Sem Value} {v : Value} (h : pureRun P s = some v) (hv : plain v = true) (c : Bool) (hc : c = true) : (pureS P c (do pure (.value (← s)))).map (fun v => (v, W)) = some (v, W) := by
  subst hc
  unfold pureS
  simp only [if_true, pureNext h, hv, Option.map_some]
theorem str_index {t : TypeId} (hs : P.underlying t = some .string) {l : List UInt8} {i : Nat} {k : IntKind} (hi : i < l.length) : oIndex P t (.string (bytesL l)) (.int k (i : Int)) W = some (.int .u8 (l[i].toNat : Int), W) := by
  have e : oIndex P t (.string (bytesL l)) (.int k (i : Int)) W = (pureS P (plain (.string (bytesL l)) && (plain (.int k (i : Int)) && true)) (do pure (.value (← Instr.index t (.string (bytesL l)) (.int k (i : Int)))))).map fun v => (v, W) := by
    unfold oIndex
    rw [hs]
  rw [e]
  refine pureV ?_ rfl _ rfl
  unfold Instr.index
  have h0 : (0 : Int) ≤ (i : Int) := by omega
  simp only [asIntOf, pure_bind, pureRun_bind, pureRun_underlying hs, Option.bind_some, h0, if_true, Int.toNat_natCast, bytesL_getElem?, List.getElem?_eq_getElem hi, pureRun_pure]
theorem str_len {ts : Array TypeId} {ty : TypeId} {cf : Array Bool} (h : (ts[0]?).bind P.underlying = some .string) (l : List UInt8) : oBuiltin P .len ts ty cf [.string (bytesL l)] W = some (.int .i64 l.length, W) := by
  obtain ⟨t, h1, h2⟩ : ∃ t, ts[0]? = some t ∧ P.underlying t = some .string := by
    cases ht : ts[0]? with
    | none => rw [ht] at h; cases h
    | some t => rw [ht] at h; exact ⟨t, rfl, h⟩
  have e : oBuiltin P .len ts ty cf [.string (bytesL l)] W = (pureS P ([Value.string (bytesL l)].all plain) (builtin .len ts ty cf #[.string (bytesL l)])).map fun v => (v, W) := by
    unfold oBuiltin
    rfl
  rw [e]
  have e2 : builtin .len ts ty cf #[.string (bytesL l)] = (do pure (.value (← Builtin.len_ ts ty #[.string (bytesL l)]))) := rfl
  rw [e2]
  refine pureV ?_ rfl _ rfl
  unfold Builtin.len_
  simp only [h1, List.getElem?_toArray, List.getElem?_cons_zero, pureRun_bind, pureRun_underlying h2, Option.bind_some, pureRun_pure, bytesL_size]
  rfl
theorem bytesL_extract (l : List UInt8) (a b : Nat) : (bytesL l).extract a b = bytesL ((l.take b).drop a) := by
  have h : ((bytesL l).extract a b).data = (bytesL ((l.take b).drop a)).data := by
    rw [ByteArray.data_extract]
    apply Array.toList_inj.1
    simp [bytesL, List.extract_eq_take_drop, List.drop_take]
  cases hx : (bytesL l).extract a b with
  | mk d => rw [hx] at h; simp only at h; rw [h]
theorem str_from {t : TypeId} (hs : P.underlying t = some .string) {l : List UInt8} {a : Nat} {k : IntKind} (h : a ≤ l.length) : oSlice P t (.string (bytesL l)) (some (.int k (a : Int))) none none W = some (.string (bytesL (l.drop a)), W) := by
  have e : oSlice P t (.string (bytesL l)) (some (.int k (a : Int))) none none W = (pureS P (([Value.string (bytesL l), .int k (a : Int)] : List Value).all plain) (do pure (.value (← Instr.sliceAt t (.string (bytesL l)) (some (.int k (a : Int))) none none)))).map fun v => (v, W) := by
    unfold oSlice aSlice
    rw [hs]
    rfl
  rw [e]
  refine pureV ?_ rfl _ rfl
  have h0 : (0 : Int) ≤ (a : Int) ∧ (a : Int) ≤ ((bytesL l).size : Int) := by rw [bytesL_size]; omega
  have hx : (bytesL l).extract a (bytesL l).size = bytesL (l.drop a) := by rw [bytesL_extract, bytesL_size, List.take_length]
  unfold Instr.sliceAt Instr.slice Instr.sliceBounds Instr.sliceBound
  simp only [pureRun_bind, pureRun_underlying hs, Option.bind_some, asIntOf, pure_bind, h0, and_self, if_true, pureRun_pure, Int.toNat_natCast, hx, Option.isSome_none, Bool.false_eq_true, if_false]
theorem str_to {t : TypeId} (hs : P.underlying t = some .string) {l : List UInt8} {a : Nat} {k : IntKind} (h : a ≤ l.length) : oSlice P t (.string (bytesL l)) none (some (.int k (a : Int))) none W = some (.string (bytesL (l.take a)), W) := by
  have e : oSlice P t (.string (bytesL l)) none (some (.int k (a : Int))) none W = (pureS P (([Value.string (bytesL l), .int k (a : Int)] : List Value).all plain) (do pure (.value (← Instr.sliceAt t (.string (bytesL l)) none (some (.int k (a : Int))) none)))).map fun v => (v, W) := by
    unfold oSlice aSlice
    rw [hs]
    rfl
  rw [e]
  refine pureV ?_ rfl _ rfl
  have h0 : (0 : Int) ≤ (a : Int) ∧ (a : Int) ≤ ((bytesL l).size : Int) := by rw [bytesL_size]; omega
  have hx : (bytesL l).extract 0 a = bytesL (l.take a) := by rw [bytesL_extract]; simp
  unfold Instr.sliceAt Instr.slice Instr.sliceBounds Instr.sliceBound
  simp only [pureRun_bind, pureRun_underlying hs, Option.bind_some, asIntOf, pure_bind, h0, and_self, if_true, pureRun_pure, Int.toNat_natCast, hx, Option.isSome_none, Bool.false_eq_true, if_false]
theorem bytesL_toList (l : List UInt8) : (bytesL l).toList = l := by rw [ByteArray.toList_eq]; rfl
theorem str_eql {t : TypeId} {c d : Bool} {a b : List UInt8} : oBin P .eql t c d (.string (bytesL a)) (.string (bytesL b)) W = some (.bool (a == b), W) := by
  rw [oBin_strings_eql, bytesL_toList, bytesL_toList]
theorem oNilCheck_ptr (a : Addr) : oNilCheck (.pointer (some a)) W = some (.pointer (some a), W) := Eq.trans rfl rfl
theorem oRes_L1n {t : TypeId} {x u : Value} : oRes P [(x, some t), (u, none)] W = (oLoad P t x W).bind fun r => some (.tuple #[r.1, u], W) := by
  unfold oRes oLoad; simp only [oResL]; cases aLoad P W t x <;> rfl
theorem oRes_L2 {t t2 : TypeId} {x y : Value} : oRes P [(x, some t), (y, some t2)] W = (oLoad P t x W).bind fun r => (oLoad P t2 y W).bind fun q => some (.tuple #[r.1, q.1], W) := by
  unfold oRes oLoad; simp only [oResL]; cases aLoad P W t x <;> cases aLoad P W t2 y <;> rfl
theorem oRes_L2n {t t2 : TypeId} {x y u : Value} : oRes P [(x, some t), (y, some t2), (u, none)] W = (oLoad P t x W).bind fun r => (oLoad P t2 y W).bind fun q => some (.tuple #[r.1, q.1, u], W) := by
  unfold oRes oLoad; simp only [oResL]; cases aLoad P W t x <;> cases aLoad P W t2 y <;> rfl
theorem stV_all {b : Nat} {cs : List Value} (h : rwCells W b = some cs) (h1 : cs.all one = true) : stV cs.length (.pointer (some ⟨b, 0, none⟩)) (.agg cs.toArray) W = some (undef, W.put b (.cells cs)) := by
  rw [stV_agg, h]
  simp only [Option.bind_some, List.size_toArray, Nat.zero_add, Nat.le_refl, h1, and_self, if_true, setN, List.take_zero, List.nil_append, List.drop_length, List.append_nil]
theorem ldA_all {b n : Nat} {cs : List Value} (h : cellsAt W b = some cs) (hn : cs.length = n) : ldA n (.pointer (some ⟨b, 0, none⟩)) W = some (.agg cs.toArray, W) := by
  rw [ldA_eq, h]
  simp only [Option.bind_some, List.drop_zero, ← hn, List.take_length, if_true]
end
end
theorem SX : type_of% (And.intro @bnd_some (And.intro @oMv_eq (And.intro @oBox_agg (And.intro @oBox_int (And.intro @oBox_bool (And.intro @oBox_string (And.intro @oBox_slice (And.intro @oBox_func (And.intro @oMkFunc_eq (And.intro @oExtract_2_0 (And.intro @oExtract_2_1 (And.intro @oExtract_3_0 (And.intro @oExtract_3_1 (And.intro @oExtract_3_2 (And.intro @wnt_true (And.intro @wnt_false (And.intro @bIf_true (And.intro @bIf_false (And.intro @vIf_bool (And.intro @oPick_bool (And.intro @kNorm_normal (And.intro @kNorm_exit (And.intro @kNorm_ret (And.intro @kExit_same (And.intro @kExit_ret (And.intro @kExit_normal (And.intro @kRetX_ret (And.intro @oUn_not (And.intro @fnV_eq (And.intro @glbV_eq (And.intro @oBin_lss (And.intro @oBin_leq (And.intro @oBin_gtr (And.intro @oBin_geq (And.intro @oBin_eql (And.intro @oBin_neq (And.intro @oRes_none1 (And.intro @oRes_none2 (And.intro @oRes_none3 (And.intro @oRes_nil (And.intro @faO_ok (And.intro @Bool.not_true (And.intro @Bool.not_false (And.intro @decide_true (@decide_false))))))))))))))))))))))))))))))))))))))))))))) := And.intro @bnd_some (And.intro @oMv_eq (And.intro @oBox_agg (And.intro @oBox_int (And.intro @oBox_bool (And.intro @oBox_string (And.intro @oBox_slice (And.intro @oBox_func (And.intro @oMkFunc_eq (And.intro @oExtract_2_0 (And.intro @oExtract_2_1 (And.intro @oExtract_3_0 (And.intro @oExtract_3_1 (And.intro @oExtract_3_2 (And.intro @wnt_true (And.intro @wnt_false (And.intro @bIf_true (And.intro @bIf_false (And.intro @vIf_bool (And.intro @oPick_bool (And.intro @kNorm_normal (And.intro @kNorm_exit (And.intro @kNorm_ret (And.intro @kExit_same (And.intro @kExit_ret (And.intro @kExit_normal (And.intro @kRetX_ret (And.intro @oUn_not (And.intro @fnV_eq (And.intro @glbV_eq (And.intro @oBin_lss (And.intro @oBin_leq (And.intro @oBin_gtr (And.intro @oBin_geq (And.intro @oBin_eql (And.intro @oBin_neq (And.intro @oRes_none1 (And.intro @oRes_none2 (And.intro @oRes_none3 (And.intro @oRes_nil (And.intro @faO_ok (And.intro @Bool.not_true (And.intro @Bool.not_false (And.intro @decide_true (@decide_false))))))))))))))))))))))))))))))))))))))))))))
theorem MX : type_of% (And.intro @ldC_eq (And.intro @ldA_eq (And.intro @cellsAt_new (And.intro @rwCells_new (And.intro @Option.bind_some.{0,0} (And.intro @Option.map_some.{0,0} (And.intro @List.drop_zero.{0} (And.intro @List.drop_succ_cons.{0} (And.intro @List.take_succ_cons.{0} (And.intro @List.take_zero.{0} (And.intro @List.length_cons.{0} (And.intro @List.length_nil.{0} (And.intro @List.getElem?_cons_zero.{0} (And.intro @List.getElem?_cons_succ.{0} (And.intro @Nat.zero_add (And.intro @if_true.{1} (And.intro @and_self (And.intro @agV_some (And.intro @vsame_agg4 (And.intro @vs1_int (And.intro @vs1_string (And.intro @vs1_bool (And.intro @vs1_slice (And.intro @vs1_snil (And.intro @vs1_ptr (And.intro @vsame_slice (And.intro @vsame_snil (And.intro @vsame_ptr (And.intro @vsame_int (And.intro @vsame_bool (And.intro @vsame_string (And.intro @Bool.and_true (And.intro @Bool.true_and (And.intro @Bool.and_self (And.intro @add_put (And.intro @put_put (And.intro @stV_int (And.intro @stV_bool (And.intro @stV_string (And.intro @stV_slice (And.intro @stV_agg (And.intro @cellsAt_add (And.intro @rwCells_add (And.intro @cellsAt_put (And.intro @rwCells_put (And.intro @cellsAt_put_ne (And.intro @rwCells_put_ne (And.intro @List.set_cons_zero.{0} (And.intro @List.set_cons_succ.{0} (And.intro @List.nil_append.{0} (And.intro @List.cons_append.{0} (And.intro @one_int (And.intro @one_bool (And.intro @one_string (And.intro @one_slice (And.intro @List.all_cons.{0} (And.intro @List.all_nil.{0} (And.intro @List.size_toArray.{0} (And.intro @List.append_nil.{0} (And.intro @ixA_pos (And.intro @List.drop_nil.{0} (@List.take_nil.{0})))))))))))))))))))))))))))))))))))))))))))))))))))))))))))))) := And.intro @ldC_eq (And.intro @ldA_eq (And.intro @cellsAt_new (And.intro @rwCells_new (And.intro @Option.bind_some.{0,0} (And.intro @Option.map_some.{0,0} (And.intro @List.drop_zero.{0} (And.intro @List.drop_succ_cons.{0} (And.intro @List.take_succ_cons.{0} (And.intro @List.take_zero.{0} (And.intro @List.length_cons.{0} (And.intro @List.length_nil.{0} (And.intro @List.getElem?_cons_zero.{0} (And.intro @List.getElem?_cons_succ.{0} (And.intro @Nat.zero_add (And.intro @if_true.{1} (And.intro @and_self (And.intro @agV_some (And.intro @vsame_agg4 (And.intro @vs1_int (And.intro @vs1_string (And.intro @vs1_bool (And.intro @vs1_slice (And.intro @vs1_snil (And.intro @vs1_ptr (And.intro @vsame_slice (And.intro @vsame_snil (And.intro @vsame_ptr (And.intro @vsame_int (And.intro @vsame_bool (And.intro @vsame_string (And.intro @Bool.and_true (And.intro @Bool.true_and (And.intro @Bool.and_self (And.intro @add_put (And.intro @put_put (And.intro @stV_int (And.intro @stV_bool (And.intro @stV_string (And.intro @stV_slice (And.intro @stV_agg (And.intro @cellsAt_add (And.intro @rwCells_add (And.intro @cellsAt_put (And.intro @rwCells_put (And.intro @cellsAt_put_ne (And.intro @rwCells_put_ne (And.intro @List.set_cons_zero.{0} (And.intro @List.set_cons_succ.{0} (And.intro @List.nil_append.{0} (And.intro @List.cons_append.{0} (And.intro @one_int (And.intro @one_bool (And.intro @one_string (And.intro @one_slice (And.intro @List.all_cons.{0} (And.intro @List.all_nil.{0} (And.intro @List.size_toArray.{0} (And.intro @List.append_nil.{0} (And.intro @ixA_pos (And.intro @List.drop_nil.{0} (@List.take_nil.{0})))))))))))))))))))))))))))))))))))))))))))))))))))))))))))))
section
variable [PlanTab]
section
variable {P : Program} {W : AW} {α : Type}
def Lst (lo : Nat) (W : AW) (z : Nat) (f : α → List Value) (v : Value) (l : List α) : Prop :=
  (l = [] ∧ v = .slice none 0 0) ∨ (l ≠ [] ∧ ∃ B, lo ≤ B ∧ B < W.next ∧ v = .slice (some ⟨B, 0, none⟩) l.length (BIG + z) ∧ W.get B = some (.cells (l.flatMap f)))
theorem flatMap_len {z : Nat} {f : α → List Value} (hf : ∀ a, (f a).length = z) : ∀ l : List α, (l.flatMap f).length = l.length * z
  | [] => by simp
  | a :: l => by rw [List.flatMap_cons, List.length_append, hf, flatMap_len hf l, List.length_cons, Nat.succ_mul, Nat.add_comm]
theorem Lst.nil (lo : Nat) (W : AW) (z : Nat) (f : α → List Value) : Lst lo W z f (.slice none 0 0) [] := .inl ⟨rfl, rfl⟩
theorem Lst.mono {lo z : Nat} {f : α → List Value} {v : Value} {l : List α} {W' : AW} (h : Lst lo W z f v l) (hle : Le W W') : Lst lo W' z f v l := by
  rcases h with h | ⟨h0, B, h1, h2, h3, h4⟩
  · exact .inl h
  · exact .inr ⟨h0, B, h1, Nat.lt_of_lt_of_le h2 hle.next, h3, by rw [hle.get B h2]; exact h4⟩
theorem Lst.push {ts : Array TypeId} {z bytes lo : Nat} {f : α → List Value} {v : Value} {l : List α} {a : α} (hk : appOk P ts z bytes = true) (hf : ∀ a, (f a).length = z) (h1 : ∀ a, (f a).all one = true)
    (h : Lst lo W z f v l) {b c : Nat} (hc : cellsAt W b = some (f a)) (hb : l.length + 1 < 1099511627776) (hb2 : (2 * (l.length + 1) + 192) * bytes ≤ 281474976710656) (hlo : lo ≤ W.next) :
    ∃ v' W', aAppend P W ts v (.slice (some ⟨b, 0, none⟩) 1 c) = some (v', W') ∧ Lst lo W' z f v' (l ++ [a]) ∧ W.next ≤ W'.next ∧ ∀ A, Le A W → A.next ≤ lo → Le A W' := by
  have hn : f a = ((f a).drop 0).take (1 * z) := by rw [List.drop_zero, Nat.one_mul, ← hf a, List.take_length]
  have hl : (f a).length = 1 * z := by rw [hf]; omega
  rcases h with ⟨rfl, rfl⟩ | ⟨h0, B, i1, i2, rfl, i4⟩
  · refine ⟨_, _, app_nil (b := b) (o := 0) (c := c) hk hc hn hl (by omega) (h1 a) (by omega) (by simpa using hb2), .inr ⟨by simp, W.next, hlo, by rw [AW.add_next]; omega, by simp, by rw [AW.get_add]; simp⟩, by rw [AW.add_next]; omega, fun A hA _ => hA.add _⟩
  · have hpos : 0 < l.length := List.length_pos_iff.2 h0
    refine ⟨_, _, app_on (b := b) (o := 0) (c := c) hk hc hn hl (by omega) (h1 a) i4 (flatMap_len hf l) (by omega) hb2 hpos, .inr ⟨by simp, W.next, hlo, by rw [AW.add_next, AW.kill_next]; omega, by simp, ?_⟩, by rw [AW.add_next, AW.kill_next]; omega, fun A hA hl => (hA.kill (by omega)).add _⟩
    have := (W.kill B).get_add (.cells (l.flatMap f ++ f a))
    rw [AW.kill_next] at this
    rw [this, List.flatMap_append]
    simp
theorem Lst.row {lo z : Nat} {f : α → List Value} {v : Value} {l : List α} {at_ : List Value → Nat → α → Prop} (hf : ∀ a, (f a).length = z) (h : Lst lo W z f v l) (hat : ∀ a pre post, at_ (pre ++ (f a ++ post)) pre.length a) : Row W z at_ v l := by
  rcases h with ⟨rfl, rfl⟩ | ⟨h0, B, i1, i2, rfl, i4⟩
  · exact ⟨none, 0, rfl, .inl rfl⟩
  · refine ⟨_, _, rfl, .inr ⟨B, 0, _, rfl, i2, cellsAt_of i4, fun i hi => ?_⟩⟩
    have e : l.flatMap f = (l.take i).flatMap f ++ (f l[i] ++ (l.drop (i + 1)).flatMap f) := by
      rw [← List.flatMap_cons, ← List.drop_eq_getElem_cons hi, ← List.flatMap_append, List.take_append_drop]
    have e2 : ((l.take i).flatMap f).length = 0 + i * z := by rw [flatMap_len hf, List.length_take]; rw [Nat.min_eq_left (by omega), Nat.zero_add]
    rw [e, ← e2]
    exact hat _ _ _
theorem gc_row {W' : AW} {z : Nat} {at_ : List Value → Nat → α → Prop} {v : Value} {l : List α} (hle : Le W W') (h : Row W' z at_ v l) : ∃ W2, gc W (v, W') = (v, W2) ∧ Le W W2 ∧ Le W2 W' ∧ Row W2 z at_ v l := by
  cases hp : (plain v && !isU v)
  · exact ⟨W', gc_not hp, hle, .refl _, h⟩
  · refine ⟨W, gc_plain hp hle, .refl _, hle, ?_⟩
    obtain ⟨a, c, rfl, h⟩ := h
    rcases h with h | ⟨b, o, cs, rfl, _⟩
    · exact ⟨a, c, rfl, .inl h⟩
    · exact absurd hp (by simp [plain, plain1, scalar])
theorem om_row {o t : Option (Value × AW)} {z : Nat} {at_ : List Value → Nat → α → Prop} {l : List α} (h : Ok t fun r => Le W r.2 ∧ Row r.2 z at_ r.1 l) (hom : ∀ {r}, t = some r → o = some (gc W r)) : ∃ v W2, o = some (v, W2) ∧ Le W W2 ∧ Row W2 z at_ v l := by
  obtain ⟨⟨v, W'⟩, h1, h2, h3⟩ := h
  obtain ⟨W2, k1, k2, _, k3⟩ := gc_row h2 h3
  exact ⟨v, W2, by rw [hom h1, k1], k2, k3⟩
end
end
section
variable [PlanTab]
section
variable {P : Program} {bad : List Nat} {spec : Callee}
noncomputable def yRes (x : X) (l : Nat) (R : PlanTab.Fr) (nt : Nat) (ps : Array Tmp) (sa bd : Code) (W : AW) : Value × AW := match x with
  | .normal => (.bool true, W.put l (.loop .ready none R nt ps sa bd))
  | x => (.bool false, W.put l (.loop .done x.jump R nt ps sa bd))
theorem yield_gen {l nt : Nat} {R : PlanTab.Fr} {ps : Array Tmp} {sa bd : Code} {W : AW} {args : List Value} (hl : W.get l = some (.loop .ready none R nt ps sa bd)) (hn : args.length = ps.size)
    {R1 : PlanTab.Fr} {W1 : AW} (h1 : kCode P (om P bad spec) false nt sa LT (zipGo ps.toList args R) W ret3 = some (.normal, R1, W1)) (hk : W1.get l = some (.loop .ready none R nt ps sa bd))
    {x2 : X} {R2 : PlanTab.Fr} {W2 : AW} (h2 : kCode P (om P bad spec) false nt bd LT R1 (W1.put l (.loop .busy none R nt ps sa bd)) ret3 = some (x2, R2, W2)) (hk2 : W2.get l = some (.loop .busy none R nt ps sa bd)) :
    om P bad spec (.func (.yield l) #[] #[]) args W = some (yRes x2 l R nt ps sa bd W2) := by
  refine om_yield hl (by simpa using hn) ?_
  unfold kYield
  rw [show (#[] : Array Value).toList ++ args = args from rfl, h1]
  simp only [Option.bind_some, kNorm, hk, h2, hk2]
  unfold yRes
  cases x2 <;> rfl
theorem range_normal {call : Callee} {i : Nat} {fs cs : Array Value} {obj : AObj} {W W2 : AW} {v : Value} (h : call (.func (.func i) fs cs) [.func (.yield W.next) #[] #[]] (W.add obj) = some (v, W2))
    {st : LoopState} {R : PlanTab.Fr} {nt : Nat} {ps : Array Tmp} {sa bd : Code} (hg : W2.get W.next = some (.loop st none R nt ps sa bd)) (hs : st ≠ .busy) : oRange call (.func (.func i) fs cs) obj W = some (.normal, W2.kill W.next) := by
  unfold oRange
  simp only [h, hg]
theorem range_jump {call : Callee} {i : Nat} {fs cs : Array Value} {obj : AObj} {W W2 : AW} {v : Value} (h : call (.func (.func i) fs cs) [.func (.yield W.next) #[] #[]] (W.add obj) = some (v, W2))
    {x : X} {R : PlanTab.Fr} {nt : Nat} {ps : Array Tmp} {sa bd : Code} (hg : W2.get W.next = some (.loop .done x.jump R nt ps sa bd)) : oRange call (.func (.func i) fs cs) obj W = some (x, W2.kill W.next) := by
  unfold oRange
  simp only [h, hg]
  cases x <;> rfl
end
end
end Go.Eng
namespace Go.Eng
open Go Go.RowKit Go.Sort
section
variable [PlanTab]
def sortL (zs : List Int) : List Int := zs.mergeSort fun x y => decide (x ≤ y)
theorem sortL_len (zs : List Int) : (sortL zs).length = zs.length := List.length_mergeSort _
def SortArgs (W : AW) (args : List Value) (W' : AW) : Prop := ∃ b c zs, zs ≠ [] ∧ zs.length < 1099511627776 ∧ args = [.slice (some ⟨b, 0, none⟩) zs.length c] ∧ W.get b = some (.cells (zs.map (Value.int .i64))) ∧ W' = W.put b (.cells ((sortL zs).map (Value.int .i64)))
theorem map_int_inj : ∀ {a b : List Int}, a.map (Value.int .i64) = b.map (Value.int .i64) → a = b
  | [], [], _ => rfl
  | [], _ :: _, h => by simp at h
  | _ :: _, [], h => by simp at h
  | x :: a, y :: b, h => by
    simp only [List.map_cons, List.cons.injEq, Value.int.injEq, true_and] at h
    rw [h.1, map_int_inj h.2]
theorem SortArgs.one {W W1 W2 : AW} {args : List Value} (h1 : SortArgs W args W1) (h2 : SortArgs W args W2) : W1 = W2 := by
  obtain ⟨b, c, zs, _, _, rfl, g1, rfl⟩ := h1
  obtain ⟨b2, c2, zs2, _, _, e, g2, rfl⟩ := h2
  simp only [List.cons.injEq, Value.slice.injEq, Option.some.injEq, Addr.mk.injEq, and_true] at e
  obtain ⟨rfl, _, _⟩ := e
  rw [g1] at g2
  simp only [Option.some.injEq, AObj.cells.injEq] at g2
  rw [map_int_inj g2]
noncomputable def sortC (F : Nat) : Callee := fun f args W => match f with
  | .func (.func g) fs cs => (match Nat.beq g F && (fs.isEmpty && cs.isEmpty) with
    | true => open Classical in if h : ∃ W', SortArgs W args W' then some (.tuple #[], Classical.choose h) else none
    | false => none)
  | _ => none
theorem sortC_at {F : Nat} {W W' : AW} {args : List Value} (h : SortArgs W args W') : sortC F (.func (.func F) #[] #[]) args W = some (.tuple #[], W') := by
  unfold sortC
  have hx : ∃ W', SortArgs W args W' := ⟨W', h⟩
  simp only [Nat.beq_refl, Array.isEmpty_empty, Bool.and_self, dif_pos hx]
  rw [(Classical.choose_spec hx).one h]
theorem WRel.growing {σ : Inj} {W : AW} {w : World} (h : WRel σ W w.heap) (os : Array Obj) : WRel σ W (Sort.grow w os).heap ∧ Ext σ W w σ W (Sort.grow w os) := by
  have hold : ∀ B, B < w.heap.size → (Sort.grow w os).heap[B]? = w.heap[B]? := fun B hB => heap_grow_old w os hB
  have hsz : w.heap.size ≤ (Sort.grow w os).heap.size := by unfold Sort.grow; simp
  exact ⟨⟨h.free, fun b g hg => ⟨(h.dom b g hg).1, Nat.lt_of_lt_of_le (h.dom b g hg).2 hsz⟩, fun b o g hb hg => (h.obj b o g hb hg).same (hold _ (h.dom b g hg).2), h.disj⟩,
    ⟨.refl _, fun _ _ h => h, hsz, rfl, rfl, rfl, fun B hB _ => hold B hB, fun _ _ h k => ⟨h, k⟩, fun b g hg _ => .inl hg⟩⟩
theorem sortC_ok {P : Program} {ng : List Nat} {F : Nat} {fn : Func} {body : Code} (hfn : P.funcs[F]? = some fn) (hname : (fn.name == "runtime.NumGoroutine") = false) (hb : fn.body = some body)
    (hsort : ∀ (blk off cap : Nat) (zs : List Int) (w : World), Holds (Value.int .i64) w blk off zs.toArray → blk < w.heap.size → zs.length < 4611686018427387904 →
      Calls P F #[.slice (some ⟨blk, off, none⟩) zs.length cap] w fun e w' => e = .returned (.tuple #[]) ∧ ∃ n os, w' = Sort.grow (putRow (Value.int .i64) (Sort.ahead w n) blk off (sortL zs).toArray) os) : CalleeOK P ng (sortC F) := by
  intro f args W v W' h σ w f' args' hW hG hf hargs
  unfold sortC at h
  split at h
  case h_2 => cases h
  rename_i g fs cs
  split at h
  case h_2 => cases h
  rename_i hgf
  simp only [Bool.and_eq_true, Nat.beq_eq, Array.isEmpty_iff] at hgf
  obtain ⟨rfl, rfl, rfl⟩ := hgf
  split at h
  case isFalse => cases h
  rename_i hx
  injection h with h
  injection h with h1 h2
  subst h1
  have hs := Classical.choose_spec hx
  rw [h2] at hs
  clear h2 hx
  obtain ⟨b, c, zs, hne, hlen, rfl, hgb, rfl⟩ := hs
  obtain ⟨fn', fs', cs', hfr, hfs, hcs, rfl⟩ := hf.func_inv
  cases hfr
  obtain rfl : fs' = #[] := by
    have h1 : fs'.toList.length = 0 := hfs.1.symm
    exact Array.toList_eq_nil_iff.1 (List.length_eq_zero_iff.1 h1)
  obtain rfl : cs' = #[] := by
    have h1 : cs'.toList.length = 0 := hcs.1.symm
    exact Array.toList_eq_nil_iff.1 (List.length_eq_zero_iff.1 h1)
  obtain ⟨v', rfl, hv⟩ : ∃ v', args' = [v'] ∧ VR σ (.slice (some ⟨b, 0, none⟩) zs.length c) v' := by
    obtain ⟨hl, hv⟩ := hargs
    match args', hl with
    | [v'], _ => exact ⟨v', rfl, hv 0 _ _ rfl rfl⟩
  obtain ⟨sg, cap', hg, rfl⟩ : ∃ (sg : Seg) (cap' : Nat), σ b = some sg ∧ v' = .slice (some ⟨sg.B, sg.s, none⟩) zs.length cap' := by
    have hpos : 0 < zs.length := List.length_pos_iff.2 hne
    generalize hl : zs.length = l at hv hpos
    cases hv with
    | slice a l c c' g h hs hc => exact ⟨g, c', h, rfl⟩
    | sliceE => omega
  refine ⟨run_callFunc_enter' hfn hname hb _ w, ?_⟩
  have e1 : (#[] : Array Value) ++ [Value.slice (some ⟨sg.B, sg.s, none⟩) zs.length cap'].toArray ++ #[] = #[.slice (some ⟨sg.B, sg.s, none⟩) zs.length cap'] := by simp
  rw [e1]
  obtain ⟨cc, t, fr0, k1, k0, k2, k3, k4⟩ := hW.obj b _ _ hgb hg
  have hse : sg.s < sg.e := by
    rw [List.length_map] at k2
    have := List.length_pos_iff.2 hne
    omega
  obtain rfl := k0 hse
  have hcell : ∀ j, (hj : j < zs.length) → cc[sg.s + j]? = some (.int .i64 zs[j]) := fun j hj => by
    obtain ⟨u, u1, u2⟩ := k4 j (.int .i64 zs[j]) (by rw [List.getElem?_map, List.getElem?_eq_getElem hj]; rfl)
    cases u2
    exact u1
  have hH : Holds (Value.int .i64) w sg.B sg.s zs.toArray := fun j hj => by
    have hj' : j < zs.length := by simpa using hj
    refine ⟨?_, (ORel.cold (hW.obj b _ _ hgb hg) (fun _ hx => by cases hx) hse rfl)⟩
    unfold World.cell?
    simp only [k1, hcell j hj', Option.isSome_none]
    rw [getElem!_pos zs.toArray j hj]
    simp
  have hbl := (hW.dom b _ hg).2
  refine CallsIn.mono (show CallsIn Fence.wide 0 P g _ w _ from (callsIn_wide (n := 0)).2 (hsort sg.B sg.s cap' zs w hH hbl (by omega))) ?_
  rintro e w' ⟨rfl, n, os, rfl⟩
  have hsl : (sortL zs).length = zs.length := sortL_len zs
  have hmod : ∀ B, B ≠ sg.B → (putRow (Value.int .i64) (Sort.ahead w n) sg.B sg.s (sortL zs).toArray).heap[B]? = w.heap[B]? := fun B hB => by
    show (w.heap.modify sg.B _)[B]? = _
    rw [Array.getElem?_modify, if_neg (Ne.symm hB)]
  have hat : (putRow (Value.int .i64) (Sort.ahead w n) sg.B sg.s (sortL zs).toArray).heap[sg.B]? = some (.cells (putCells (Value.int .i64) sg.s (sortL zs).toArray cc) t (0, 0)) := by
    show (w.heap.modify sg.B _)[sg.B]? = _
    rw [Array.getElem?_modify, if_pos rfl, k1]
    rfl
  have hpc : ∀ i, (putCells (Value.int .i64) sg.s (sortL zs).toArray cc)[i]? = (cc[i]?).map fun x => if sg.s ≤ i ∧ i < sg.s + (sortL zs).toArray.size then Value.int .i64 (sortL zs).toArray[i - sg.s]! else x := fun i => by
    unfold putCells
    rw [Array.getElem?_mapIdx]
  rw [List.length_map] at k2
  obtain ⟨r1, r2⟩ := hW.write (w' := putRow (Value.int .i64) (Sort.ahead w n) sg.B sg.s (sortL zs).toArray) (cs' := (sortL zs).map (Value.int .i64)) hgb hg (by show (w.heap.modify _ _).size = _; simp) rfl rfl rfl hmod k1 hat (by unfold putCells; simp)
    (fun i hi => by
      rw [hpc]
      have : ¬ (sg.s ≤ i ∧ i < sg.s + (sortL zs).toArray.size) := by rw [List.size_toArray, hsl]; omega
      simp only [this, if_false]
      cases cc[i]? <;> rfl)
    (by rw [List.length_map, hsl]; exact k2)
    (fun i v hv => by
      rw [List.getElem?_map] at hv
      have hi : i < (sortL zs).length := by
        rcases Nat.lt_or_ge i (sortL zs).length with h | h
        · exact h
        · rw [List.getElem?_eq_none h] at hv; cases hv
      rw [List.getElem?_eq_getElem hi] at hv
      injection hv with hv
      subst hv
      refine ⟨_, ?_, .int _ _⟩
      rw [hpc, hcell i (by omega)]
      have : sg.s ≤ sg.s + i ∧ sg.s + i < sg.s + (sortL zs).toArray.size := by rw [List.size_toArray]; omega
      simp only [this, and_self, if_true, Option.map_some, Nat.add_sub_cancel_left]
      rw [getElem!_pos (sortL zs).toArray i (by simpa using hi)]
      simp)
  obtain ⟨q1, q2⟩ := r1.growing os
  exact ⟨_, rfl, σ, .tuple' (.nil), q1, r2.trans q2⟩
end
end Go.Eng
namespace Go.Eng
open Go
section
variable [PlanTab]
section
variable {P : Program} {W : AW} {α : Type}
def intC (n : Int) : List Value := [.int .i64 n]
theorem intC_len (n : Int) : (intC n).length = 1 := rfl
theorem intC_one (n : Int) : (intC n).all one = true := rfl
theorem intC_at (n : Int) (pre post : List Value) : intAt .i64 (pre ++ (intC n ++ post)) pre.length n := by
  unfold intAt
  rw [List.getElem?_append_right (by omega)]; simp [intC]
theorem intC_map : ∀ l : List Int, l.flatMap intC = l.map (Value.int .i64)
  | [] => rfl
  | a :: l => by rw [List.flatMap_cons, List.map_cons, intC_map l]; rfl
theorem Lst.ints {lo : Nat} {v : Value} {l : List Int} (h : Lst lo W 1 intC v l) : Ints W v l := h.row intC_len intC_at
theorem Lst.sort {lo : Nat} {v : Value} {l : List Int} (h : Lst lo W 1 intC v l) (h0 : l ≠ []) (hl : l.length < 1099511627776) : ∃ W', SortArgs W [v] W' ∧ Lst lo W' 1 intC v (sortL l) ∧ W'.next = W.next ∧ ∀ A, Le A W → A.next ≤ lo → Le A W' := by
  rcases h with ⟨rfl, _⟩ | ⟨_, B, h1, h2, rfl, h4⟩
  · exact absurd rfl h0
  · refine ⟨_, ⟨B, _, l, h0, hl, rfl, by rw [h4, intC_map], rfl⟩, .inr ⟨?_, B, h1, by rw [AW.put_next]; exact h2, by rw [sortL_len], by rw [AW.get_put, intC_map]⟩, AW.put_next _ _ _, fun A hA hlo => hA.put (by omega) _⟩
    intro e
    have := sortL_len l
    rw [e] at this
    exact h0 (List.length_eq_zero_iff.1 this.symm)
theorem gc_row2 {W' : AW} {z : Nat} {at_ : List Value → Nat → α → Prop} {v : Value} {k : IntKind} {e : Int} {l : List α} (hle : Le W W') (h : Row W' z at_ v l) : ∃ W2, gc W (.tuple #[v, .int k e], W') = (.tuple #[v, .int k e], W2) ∧ Le W W2 ∧ Le W2 W' ∧ Row W2 z at_ v l := by
  obtain ⟨a, c, rfl, h⟩ := h
  cases a with
  | none =>
    refine ⟨W, gc_plain rfl hle, .refl _, hle, none, c, rfl, ?_⟩
    rcases h with h | ⟨b, o, cs, h, _⟩
    · exact .inl h
    · cases h
  | some a => exact ⟨W', gc_not rfl, hle, .refl _, some a, c, rfl, h⟩
theorem om_row2 {o t : Option (Value × AW)} {z : Nat} {at_ : List Value → Nat → α → Prop} {l : List α} {k : IntKind} {e : Int} (h : Ok t fun r => ∃ v, r.1 = .tuple #[v, .int k e] ∧ Le W r.2 ∧ Row r.2 z at_ v l) (hom : ∀ {r}, t = some r → o = some (gc W r)) :
    ∃ v W2, o = some (.tuple #[v, .int k e], W2) ∧ Le W W2 ∧ Row W2 z at_ v l := by
  obtain ⟨⟨u, W'⟩, h1, v, h2, h3, h4⟩ := h
  simp only at h2 h3 h4
  subst h2
  obtain ⟨W2, k1, k2, _, k3⟩ := gc_row2 (k := k) (e := e) h3 h4
  exact ⟨v, W2, by rw [hom h1, k1], k2, k3⟩
theorem Row.nil {z : Nat} {at_ : List Value → Nat → α → Prop} : Row W z at_ (.slice none 0 0) ([] : List α) := ⟨none, 0, rfl, .inl rfl⟩
theorem app_zero {ts : Array TypeId} {z bytes : Nat} (hk : appOk P ts z bytes = true) {a : Option Addr} {l c : Nat} (h : l ≤ c) (hb : l < 1099511627776) (hb2 : (2 * l + 192) * bytes ≤ 281474976710656) :
    aAppend P W ts (.slice a l c) (.slice none 0 0) = some (.slice a l c, W) := by
  obtain ⟨t, e, zv, k1, k2, k3, k4, k5, k6⟩ := appOk_inv hk
  unfold aAppend
  simp only [k1, k2, k3, k4, if_true, Nat.add_zero, if_pos (And.intro k5 (And.intro k6 (And.intro hb hb2))), if_pos h]
theorem app_lit {ts : Array TypeId} {z bytes : Nat} (hk : appOk P ts z bytes = true) {b o n c : Nat} {cs new : List Value} (hc : cellsAt W b = some cs) (hn : new = (cs.drop o).take (n * z)) (hl : new.length = n * z) (h0 : 0 < n) (h1 : new.all one = true)
    {B m : Nat} {old : List Value} (ho : cellsAt W B = some old) (hol : old.length = m * z) (hb : m + n < 1099511627776) (hb2 : (2 * (m + n) + 192) * bytes ≤ 281474976710656) (hm : 0 < m) :
    aAppend P W ts (.slice (some ⟨B, 0, none⟩) m m) (.slice (some ⟨b, o, none⟩) n c) = some (.slice (some ⟨W.next, 0, none⟩) (m + n) (BIG + z), W.add (.cells (old ++ new))) := by
  obtain ⟨t, e, zv, k1, k2, k3, k4, k5, k6⟩ := appOk_inv hk
  have hr : readN W b o (n * z) = some new := by rw [readN_def, hc]; simp only; rw [if_pos (by rw [← hn]; exact hl), hn]
  have hr1 : readSlice W (.slice (some ⟨b, o, none⟩) n c) (n * z) = some new := by
    unfold readSlice
    simp only
    rw [if_neg (by have := Nat.mul_pos h0 k5; omega), if_neg (by omega)]
    exact hr
  have hro : readN W B 0 (m * z) = some old := by
    rw [readN_def, ho]; simp only [List.drop_zero]
    rw [List.take_of_length_le (by omega), if_pos hol]
  have hr2 : readSlice W (.slice (some ⟨B, 0, none⟩) m m) (m * z) = some old := by
    unfold readSlice
    simp only
    rw [if_neg (by have := Nat.mul_pos hm k5; omega), if_neg (by omega)]
    exact hro
  have hB : m < BIG := by unfold BIG; omega
  have hB2 : ¬ m = BIG + z := by unfold BIG; omega
  unfold aAppend
  simp only [k1, k2, k3, k4, if_true, if_pos (And.intro k5 (And.intro k6 (And.intro hb hb2))), if_neg (show ¬ n = 0 by omega), hr1, hr2, h1, if_neg hB2, if_pos hB, if_neg (show ¬ m + n ≤ m by omega), AW.new_eq]
theorem ints_new (l : List Int) (c : Nat) (W : AW) : Ints (W.add (.cells (l.map (Value.int .i64)))) (.slice (some ⟨W.next, 0, none⟩) l.length c) l :=
  ⟨_, _, rfl, .inr ⟨W.next, 0, _, rfl, by rw [AW.add_next]; omega, cellsAt_new, fun i hi => by
    unfold intAt
    rw [Nat.zero_add, Nat.mul_one, List.getElem?_map, List.getElem?_eq_getElem hi]; rfl⟩⟩
end
end
section
variable [PlanTab]
def lkV : List (Int × Value × Nat) → Int → Option Value
  | [], _ => none
  | p :: l, k => if k = p.1 then some p.2.1 else lkV l k
def fndV : List (Int × Value × Nat) → Int → Nat → Option (Nat × Value)
  | [], _, _ => none
  | p :: l, k, i => if k = p.1 then some (i, p.2.1) else fndV l k (i + 1)
theorem lkV_fnd (l : List (Int × Value × Nat)) (k : Int) : ∀ i, lkV l k = (fndV l k i).map (·.2) := by
  induction l with
  | nil => intro i; rfl
  | cons p l ih =>
    intro i
    unfold lkV fndV
    by_cases h : k = p.1
    · rw [if_pos h, if_pos h]; rfl
    · rw [if_neg h, if_neg h]; exact ih (i + 1)
def keysV (l : List (Int × Value × Nat)) : List Int := l.map (·.1)
theorem lkV_none {l : List (Int × Value × Nat)} {k : Int} (h : k ∉ keysV l) : lkV l k = none := by
  induction l with
  | nil => rfl
  | cons p l ih =>
    unfold keysV at h
    rw [List.map_cons, List.mem_cons, not_or] at h
    unfold lkV
    rw [if_neg h.1]
    exact ih h.2
theorem fndV_some {k : Int} {v : Value} : ∀ {l : List (Int × Value × Nat)} {i j : Nat}, (keysV l).Nodup → fndV l k i = some (j, v) → i ≤ j ∧ (∃ b, l[j - i]? = some (k, v, b) ∧ ∀ v' k', lkV (l.set (j - i) (k, v', b)) k' = if k' = k then some v' else lkV l k') ∧
    (∀ k', lkV (l.eraseIdx (j - i)) k' = if k' = k then none else lkV l k') ∧ (keysV (l.eraseIdx (j - i))).Nodup ∧ (l.eraseIdx (j - i)).length + 1 = l.length ∧ ∀ v' b, keysV (l.set (j - i) (k, v', b)) = keysV l
  | [], i, j, _, h => by cases h
  | p :: l, i, j, hn, h => by
    unfold fndV at h
    have hn0 : p.1 ∉ keysV l ∧ (keysV l).Nodup := List.nodup_cons.1 hn
    by_cases hk : k = p.1
    · rw [if_pos hk] at h
      injection h with h
      injection h with h1 h2
      subst h1
      rw [Nat.sub_self]
      refine ⟨Nat.le_refl _, ⟨p.2.2, by rw [hk, ← h2]; rfl, fun v' k' => ?_⟩, fun k' => ?_, hn0.2, rfl, fun v' b => by rw [List.set_cons_zero]; simp [keysV, hk]⟩
      · rw [List.set_cons_zero]
        unfold lkV
        rw [← hk]
        by_cases hk' : k' = k
        · rw [if_pos hk', if_pos hk']
        · rw [if_neg hk', if_neg hk', if_neg hk']
      · show lkV l k' = _
        by_cases hk' : k' = k
        · rw [if_pos hk', hk', hk]; exact lkV_none hn0.1
        · rw [if_neg hk']
          conv => rhs; unfold lkV
          rw [if_neg (fun e => hk' (e.trans hk.symm))]
    · rw [if_neg hk] at h
      obtain ⟨h1, ⟨b, h2, h3⟩, h4, h5, h6, h7⟩ := fndV_some hn0.2 h
      have e : j - i = (j - (i + 1)) + 1 := by omega
      rw [e]
      refine ⟨by omega, ⟨b, by rw [List.getElem?_cons_succ]; exact h2, fun v' k' => ?_⟩, fun k' => ?_, ?_, ?_, fun v' b => ?_⟩
      · rw [List.set_cons_succ]
        unfold lkV
        by_cases hp : k' = p.1
        · have : ¬ k' = k := fun x => hk (x.symm.trans hp)
          rw [if_pos hp, if_neg this, if_pos hp]
        · rw [if_neg hp, h3, if_neg hp]
      · rw [List.eraseIdx_cons_succ]
        unfold lkV
        by_cases hp : k' = p.1
        · have : ¬ k' = k := fun x => hk (x.symm.trans hp)
          rw [if_pos hp, if_neg this, if_pos hp]
        · rw [if_neg hp, h4, if_neg hp]
      · rw [List.eraseIdx_cons_succ]
        refine List.nodup_cons.2 ⟨fun hm => hn0.1 ?_, h5⟩
        unfold keysV at hm ⊢
        obtain ⟨x, hx, hxe⟩ := List.mem_map.1 hm
        exact List.mem_map.2 ⟨x, List.mem_of_mem_eraseIdx hx, hxe⟩
      · rw [List.eraseIdx_cons_succ, List.length_cons, List.length_cons, h6]
      · rw [List.set_cons_succ]
        show p.1 :: keysV _ = p.1 :: keysV l
        rw [h7]
theorem fndV_none {k : Int} : ∀ {l : List (Int × Value × Nat)} {i : Nat}, fndV l k i = none → k ∉ keysV l ∧ ∀ v b k', lkV (l ++ [(k, v, b)]) k' = if k' = k then some v else lkV l k'
  | [], i, _ => ⟨by simp [keysV], fun v b k' => by simp [lkV]⟩
  | p :: l, i, h => by
    unfold fndV at h
    by_cases hk : k = p.1
    · rw [if_pos hk] at h; cases h
    · rw [if_neg hk] at h
      obtain ⟨h1, h2⟩ := fndV_none h
      refine ⟨?_, fun v b k' => ?_⟩
      · unfold keysV
        rw [List.map_cons, List.mem_cons, not_or]
        exact ⟨hk, h1⟩
      · rw [List.cons_append]
        unfold lkV
        by_cases hp : k' = p.1
        · have : ¬ k' = k := fun x => hk (x.symm.trans hp)
          rw [if_pos hp, if_neg this, if_pos hp]
        · rw [if_neg hp, h2, if_neg hp]
section
variable {P : Program} {W : AW} {r : Nat} {m : Int → Option Value} {n : Nat} {t kt e : TypeId}
end
end
end Go.Eng
namespace Go.Proofs.YthjakbhkmpdblaaGreatDoor
open Go Go.Eng
def useL : List Int := [0, 1, 7, 27, 7, 7, 99, 67, 7, 64, 11, 11, 128]
def usesV : List Value := useL.map (Value.int .i64)
def tab : T (List (Nat × List Nat)) := (.nd (.nd (.nd (.nd (.nd (.nd (.nd .lf none (.nd .lf none (.nd (.nd (.nd (.nd (.nd (.nd (.nd (.nd (.nd .lf none (.nd (.nd (.nd (.nd .lf (some [(0, []), (1, []), (2, []), (3, []), (4, []), (6, []), (7, []), (8, []), (9, []), (10, []), (11, []), (12, []), (5, [10, 9]), (13, []), (14, []), (15, [])]) .lf) none .lf) none .lf) none .lf)) none .lf) none .lf) none .lf) none .lf) none .lf) none .lf) none .lf) none .lf))) none .lf) none (.nd .lf none (.nd .lf none (.nd (.nd .lf none (.nd .lf none (.nd (.nd (.nd (.nd .lf none (.nd (.nd (.nd .lf none (.nd (.nd (.nd .lf none (.nd (.nd .lf none (.nd (.nd .lf (some [(0, []), (1, []), (2, []), (3, []), (4, []), (5, []), (6, []), (7, []), (8, []), (9, []), (10, []), (11, []), (12, []), (13, []), (14, []), (15, [1]), (16, []), (17, [])]) .lf) none .lf)) none .lf)) none .lf) none .lf)) none .lf) none .lf)) none .lf) none .lf) none .lf))) none .lf)))) none .lf) none (.nd (.nd (.nd (.nd .lf none (.nd (.nd (.nd (.nd (.nd (.nd .lf none (.nd (.nd .lf none (.nd (.nd (.nd (.nd (.nd (.nd .lf none (.nd (.nd .lf (some [(0, []), (1, []), (2, [1]), (3, []), (4, [])]) .lf) none .lf)) none .lf) none .lf) none .lf) none .lf) none .lf)) none .lf)) none .lf) none .lf) none .lf) none .lf) none .lf)) none .lf) none (.nd .lf none (.nd (.nd (.nd (.nd (.nd (.nd (.nd .lf none (.nd (.nd .lf none (.nd (.nd (.nd (.nd (.nd (.nd .lf none (.nd .lf (some [(0, []), (1, []), (2, [1]), (3, []), (4, [])]) .lf)) none .lf) none .lf) none .lf) none .lf) none .lf)) none .lf)) none .lf) none .lf) none .lf) none .lf) none .lf) none .lf))) none (.nd (.nd (.nd .lf none (.nd (.nd (.nd (.nd (.nd (.nd (.nd .lf none (.nd (.nd .lf none (.nd (.nd (.nd (.nd .lf (some [(0, []), (1, []), (3, []), (4, []), (6, []), (2, [4]), (5, []), (7, []), (8, []), (9, [])]) .lf) none .lf) none .lf) none .lf)) none .lf)) none .lf) none .lf) none .lf) none .lf) none .lf) none .lf)) none (.nd (.nd (.nd (.nd (.nd (.nd (.nd .lf none (.nd .lf none (.nd .lf none (.nd (.nd (.nd (.nd (.nd .lf none (.nd .lf (some [(0, []), (1, []), (2, []), (3, [1]), (4, []), (5, []), (6, [])]) .lf)) none .lf) none .lf) none .lf) none .lf)))) none .lf) none .lf) none .lf) none .lf) none .lf) none .lf)) none .lf))) none (.nd (.nd (.nd (.nd .lf none (.nd .lf none (.nd (.nd (.nd (.nd (.nd (.nd .lf none (.nd .lf none (.nd .lf none (.nd (.nd (.nd (.nd (.nd .lf none (.nd .lf none (.nd (.nd .lf (some [(0, []), (1, []), (2, []), (3, [1]), (4, []), (5, []), (6, [])]) .lf) none .lf))) none .lf) none .lf) none .lf) none .lf)))) none .lf) none .lf) none .lf) none .lf) none .lf))) none (.nd .lf none (.nd .lf none (.nd (.nd (.nd (.nd .lf none (.nd (.nd .lf none (.nd (.nd (.nd .lf none (.nd (.nd (.nd (.nd (.nd .lf none (.nd .lf none (.nd (.nd .lf (some [(0, []), (1, []), (2, []), (3, []), (4, []), (5, [4]), (6, []), (7, []), (8, [])]) .lf) none .lf))) none .lf) none .lf) none .lf) none .lf)) none .lf) none .lf)) none .lf)) none .lf) none .lf) none .lf)))) none (.nd (.nd (.nd .lf none (.nd .lf none (.nd (.nd .lf none (.nd (.nd (.nd (.nd .lf none (.nd .lf none (.nd .lf none (.nd .lf none (.nd (.nd (.nd (.nd .lf none (.nd .lf none (.nd .lf (some [(0, []), (1, []), (2, []), (3, []), (4, []), (5, []), (6, []), (7, []), (8, []), (9, []), (10, []), (11, []), (12, []), (13, []), (14, []), (15, []), (16, []), (17, []), (18, []), (19, []), (20, []), (21, []), (22, []), (23, []), (24, [4]), (25, []), (26, []), (27, []), (28, []), (29, [])]) .lf))) none .lf) none .lf) none .lf))))) none .lf) none .lf) none .lf)) none .lf))) none .lf) none (.nd (.nd .lf none (.nd (.nd .lf none (.nd (.nd (.nd (.nd .lf none (.nd .lf none (.nd .lf none (.nd .lf none (.nd .lf none (.nd (.nd (.nd .lf none (.nd .lf (some [(0, []), (1, []), (2, []), (3, []), (4, []), (5, []), (6, []), (7, []), (8, []), (9, []), (10, []), (11, []), (12, []), (13, []), (14, []), (15, []), (16, []), (17, []), (18, []), (19, []), (20, []), (21, []), (22, []), (23, []), (24, [16, 13, 10, 4]), (25, [4]), (26, []), (27, []), (28, []), (29, []), (30, [])]) .lf)) none .lf) none .lf)))))) none .lf) none .lf) none .lf)) none .lf)) none (.nd .lf none (.nd (.nd .lf none (.nd (.nd (.nd (.nd (.nd .lf none (.nd .lf none (.nd .lf none (.nd (.nd (.nd (.nd (.nd (.nd .lf (some [(0, []), (1, []), (2, []), (3, []), (4, []), (5, []), (6, []), (7, []), (8, [0]), (9, []), (10, []), (11, []), (12, []), (13, [])]) .lf) none .lf) none .lf) none .lf) none .lf) none .lf)))) none .lf) none .lf) none .lf) none .lf)) none .lf))))) none (.nd (.nd (.nd (.nd .lf none (.nd .lf none (.nd (.nd (.nd (.nd (.nd .lf none (.nd .lf none (.nd (.nd .lf none (.nd (.nd (.nd (.nd (.nd (.nd .lf (some [(0, []), (1, []), (2, []), (3, []), (4, []), (6, []), (7, []), (5, [7, 6]), (8, []), (9, []), (10, [])]) .lf) none .lf) none .lf) none .lf) none .lf) none .lf)) none .lf))) none .lf) none .lf) none .lf) none .lf))) none (.nd .lf none (.nd (.nd (.nd (.nd (.nd (.nd (.nd .lf none (.nd .lf none (.nd (.nd .lf none (.nd (.nd (.nd .lf (some [(0, []), (1, []), (2, []), (3, []), (4, []), (5, []), (7, []), (8, []), (9, []), (10, []), (6, [10]), (11, []), (12, []), (13, []), (14, []), (15, []), (16, []), (17, [13, 12]), (18, []), (19, []), (20, []), (21, [])]) .lf) none .lf) none .lf)) none (.nd (.nd (.nd (.nd .lf (some [(0, []), (1, []), (2, []), (3, []), (5, []), (6, []), (7, []), (8, []), (4, [8, 6]), (9, []), (10, []), (11, []), (12, []), (13, [])]) .lf) none .lf) none .lf) none .lf)))) none .lf) none .lf) none .lf) none .lf) none .lf) none .lf))) none (.nd .lf none (.nd (.nd (.nd (.nd (.nd (.nd (.nd .lf none (.nd (.nd .lf none (.nd (.nd (.nd (.nd (.nd (.nd (.nd .lf none (.nd .lf (some [(0, []), (1, []), (2, [1]), (3, []), (4, [])]) .lf)) none .lf) none .lf) none .lf) none .lf) none .lf) none .lf)) none .lf)) none .lf) none .lf) none .lf) none .lf) none .lf) none .lf))) none (.nd (.nd (.nd .lf none (.nd .lf none (.nd (.nd (.nd (.nd (.nd (.nd .lf none (.nd (.nd .lf none (.nd (.nd (.nd (.nd (.nd (.nd .lf (some [(0, []), (1, []), (2, []), (4, []), (5, []), (8, []), (3, []), (6, []), (7, []), (9, [])]) .lf) none .lf) none .lf) none .lf) none .lf) none .lf)) none .lf)) none .lf) none .lf) none .lf) none .lf) none .lf))) none (.nd (.nd .lf none (.nd .lf none (.nd .lf none (.nd (.nd (.nd .lf none (.nd .lf none (.nd .lf none (.nd (.nd (.nd (.nd (.nd (.nd .lf none (.nd .lf none (.nd (.nd .lf (some [(0, []), (1, []), (3, []), (4, []), (2, [0]), (5, [0]), (6, [])]) .lf) none .lf))) none .lf) none .lf) none .lf) none .lf) none .lf)))) none .lf) none .lf)))) none (.nd (.nd .lf none (.nd (.nd (.nd (.nd (.nd .lf none (.nd .lf none (.nd (.nd (.nd (.nd (.nd (.nd .lf none (.nd .lf (some [(0, []), (1, []), (3, []), (2, [3]), (4, []), (5, [])]) .lf)) none .lf) none .lf) none .lf) none .lf) none .lf))) none .lf) none .lf) none .lf) none .lf)) none .lf))) none .lf)))) none (.nd (.nd (.nd (.nd (.nd .lf none (.nd (.nd .lf none (.nd .lf none (.nd (.nd (.nd (.nd .lf none (.nd (.nd .lf none (.nd .lf none (.nd (.nd (.nd (.nd (.nd (.nd (.nd .lf (some [(0, []), (1, []), (2, []), (3, []), (4, []), (5, []), (10, []), (6, []), (7, []), (8, []), (9, []), (11, []), (12, [])]) .lf) none .lf) none .lf) none .lf) none .lf) none .lf) none .lf))) none .lf)) none .lf) none .lf) none .lf))) none .lf)) none .lf) none (.nd (.nd (.nd (.nd (.nd .lf none (.nd (.nd (.nd (.nd .lf none (.nd (.nd (.nd (.nd .lf none (.nd (.nd (.nd .lf none (.nd (.nd .lf (some [(0, []), (1, []), (2, []), (4, []), (5, []), (6, []), (7, []), (9, []), (10, []), (13, []), (14, []), (3, []), (8, []), (11, []), (12, []), (15, []), (16, [])]) .lf) none .lf)) none .lf) none .lf)) none .lf) none .lf) none .lf)) none .lf) none .lf) none .lf)) none .lf) none (.nd (.nd (.nd (.nd (.nd (.nd .lf none (.nd (.nd .lf none (.nd .lf none (.nd (.nd (.nd (.nd .lf (some [(0, []), (1, []), (3, []), (4, []), (7, []), (8, []), (9, []), (2, [9, 4]), (5, [9]), (6, []), (10, []), (11, []), (12, [])]) .lf) none .lf) none .lf) none .lf))) none .lf)) none .lf) none .lf) none .lf) none .lf) none .lf)) none (.nd (.nd (.nd .lf none (.nd (.nd (.nd (.nd (.nd (.nd (.nd (.nd .lf none (.nd (.nd (.nd (.nd (.nd .lf none (.nd .lf (some [(0, []), (1, []), (2, []), (3, []), (4, []), (5, []), (6, []), (7, []), (8, []), (9, [7, 5, 3]), (10, []), (11, [7, 5]), (12, []), (13, [7]), (14, []), (15, [])]) .lf)) none .lf) none .lf) none .lf) none .lf)) none .lf) none .lf) none .lf) none .lf) none .lf) none .lf) none .lf)) none .lf) none .lf)) none (.nd (.nd (.nd (.nd (.nd (.nd (.nd (.nd (.nd (.nd .lf none (.nd (.nd (.nd (.nd (.nd (.nd .lf none (.nd .lf (some [(0, []), (1, []), (2, [1]), (3, [])]) .lf)) none .lf) none .lf) none .lf) none .lf) none .lf)) none .lf) none .lf) none .lf) none .lf) none .lf) none .lf) none (.nd .lf none (.nd (.nd (.nd (.nd (.nd (.nd (.nd (.nd .lf none (.nd (.nd (.nd (.nd .lf none (.nd .lf none (.nd .lf (some [(0, []), (1, []), (2, []), (3, []), (4, []), (5, []), (6, []), (7, []), (8, []), (9, [7, 5, 3]), (10, []), (11, [7, 5]), (12, []), (13, [7]), (14, []), (15, [])]) .lf))) none .lf) none .lf) none .lf)) none .lf) none .lf) none .lf) none .lf) none .lf) none .lf) none .lf))) none (.nd .lf none (.nd (.nd (.nd (.nd (.nd (.nd (.nd (.nd .lf none (.nd (.nd (.nd (.nd (.nd (.nd .lf (some [(0, []), (1, []), (2, []), (4, []), (5, []), (3, []), (6, []), (7, [])]) .lf) none .lf) none .lf) none .lf) none .lf) none .lf)) none .lf) none .lf) none .lf) none .lf) none .lf) none .lf) none .lf))) none .lf))) none (.nd (.nd (.nd (.nd (.nd .lf none (.nd (.nd (.nd (.nd (.nd (.nd (.nd (.nd .lf none (.nd (.nd (.nd (.nd (.nd .lf (some [(0, []), (1, [0]), (2, []), (3, [0]), (4, []), (5, []), (6, []), (7, [])]) .lf) none .lf) none .lf) none .lf) none .lf)) none .lf) none .lf) none .lf) none .lf) none .lf) none .lf) none .lf)) none .lf) none (.nd (.nd .lf none (.nd (.nd .lf none (.nd (.nd (.nd .lf none (.nd (.nd (.nd .lf none (.nd .lf none (.nd (.nd (.nd (.nd (.nd (.nd (.nd .lf (some [(0, []), (1, []), (2, []), (3, []), (4, []), (5, []), (6, []), (7, []), (8, []), (9, []), (10, []), (11, []), (12, []), (13, []), (14, []), (15, []), (16, []), (17, []), (18, []), (19, [4, 0]), (20, []), (21, []), (22, []), (23, []), (24, [])]) .lf) none .lf) none .lf) none .lf) none .lf) none .lf) none .lf))) none .lf) none .lf)) none .lf) none .lf)) none .lf)) none .lf)) none .lf) none (.nd .lf none (.nd (.nd .lf none (.nd (.nd .lf none (.nd (.nd (.nd (.nd (.nd (.nd (.nd .lf none (.nd (.nd (.nd (.nd (.nd (.nd (.nd .lf (some [(1, []), (2, []), (4, []), (6, []), (0, [2]), (3, []), (5, []), (7, [])]) .lf) none .lf) none .lf) none .lf) none .lf) none .lf) none .lf)) none .lf) none .lf) none .lf) none .lf) none .lf) none .lf)) none (.nd (.nd .lf none (.nd (.nd (.nd .lf none (.nd (.nd (.nd .lf none (.nd (.nd (.nd (.nd .lf none (.nd (.nd (.nd (.nd .lf (some [(0, []), (2, []), (3, []), (4, []), (5, []), (7, []), (1, [5, 3]), (6, []), (8, [])]) .lf) none .lf) none .lf) none .lf)) none .lf) none .lf) none .lf)) none .lf) none .lf)) none .lf) none .lf)) none .lf))) none (.nd .lf none (.nd (.nd (.nd (.nd (.nd (.nd (.nd (.nd (.nd .lf none (.nd (.nd (.nd (.nd .lf (some [(0, []), (1, []), (3, []), (2, [3]), (4, []), (5, []), (6, []), (7, [])]) .lf) none .lf) none .lf) none .lf)) none .lf) none .lf) none .lf) none .lf) none .lf) none .lf) none .lf) none .lf)))))) none (.nd (.nd (.nd (.nd (.nd (.nd .lf none (.nd (.nd .lf none (.nd (.nd (.nd (.nd (.nd .lf none (.nd .lf none (.nd (.nd (.nd (.nd .lf none (.nd (.nd .lf none (.nd (.nd .lf (some [(0, []), (1, []), (2, []), (3, []), (4, []), (5, []), (6, []), (7, [5, 3]), (8, []), (9, [5]), (10, []), (11, [])]) .lf) none .lf)) none .lf)) none .lf) none .lf) none .lf))) none .lf) none .lf) none .lf) none .lf)) none .lf)) none (.nd .lf none (.nd (.nd (.nd (.nd (.nd (.nd (.nd .lf none (.nd .lf none (.nd (.nd (.nd (.nd (.nd .lf none (.nd (.nd .lf (some [(0, []), (1, []), (2, []), (3, []), (4, []), (5, []), (6, []), (7, [5, 3]), (8, []), (9, [5]), (10, []), (11, [])]) .lf) none .lf)) none .lf) none .lf) none .lf) none .lf))) none .lf) none .lf) none .lf) none .lf) none .lf) none .lf))) none .lf) none (.nd (.nd .lf none (.nd (.nd (.nd .lf none (.nd (.nd (.nd (.nd .lf none (.nd .lf none (.nd .lf none (.nd (.nd (.nd (.nd .lf none (.nd (.nd (.nd .lf (some [(0, []), (1, []), (2, []), (3, []), (4, []), (5, []), (6, []), (11, []), (7, []), (8, []), (9, []), (10, []), (12, []), (13, [])]) .lf) none .lf) none .lf)) none .lf) none .lf) none .lf)))) none .lf) none .lf) none .lf)) none .lf) none (.nd (.nd (.nd (.nd (.nd .lf none (.nd (.nd .lf none (.nd .lf none (.nd (.nd (.nd (.nd (.nd (.nd .lf (some [(0, []), (1, []), (2, []), (3, []), (4, []), (5, []), (10, []), (6, []), (7, []), (8, []), (9, []), (11, []), (12, [])]) .lf) none .lf) none .lf) none .lf) none .lf) none .lf))) none .lf)) none .lf) none .lf) none .lf) none .lf))) none .lf)) none (.nd (.nd (.nd (.nd .lf none (.nd .lf none (.nd (.nd (.nd (.nd .lf none (.nd (.nd .lf none (.nd .lf none (.nd (.nd (.nd (.nd (.nd .lf none (.nd (.nd .lf (some [(0, []), (1, []), (2, []), (3, []), (4, []), (5, []), (6, []), (7, []), (8, []), (9, [1]), (10, []), (11, []), (12, [])]) .lf) none .lf)) none .lf) none .lf) none .lf) none .lf))) none .lf)) none .lf) none .lf) none .lf))) none (.nd (.nd (.nd (.nd (.nd (.nd (.nd (.nd .lf none (.nd .lf (some [(0, []), (1, []), (2, []), (3, []), (4, []), (5, []), (7, []), (8, []), (9, []), (6, []), (10, []), (11, [])]) .lf)) none .lf) none .lf) none .lf) none .lf) none .lf) none .lf) none (.nd (.nd (.nd (.nd (.nd .lf none (.nd (.nd .lf none (.nd (.nd .lf none (.nd (.nd (.nd (.nd (.nd .lf (some [(0, []), (1, []), (2, []), (3, []), (4, []), (5, []), (6, []), (7, []), (8, []), (9, []), (10, []), (11, []), (12, []), (13, []), (14, []), (15, []), (16, []), (17, [7]), (18, []), (19, []), (20, [])]) .lf) none .lf) none .lf) none .lf) none .lf)) none .lf)) none .lf)) none .lf) none .lf) none .lf) none .lf))) none .lf) none (.nd .lf none (.nd .lf none (.nd (.nd (.nd (.nd (.nd (.nd .lf none (.nd .lf none (.nd .lf none (.nd (.nd (.nd (.nd (.nd (.nd (.nd (.nd (.nd .lf (some [(0, []), (1, []), (2, []), (3, [1]), (4, []), (5, []), (6, [])]) .lf) none .lf) none .lf) none .lf) none .lf) none .lf) none .lf) none .lf) none .lf)))) none .lf) none .lf) none .lf) none .lf) none (.nd .lf none (.nd (.nd (.nd (.nd (.nd (.nd .lf none (.nd .lf none (.nd (.nd (.nd (.nd (.nd (.nd (.nd (.nd .lf (some [(0, []), (1, []), (2, []), (3, []), (4, []), (5, []), (6, []), (7, [5, 3]), (8, []), (9, [5]), (10, []), (11, [])]) .lf) none .lf) none .lf) none .lf) none .lf) none .lf) none .lf) none .lf))) none .lf) none .lf) none .lf) none .lf) none .lf))))))) none (.nd (.nd (.nd (.nd .lf none (.nd (.nd .lf none (.nd (.nd (.nd (.nd .lf none (.nd .lf none (.nd .lf none (.nd (.nd (.nd (.nd (.nd .lf none (.nd .lf none (.nd .lf (some [(0, []), (2, []), (3, []), (1, [2]), (4, []), (5, []), (6, [])]) .lf))) none .lf) none .lf) none .lf) none .lf)))) none .lf) none .lf) none .lf)) none (.nd .lf none (.nd (.nd (.nd (.nd (.nd (.nd (.nd .lf none (.nd (.nd (.nd (.nd .lf none (.nd .lf none (.nd (.nd .lf (some [(0, []), (1, []), (2, []), (3, []), (4, []), (5, [4]), (6, []), (7, [])]) .lf) none .lf))) none .lf) none .lf) none .lf)) none .lf) none .lf) none .lf) none .lf) none .lf) none .lf)))) none (.nd (.nd .lf none (.nd .lf none (.nd (.nd (.nd (.nd .lf none (.nd (.nd .lf none (.nd (.nd .lf none (.nd (.nd (.nd .lf none (.nd (.nd .lf (some [(0, []), (1, []), (2, []), (3, []), (4, []), (5, []), (6, []), (7, []), (8, []), (9, []), (10, []), (11, []), (12, []), (13, []), (14, []), (15, []), (16, []), (17, []), (18, [4]), (19, []), (20, [])]) .lf) none .lf)) none .lf) none .lf)) none .lf)) none .lf)) none .lf) none .lf) none .lf))) none .lf)) none (.nd (.nd (.nd .lf none (.nd (.nd (.nd (.nd (.nd (.nd .lf none (.nd .lf none (.nd (.nd (.nd (.nd (.nd (.nd (.nd .lf none (.nd (.nd .lf (some [(0, []), (1, []), (2, [1]), (3, []), (4, []), (5, [])]) .lf) none .lf)) none .lf) none .lf) none .lf) none .lf) none .lf) none .lf))) none .lf) none .lf) none .lf) none .lf) none .lf)) none .lf) none (.nd .lf none (.nd (.nd (.nd (.nd (.nd (.nd (.nd (.nd (.nd .lf none (.nd (.nd (.nd (.nd .lf (some [(0, []), (1, []), (3, []), (2, [3]), (4, []), (5, []), (6, []), (7, [])]) .lf) none .lf) none .lf) none .lf)) none .lf) none .lf) none .lf) none .lf) none .lf) none .lf) none .lf) none .lf)))) none (.nd .lf none (.nd (.nd .lf none (.nd (.nd (.nd (.nd (.nd (.nd .lf none (.nd (.nd .lf none (.nd .lf none (.nd (.nd (.nd (.nd .lf (some [(0, []), (1, []), (2, []), (3, []), (5, []), (6, []), (7, []), (8, []), (4, [8, 6]), (9, []), (10, []), (11, []), (12, [])]) .lf) none .lf) none .lf) none .lf))) none .lf)) none .lf) none .lf) none .lf) none .lf) none .lf)) none (.nd .lf none (.nd (.nd (.nd (.nd (.nd (.nd (.nd (.nd .lf none (.nd (.nd .lf none (.nd (.nd (.nd .lf none (.nd .lf (some [(0, []), (1, []), (2, []), (3, []), (4, []), (5, []), (6, []), (7, []), (8, []), (9, []), (10, []), (11, []), (13, []), (14, []), (15, []), (16, []), (12, [16, 7, 3]), (17, [7, 3]), (18, []), (19, [])]) .lf)) none .lf) none .lf)) none .lf)) none .lf) none .lf) none .lf) none .lf) none .lf) none .lf) none .lf))))))))
def globW : List (Nat × List Value) := [(0, usesV)]
end Go.Proofs.YthjakbhkmpdblaaGreatDoor
namespace Go.Eng
open Go
section
variable [PlanTab]
section
variable {P : Program} {W : AW}
theorem slice_open {t : TypeId} {z : Nat} (hz : sliceZ P t = some z) (h0 : 0 < z) {b o l h : Nat} {k : IntKind} (h1 : h ≤ l) :
    oSlice P t (.slice (some ⟨b, o, none⟩) l (BIG + z)) none (some (.int k (h : Int))) none W = some (.slice (some ⟨b, o, none⟩) h (BIG + z), W) := by
  obtain ⟨e, he, hz⟩ := sliceZ_inv hz
  have h2 : ((⟨b, o, none⟩ : Addr).add (0 * z)) = ⟨b, o, none⟩ := by rw [addr_add]; simp
  unfold oSlice aSlice
  simp only [he, hz, boundOf, natOf, Nat.zero_le, if_true, true_and, if_pos h0, if_pos h1, Nat.sub_zero, h2]
end
end
section
variable [PlanTab]
theorem ca_add (W : AW) (cs : List Value) (b : Nat) : cellsAt (W.add (.cells cs)) b = if b = W.next then some cs else cellsAt W b := by
  by_cases h : b = W.next
  · subst h; rw [if_pos rfl]; exact cellsAt_new
  · rw [if_neg h]; unfold cellsAt; rw [W.get_add_ne _ (fun e => h e.symm)]
theorem ca_put (W : AW) (c : Nat) (cs : List Value) (b : Nat) : cellsAt (W.put c (.cells cs)) b = if b = c then some cs else cellsAt W b := by
  by_cases h : b = c
  · subst h; rw [if_pos rfl]; exact cellsAt_put _
  · rw [if_neg h]; exact cellsAt_put_ne _ (fun e => h e.symm)
theorem rc_add (W : AW) (cs : List Value) (b : Nat) : rwCells (W.add (.cells cs)) b = if b = W.next then some cs else rwCells W b := by
  by_cases h : b = W.next
  · subst h; rw [if_pos rfl]; exact rwCells_new
  · rw [if_neg h]; unfold rwCells; rw [W.get_add_ne _ (fun e => h e.symm)]
theorem rc_put (W : AW) (c : Nat) (cs : List Value) (b : Nat) : rwCells (W.put c (.cells cs)) b = if b = c then some cs else rwCells W b := by
  by_cases h : b = c
  · subst h; rw [if_pos rfl]; exact rwCells_put _
  · rw [if_neg h]; exact rwCells_put_ne _ (fun e => h e.symm)
theorem le_refl_s (W : AW) : Le W W = True := eq_true (Le.refl W)
theorem le_add_s {W W' : AW} (h : Le W W') (o : AObj) : Le W (W'.add o) = True := eq_true (h.add o)
theorem le_put_s {W W' : AW} (h : Le W W') {b : Nat} (hb : W.next ≤ b) (o : AObj) : Le W (W'.put b o) = True := eq_true (h.put hb o)
theorem one_ptr (a : Option Addr) : one (.pointer a) = true := Eq.trans rfl rfl
theorem stV_ptr {W : AW} {b o : Nat} {x : Option Addr} : stV 1 (.pointer (some ⟨b, o, none⟩)) (.pointer x) W = (rwCells W b).bind fun cs => if o < cs.length then some (undef, W.put b (.cells (cs.set o (.pointer x)))) else none := stV_one rfl rfl
theorem setN_zero (cs vs : List Value) : setN cs 0 vs = vs ++ cs.drop vs.length := by unfold setN; rw [List.take_zero, List.nil_append, Nat.zero_add]
theorem wnt_u (b : Bool) : wnt undef b = false := Eq.trans (by unfold wnt undef; rfl) rfl
theorem HX : type_of% (And.intro @ca_add (And.intro @ca_put (And.intro @rc_add (And.intro @rc_put (And.intro @le_refl_s (And.intro @le_add_s (And.intro @le_put_s (And.intro @one_ptr (And.intro @stV_ptr (And.intro @AW.add_next (And.intro @AW.put_next (And.intro @Nat.add_assoc (And.intro @Nat.le_add_right (And.intro @Nat.le_refl (And.intro @Nat.add_eq_left (And.intro @Nat.left_eq_add (And.intro @setN_zero (And.intro @oBox_agg (And.intro @if_false.{1} (And.intro @Nat.one_ne_zero (And.intro @Bool.false_and (And.intro @List.take_nil.{0} (And.intro @true_and (And.intro @and_true (And.intro @wnt_u @Ok_some))))))))))))))))))))))))) := And.intro @ca_add (And.intro @ca_put (And.intro @rc_add (And.intro @rc_put (And.intro @le_refl_s (And.intro @le_add_s (And.intro @le_put_s (And.intro @one_ptr (And.intro @stV_ptr (And.intro @AW.add_next (And.intro @AW.put_next (And.intro @Nat.add_assoc (And.intro @Nat.le_add_right (And.intro @Nat.le_refl (And.intro @Nat.add_eq_left (And.intro @Nat.left_eq_add (And.intro @setN_zero (And.intro @oBox_agg (And.intro @if_false.{1} (And.intro @Nat.one_ne_zero (And.intro @Bool.false_and (And.intro @List.take_nil.{0} (And.intro @true_and (And.intro @and_true (And.intro @wnt_u @Ok_some))))))))))))))))))))))))
end
section
variable [PlanTab]
section
variable {P : Program} {W : AW} {r : Nat} {m : Int → Option Value} {n : Nat} {t kt e : TypeId}
def entU (l : List (Int × Value × Nat)) : List MapEntry := l.map fun p => { key := .int .u32 p.1, val := p.2.1, born := p.2.2 }
theorem findNow_entU (l : List (Int × Value × Nat)) (k : Int) : ∀ i, Instr.findNow (.int .u32) (.int .u32 k) (entU l) i = some (fndV l k i) := by
  induction l with
  | nil => intro i; rfl
  | cons p l ih =>
    intro i
    show (match Instr.sameNow (.int .u32) (.int .u32 k) (.int .u32 p.1) with | some true => some (some (i, p.2.1)) | some false => Instr.findNow (.int .u32) (.int .u32 k) (entU l) (i + 1) | none => none) = _
    unfold fndV
    by_cases h : k = p.1
    · have : Instr.sameNow (.int .u32) (.int .u32 k) (.int .u32 p.1) = some true := by simp [Instr.sameNow, h]
      rw [this, if_pos h]
    · have : Instr.sameNow (.int .u32) (.int .u32 k) (.int .u32 p.1) = some false := by simp [Instr.sameNow, h]
      rw [this, if_neg h]
      exact ih (i + 1)
def MapU (W : AW) (r : Nat) (m : Int → Option Value) (n : Nat) : Prop := ∃ l c, W.get r = some (.map (entU l) c) ∧ (keysV l).Nodup ∧ l.length = n ∧ ∀ k, lkV l k = m k
theorem entU_plain (l : List (Int × Value × Nat)) : keysPlain (entU l) = true := by
  unfold keysPlain entU
  rw [List.all_map, List.all_eq_true]
  intro p _
  rfl
theorem key_u32U (hk : P.underlying kt = some (.int .u32)) (empty : Bool) (k : Int) : keyOk P empty kt (.int .u32 k) = true := by
  unfold keyOk
  have : pureRun P (Instr.checkKey empty 10000 kt (.int .u32 k)) = some () := by
    unfold Instr.checkKey
    simp only [pureRun_bind, pureRun_underlying hk, Option.bind_some]
    rfl
  rw [this]
  rfl
theorem find_u32U (hk : P.underlying kt = some (.int .u32)) (l : List (Int × Value × Nat)) (k : Int) : aFind2 P kt (.int .u32 k) (entU l) = some (fndV l k 0) := by
  unfold aFind2 aFind
  have hp : plain (.int .u32 k) = true ∧ keysPlain (entU l) = true := ⟨rfl, entU_plain l⟩
  simp only [if_pos hp, hk, findNow_entU]
theorem mapU_get (h : MapU W r m n) (ht : P.underlying t = some (.map kt e)) (hk : P.underlying kt = some (.int .u32)) {z : Value} (hz : tZero P e = some z) (k : Int) : oLookup P t (.map (some r)) (.int .u32 k) false W = some ((m k).getD z, W) := by
  obtain ⟨l, c, hg, hn, hl, hm⟩ := h
  unfold oLookup aLookup
  simp only [ht, hg, key_u32U hk, if_true, find_u32U hk]
  rw [← hm k, lkV_fnd l k 0]
  unfold aFound
  cases fndV l k 0 with
  | none => simp only [hz]; rfl
  | some q => rfl
theorem mapU_set (h : MapU W r m n) (ht : P.underlying t = some (.map kt e)) (hk : P.underlying kt = some (.int .u32)) (k : Int) (v : Value) : ∃ es c, oMapUpdate P t (.map (some r)) (.int .u32 k) v W = some (undef, W.put r (.map es c)) ∧ MapU (W.put r (.map es c)) r (fun x => if x = k then some v else m x) (if (m k).isSome then n else n + 1) := by
  obtain ⟨l, c, hg, hn, hl, hm⟩ := h
  have hmk : m k = (fndV l k 0).map (·.2) := by rw [← hm k, lkV_fnd l k 0]
  cases hf : fndV l k 0 with
  | none =>
    obtain ⟨h1, h2⟩ := fndV_none hf
    rw [hf] at hmk
    refine ⟨entU (l ++ [(k, v, c)]), c + 1, ?_, l ++ [(k, v, c)], c + 1, AW.get_put _ _ _, ?_, ?_, fun x => by rw [h2, hm]⟩
    · unfold oMapUpdate aMapUpdate
      simp only [ht, hg, key_u32U hk, if_true, find_u32U hk, hf, Option.map_some]
      unfold entU
      rw [List.map_append]; rfl
    · unfold keysV at h1 hn ⊢
      rw [List.map_append, List.nodup_append]
      refine ⟨hn, by simp, fun a ha b hb hab => ?_⟩
      simp only [List.map_cons, List.map_nil, List.mem_singleton] at hb
      subst hb; subst hab
      exact h1 ha
    · rw [hmk]
      simp [hl]
  | some q =>
    obtain ⟨j, v0⟩ := q
    obtain ⟨_, ⟨b, h2, h3⟩, -, -, -, h7⟩ := fndV_some hn hf
    rw [Nat.sub_zero] at h2 h3 h7
    rw [hf] at hmk
    refine ⟨entU (l.set j (k, v, b)), c, ?_, l.set j (k, v, b), c, AW.get_put _ _ _, by rw [h7]; exact hn, by rw [hmk]; simp [hl], fun x => by rw [h3, hm]⟩
    have he : (entU l)[j]? = some { key := .int .u32 k, val := v0, born := b } := by
      unfold entU
      rw [List.getElem?_map, h2]; rfl
    have hs : Instr.sameBits 10000 (.int .u32 k) (.int .u32 k) = true := by
      unfold Instr.sameBits
      simp
    have hpl : plain (.int .u32 k) = true := rfl
    unfold oMapUpdate aMapUpdate
    simp only [ht, hg, key_u32U hk, if_true, find_u32U hk, hf, Option.map_some, he, hs, hpl, and_self]
    unfold entU
    rw [List.map_set]
theorem mapU_new : MapU (W.add (.map [] 0)) W.next (fun _ => none) 0 := ⟨[], 0, AW.get_add _ _, by simp [keysV], rfl, fun k => rfl⟩
end
end
section
variable [PlanTab]
section
variable {P : Program} {W : AW} {α : Type}
def Rd (W : AW) (z : Nat) (f : α → List Value) (v : Value) (l : List α) : Prop :=
  ∃ a c, v = .slice a l.length c ∧ (l = [] ∨ ∃ b o cs, a = some ⟨b, o, none⟩ ∧ b < W.next ∧ cellsAt W b = some cs ∧ (cs.drop o).take (l.length * z) = l.flatMap f)
theorem Rd.keep {z : Nat} {f : α → List Value} {v : Value} {l : List α} {W' : AW} (h : Rd W z f v l) (hle : Le W W') : Rd W' z f v l := by
  obtain ⟨a, c, rfl, h⟩ := h
  refine ⟨a, c, rfl, ?_⟩
  rcases h with h | ⟨b, o, cs, h1, h2, h3, h4⟩
  · exact .inl h
  · exact .inr ⟨b, o, cs, h1, Nat.lt_of_lt_of_le h2 hle.next, by unfold cellsAt at h3 ⊢; rw [hle.get b h2]; exact h3, h4⟩
section
variable {t : TypeId} {z lo : Nat} {f : α → List Value} {v : Value} {l : List α} {kk : IntKind} {k : Nat}
end
end
section
variable {P : Program} {W : AW} {α : Type} {t : TypeId} {z lo : Nat} {f : α → List Value} {v : Value} {l : List α} {kk : IntKind} {k : Nat}
end
end
end Go.Eng
namespace Go.Eng
open Go Go.RowKit
section
variable [PlanTab]

def layF (P : Program) (total : Nat) : Nat → List Field → Bool
  | off, [] => off == total
  | off, f :: fs => f.offset == off && layF P total (off + P.cellsOf f.type) fs
def simT (P : Program) : Nat → TypeId → Bool
  | 0, _ => false
  | n + 1, t => match P.underlying t with
    | some .bool => true
    | some (.int _) => true
    | some .string => true
    | some (.struct fs) => layF P (P.cellsOf t) 0 fs.toList && fs.toList.all fun f => simT P n f.type
    | some (.slice e) => decide (0 < P.cellsOf e) && simT P n e
    | _ => false
def fldR (g : TypeId → List Value → Prop) : List TypeId → List Value → Prop
  | [], cs => cs = []
  | t :: ts, cs => ∃ c1 c2, cs = c1 ++ c2 ∧ g t c1 ∧ fldR g ts c2
theorem fldR.imp {g g' : TypeId → List Value → Prop} (h : ∀ t cs, g t cs → g' t cs) : ∀ {ts : List TypeId} {cs : List Value}, fldR g ts cs → fldR g' ts cs
  | [], _, hc => hc
  | _ :: _, _, ⟨c1, c2, e, h1, h2⟩ => ⟨c1, c2, e, h _ _ h1, fldR.imp h h2⟩
def DR (P : Program) (W : AW) : Nat → TypeId → List Value → Prop
  | 0, _, _ => False
  | n + 1, t, cs => match P.underlying t with
    | some .bool => ∃ b, cs = [.bool b]
    | some (.int k) => ∃ m, cs = [.int k m] ∧ k.min ≤ m ∧ m ≤ k.max
    | some .string => ∃ s : ByteArray, cs = [.string s] ∧ s.size < 9223372036854775808
    | some (.struct fs) => fldR (DR P W n) (fs.toList.map (·.type)) cs
    | some (.slice e) => ∃ a len cap, cs = [.slice a len cap] ∧ len ≤ cap ∧ cap < BIG ∧ (a = none ∨ ∃ b, a = some ⟨b, 0, none⟩) ∧ (len = 0 ∨ ∃ (b : Nat) (l : List (List Value)), a = some ⟨b, 0, none⟩ ∧ b < W.next ∧ cellsAt W b = some l.flatten ∧ l.length = len ∧ ∀ c ∈ l, c.length = P.cellsOf e ∧ DR P W n e c)
    | _ => False
theorem DR.mono {P : Program} {W W' : AW} (hle : Le W W') : ∀ {n : Nat} {t : TypeId} {cs : List Value}, DR P W n t cs → DR P W' n t cs := by
  intro n
  induction n with
  | zero => intro t cs h; exact h.elim
  | succ n ih =>
    intro t cs h
    unfold DR at h ⊢
    split at h
    · exact h
    · exact h
    · exact h
    · exact fldR.imp (fun t cs h => ih h) h
    · obtain ⟨a, len, cap, e1, e2, e3, e3', h⟩ := h
      refine ⟨a, len, cap, e1, e2, e3, e3', ?_⟩
      rcases h with h | ⟨b, l, e4, e5, e6, e7, h⟩
      · exact .inl h
      · exact .inr ⟨b, l, e4, Nat.lt_of_lt_of_le e5 hle.next, (hle.cellsAt e5).trans e6, e7, fun c hc => ⟨(h c hc).1, ih (h c hc).2⟩⟩
    · exact h
structure Opened (σ : Inj) (W : AW) (w : World) : Prop where
  rel : WRel σ W w.heap
  ro : AllRo σ W
  some_ : ∃ b g, σ b = some g
theorem Opened.add {σ : Inj} {W : AW} {w : World} (h : Opened σ W w) {B s : Nat} {cs : List Value} {c : Array Value} {t : TypeId} {fr : Nat × Nat} (hB : w.heap[B]? = some (.cells c t fr))
    (hc : ∀ (i : Nat) (v : Value), cs[i]? = some v → ∃ v', c[s + i]? = some v' ∧ VR σ v v') :
    Opened (bind1 σ W.next ⟨B, s, s + cs.length⟩) (W.add (.ro cs)) w ∧ Sub σ (bind1 σ W.next ⟨B, s, s + cs.length⟩) := by
  have hfr := h.rel.fresh
  have hs : Sub σ (bind1 σ W.next ⟨B, s, s + cs.length⟩) := bind1_sub hfr
  have hlt : B < w.heap.size := (Array.getElem?_eq_some_iff.1 hB).1
  have hne : ∀ {x : Nat}, x ≠ W.next → (W.add (.ro cs)).get x = W.get x := fun hx => W.get_add_ne _ (Ne.symm hx)
  have hinv : ∀ x g, bind1 σ W.next ⟨B, s, s + cs.length⟩ x = some g → (x = W.next ∧ g = ⟨B, s, s + cs.length⟩) ∨ (x ≠ W.next ∧ σ x = some g) := fun x g hc => by
    unfold bind1 at hc
    split at hc
    · rename_i hx; injection hc with hc; exact .inl ⟨hx, hc.symm⟩
    · rename_i hx; exact .inr ⟨hx, hc⟩
  have hro : AllRo (bind1 σ W.next ⟨B, s, s + cs.length⟩) (W.add (.ro cs)) := by
    intro x g hx
    rcases hinv x g hx with ⟨rfl, rfl⟩ | ⟨h1, h2⟩
    · exact ⟨cs, AW.get_add _ _⟩
    · obtain ⟨cs', hcs⟩ := h.ro x g h2
      exact ⟨cs', by rw [hne h1]; exact hcs⟩
  refine ⟨⟨⟨?_, ?_, ?_, ?_⟩, hro, ?_⟩, hs⟩
  · intro x hx
    rw [AW.add_next] at hx
    rw [hne (by omega)]
    exact h.rel.free x (by omega)
  · intro x g hx
    rw [AW.add_next]
    rcases hinv x g hx with ⟨rfl, rfl⟩ | ⟨_, h2⟩
    · exact ⟨by omega, hlt⟩
    · have := h.rel.dom x g h2
      exact ⟨by omega, this.2⟩
  · intro x o g hx hk
    rcases hinv x g hk with ⟨rfl, rfl⟩ | ⟨h1, h2⟩
    · rw [AW.get_add] at hx
      injection hx with hx
      subst hx
      exact ⟨c, t, fr, hB, Nat.le_refl _, fun i v hv => let ⟨v', a, b⟩ := hc i v hv; ⟨v', a, b.mono hs⟩⟩
    · rw [hne h1] at hx
      exact (h.rel.obj x o g hx h2).mono hs
  · intro b1 b2 o1 o2 g1 g2 hbb h1 h2 k1 k2 hr
    obtain ⟨c1, e1⟩ := hro b1 g1 k1
    obtain ⟨c2, e2⟩ := hro b2 g2 k2
    rw [h1] at e1; rw [h2] at e2
    injection e1 with e1; injection e2 with e2
    subst e1; subst e2
    simp [rw_] at hr
  · obtain ⟨b, g, hb⟩ := h.some_
    exact ⟨b, g, hs b g hb⟩
theorem cells?_at {w : World} {base : Nat} {a : Addr} {n : Nat} {cs : List Value} (h : w.cells? base a n = some cs) (hn : 0 < n) : ∃ c t fr, w.heap[a.block]? = some (.cells c t fr) ∧ a.spot = none ∧ cs.length = n ∧ ∀ i, i < n → c[a.off + i]? = cs[i]? := by
  unfold World.cells? at h
  split at h
  case isFalse => cases h
  have hl := mapM_some_length h
  rw [List.length_range] at hl
  have hg : ∀ i, i < n → w.cell? (a.add i) = cs[i]? := fun i hi => mapM_some_get h i i (by simp [hi])
  have h0 := hg 0 hn
  have e0 : a.add 0 = a := by simp [Addr.add]
  rw [e0, List.getElem?_eq_getElem (by omega)] at h0
  unfold World.cell? at h0
  split at h0
  case h_2 => cases h0
  rename_i c t fr hh
  split at h0
  case isTrue => cases h0
  rename_i hsp
  refine ⟨c, t, fr, hh, by simpa using hsp, hl, fun i hi => ?_⟩
  rw [← hg i hi]
  unfold World.cell?
  have eb : (a.add i).block = a.block := by unfold Addr.add; split <;> rfl
  have eo : (a.add i).off = a.off + i := by unfold Addr.add; split <;> simp_all
  have es : (a.add i).spot = none := by unfold Addr.add; split <;> simp_all
  rw [eb, hh]
  simp only [es, eo, Option.isSome_none, Bool.false_eq_true, if_false]
section
variable {H : Type} {enc : TypeId × Value → H} {P : Program} {w : World}
def Opens (P : Program) (w : World) (n : Nat) (t : TypeId) (cs' : List Value) : Prop := ∀ σ W, Opened σ W w → ∃ σ2 W2 cs, Opened σ2 W2 w ∧ Sub σ σ2 ∧ Le W W2 ∧ LR σ2 cs cs' ∧ DR P W2 n t cs
theorem opens_fields {n : Nat} {total : Nat} {cs' : List Value} (hl : cs'.length = total) : ∀ {fs : List Field} {off : Nat}, layF P total off fs = true → (∀ f ∈ fs, Opens P w n f.type ((cs'.drop f.offset).take (P.cellsOf f.type))) →
    ∀ σ W, Opened σ W w → ∃ σ2 W2 cs, Opened σ2 W2 w ∧ Sub σ σ2 ∧ Le W W2 ∧ LR σ2 cs (cs'.drop off) ∧ fldR (DR P W2 n) (fs.map (·.type)) cs
  | [], off, h, _, σ, W, ho => by
    unfold layF at h
    have := beq_iff_eq.1 h
    refine ⟨σ, W, [], ho, .refl _, .refl _, ?_, rfl⟩
    rw [List.drop_of_length_le (by omega)]
    exact .nil
  | f :: fs, off, h, hf, σ, W, ho => by
    unfold layF at h
    simp only [Bool.and_eq_true] at h
    have hoff := beq_iff_eq.1 h.1
    obtain ⟨σ1, W1, c1, o1, s1, l1, r1, a1⟩ := hf f (by simp) σ W ho
    obtain ⟨σ2, W2, c2, o2, s2, l2, r2, a2⟩ := opens_fields hl h.2 (fun g hg => hf g (by simp [hg])) σ1 W1 o1
    refine ⟨σ2, W2, c1 ++ c2, o2, s1.trans s2, l1.trans l2, ?_, c1, c2, rfl, a1.mono l2, a2⟩
    rw [hoff] at r1
    have e : cs'.drop off = (cs'.drop off).take (P.cellsOf f.type) ++ cs'.drop (off + P.cellsOf f.type) := by
      rw [← List.drop_drop, List.take_append_drop]
    rw [e]
    exact (r1.mono s2).append r2
theorem opens_list {n z : Nat} {e : TypeId} : ∀ {LL : List (List Value)}, (∀ c ∈ LL, c.length = z ∧ Opens P w n e c) →
    ∀ σ W, Opened σ W w → ∃ (σ2 : Inj) (W2 : AW) (l : List (List Value)), Opened σ2 W2 w ∧ Sub σ σ2 ∧ Le W W2 ∧ LR σ2 l.flatten LL.flatten ∧ l.length = LL.length ∧ ∀ c ∈ l, c.length = z ∧ DR P W2 n e c
  | [], _, σ, W, ho => ⟨σ, W, [], ho, .refl _, .refl _, .nil, rfl, by simp⟩
  | c0 :: LL, h, σ, W, ho => by
    obtain ⟨σ1, W1, c1, o1, s1, l1, r1, a1⟩ := (h c0 (by simp)).2 σ W ho
    obtain ⟨σ2, W2, l, o2, s2, l2, r2, e2, a2⟩ := opens_list (LL := LL) (fun c hc => h c (by simp [hc])) σ1 W1 o1
    refine ⟨σ2, W2, c1 :: l, o2, s1.trans s2, l1.trans l2, ?_, by simp [e2], ?_⟩
    · rw [List.flatten_cons, List.flatten_cons]
      exact (r1.mono s2).append r2
    · intro c hc
      rcases List.mem_cons.1 hc with rfl | hc
      · exact ⟨by rw [r1.1]; exact (h c0 (by simp)).1, a1.mono l2⟩
      · exact a2 c hc
theorem flat_row (L : List Value) (o z : Nat) : ∀ n, ((List.range n).map fun i => (L.drop (o + i * z)).take z).flatten = (L.drop o).take (n * z)
  | 0 => by simp
  | n + 1 => by
    rw [List.range_succ, List.map_append, List.flatten_append, flat_row L o z n, Nat.succ_mul, List.take_add, List.drop_drop]
    simp
theorem opens_trod : ∀ {n m : Nat} {t : TypeId} {cs' : List Value} {x : DataW H × List MemPlace}, simT P n t = true → DataW.trod enc P w 0 (fun _ => true) true m t cs' = some x → Opens P w n t cs' := by
  intro n
  induction n with
  | zero => intro m t cs' x h; cases h
  | succ n ih =>
    intro m t cs' x h hx σ W ho
    unfold simT at h
    split at h
    · rename_i ht
      obtain ⟨b, rfl, _⟩ := DataW.trod_bool ht hx
      exact ⟨σ, W, [.bool b], ho, .refl _, .refl _, .cons (.bool b) .nil, by unfold DR; rw [ht]; exact ⟨b, rfl⟩⟩
    · rename_i k ht
      obtain ⟨z, rfl, _, hwf⟩ := DataW.trod_int ht hx
      simp only [Lit.wf, Bool.and_eq_true, decide_eq_true_eq] at hwf
      exact ⟨σ, W, [.int k z], ho, .refl _, .refl _, .cons (.int k z) .nil, by unfold DR; rw [ht]; exact ⟨z, rfl, hwf⟩⟩
    · rename_i ht
      obtain ⟨s, rfl, _, hs⟩ := DataW.trod_string ht hx
      exact ⟨σ, W, [.string s], ho, .refl _, .refl _, .cons (.string s) .nil, by unfold DR; rw [ht]; exact ⟨s, rfl, by unfold maxLen at hs; omega⟩⟩
    · rename_i fs ht
      simp only [Bool.and_eq_true, List.all_eq_true] at h
      obtain ⟨xs, m', _, _, hl, hlen, hf⟩ := DataW.trod_struct ht hx
      have := opens_fields (P := P) (w := w) (n := n) hl h.1 (fun f hfm => by
        obtain ⟨i, hi, rfl⟩ := List.getElem_of_mem hfm
        have hi2 : i < fs.size := by simpa using hi
        have h1 := hf i fs[i] (by rw [Array.getElem?_eq_getElem hi2])
        rw [List.getElem?_eq_getElem (by omega)] at h1
        have e : fs.toList[i] = fs[i] := by simp
        rw [e]
        exact ih (by rw [← e]; exact h.2 _ hfm) h1) σ W ho
      obtain ⟨σ2, W2, cs, o2, s2, l2, r2, a2⟩ := this
      rw [List.drop_zero] at r2
      exact ⟨σ2, W2, cs, o2, s2, l2, r2, by unfold DR; rw [ht]; exact a2⟩
    · rename_i e ht
      simp only [Bool.and_eq_true, decide_eq_true_eq] at h
      obtain ⟨hz, hse⟩ := h
      have mk : ∀ {W2 : AW} {a : Option Addr} {len cap : Nat}, len ≤ cap → cap < BIG → (a = none ∨ ∃ b, a = some ⟨b, 0, none⟩) → (len = 0 ∨ ∃ (b : Nat) (l : List (List Value)), a = some ⟨b, 0, none⟩ ∧ b < W2.next ∧ cellsAt W2 b = some l.flatten ∧ l.length = len ∧ ∀ c ∈ l, c.length = P.cellsOf e ∧ DR P W2 n e c) → DR P W2 (n + 1) t [.slice a len cap] := fun h1 h2 h2' h3 => by
        unfold DR; rw [ht]; exact ⟨_, _, _, rfl, h1, h2, h2', h3⟩
      rcases DataW.trod_slice ht hx with ⟨rfl, _⟩ | ⟨a, len, cap, elems, rest, m', _, rfl, _, _, hlc, hcap, hel, hle, hsp, _⟩
      · exact ⟨σ, W, [.slice none 0 0], ho, .refl _, .refl _, .cons (.snil 0 0) .nil, mk (Nat.le_refl _) (by unfold BIG; omega) (.inl rfl) (.inl rfl)⟩
      obtain ⟨hrl, hre⟩ := hsp rfl
      have hcap2 : cap < BIG := by unfold maxLen at hcap; unfold BIG; omega
      by_cases hc0 : cap = 0
      · obtain rfl : len = 0 := by omega
        subst hc0
        obtain ⟨b, g, hg⟩ := ho.some_
        exact ⟨σ, W, [.slice (some ⟨b, 0, none⟩) 0 0], ho, .refl _, .refl _, .cons (.sliceE ⟨b, 0, none⟩ a 0 g hg (.inl rfl)) .nil, mk (Nat.le_refl _) (by unfold BIG; omega) (.inr ⟨b, rfl⟩) (.inl rfl)⟩
      · -- each element's cells
        have hall : ∀ i, i < cap → ∃ ci, w.cells? 0 (a.add (i * P.cellsOf e)) (P.cellsOf e) = some ci ∧ ∃ x, DataW.trod enc P w 0 (fun _ => true) true m' e ci = some x := by
          intro i hi
          by_cases hil : i < len
          · have h1 := hle i hil
            rw [List.getElem?_eq_getElem (by omega)] at h1
            obtain ⟨ci, h2, h3⟩ := Option.bind_eq_some_iff.1 h1
            exact ⟨ci, h2, _, h3⟩
          · have h1 := hre (i - len) (by omega)
            rw [List.getElem?_eq_getElem (by omega), show len + (i - len) = i by omega] at h1
            obtain ⟨ci, h2, h3⟩ := Option.bind_eq_some_iff.1 h1
            exact ⟨ci, h2, _, h3⟩
        obtain ⟨c0, hc0', _⟩ := hall 0 (by omega)
        have ea0 : a.add (0 * P.cellsOf e) = a := by simp [Addr.add]
        rw [ea0] at hc0'
        obtain ⟨c, tt, fr, hB, hspot, _, _⟩ := cells?_at hc0' hz
        have hci : ∀ i, i < cap → ∃ x, ((c.toList.drop (a.off + i * P.cellsOf e)).take (P.cellsOf e)).length = P.cellsOf e ∧ DataW.trod enc P w 0 (fun _ => true) true m' e ((c.toList.drop (a.off + i * P.cellsOf e)).take (P.cellsOf e)) = some x := by
          intro i hi
          obtain ⟨ci, h1, x, h2⟩ := hall i hi
          obtain ⟨c2, t2, fr2, hB2, _, hl2, hg2⟩ := cells?_at h1 hz
          have eb : (a.add (i * P.cellsOf e)).block = a.block := by unfold Addr.add; split <;> rfl
          have eo : (a.add (i * P.cellsOf e)).off = a.off + i * P.cellsOf e := by unfold Addr.add; split <;> simp_all
          rw [eb, hB] at hB2
          injection hB2 with hB2
          injection hB2 with hB2
          subst hB2
          rw [eo] at hg2
          have ec : (c.toList.drop (a.off + i * P.cellsOf e)).take (P.cellsOf e) = ci := by
            apply List.ext_getElem?
            intro j
            by_cases hj : j < P.cellsOf e
            · rw [List.getElem?_take, if_pos hj, List.getElem?_drop, Array.getElem?_toList]
              exact hg2 j hj
            · rw [List.getElem?_take, if_neg hj, List.getElem?_eq_none (by omega)]
          rw [ec]
          exact ⟨x, hl2, h2⟩
        obtain ⟨σ1, W1, l, o1, s1, l1, r1, e1, a1⟩ := opens_list (P := P) (w := w) (n := n) (z := P.cellsOf e) (e := e) (LL := (List.range len).map fun i => (c.toList.drop (a.off + i * P.cellsOf e)).take (P.cellsOf e)) (fun ci hm => by
          obtain ⟨i, hi, rfl⟩ := List.mem_map.1 hm
          rw [List.mem_range] at hi
          obtain ⟨x, h1, h2⟩ := hci i (by omega)
          exact ⟨h1, ih hse h2⟩) σ W ho
        rw [flat_row] at r1
        rw [List.length_map, List.length_range] at e1
        obtain ⟨o2, s2⟩ := o1.add (s := a.off) (cs := l.flatten) hB (fun i v hv => by
          obtain ⟨v', hv', hr⟩ := r1.get hv
          refine ⟨v', ?_, hr⟩
          rw [List.getElem?_take] at hv'
          split at hv'
          · rw [List.getElem?_drop, Array.getElem?_toList] at hv'; exact hv'
          · cases hv')
        have lw : Le W1 (W1.add (.ro l.flatten)) := (Le.refl W1).add _
        have ev : (⟨a.block, a.off + 0, none⟩ : Addr) = a := by
          obtain ⟨b, o, s⟩ := a
          simp only at hspot
          subst hspot
          rfl
        have hv : VR (bind1 σ1 W1.next ⟨a.block, a.off, a.off + l.flatten.length⟩) (.slice (some ⟨W1.next, 0, none⟩) len cap) (.slice (some ⟨a.block, a.off + 0, none⟩) len cap) :=
          .slice ⟨W1.next, 0, none⟩ len cap cap ⟨a.block, a.off, a.off + l.flatten.length⟩ bind1_same rfl (.known cap hcap2)
        rw [ev] at hv
        refine ⟨_, _, [.slice (some ⟨W1.next, 0, none⟩) len cap], o2, s1.trans s2, l1.trans lw, .cons hv .nil, mk hlc hcap2 (.inr ⟨W1.next, rfl⟩) (.inr ⟨W1.next, l, rfl, by rw [AW.add_next]; omega, cellsAt_ro (W1.get_add _), e1, fun ci hm => ⟨(a1 ci hm).1, (a1 ci hm).2.mono lw⟩⟩)⟩
    · cases h
end
end
end Go.Eng
namespace Go.Eng
open Go Go.RowKit Go.ChangeShapes Go.WideShapes
section
variable [PlanTab]
section
variable {P : Program} {W : AW} {α : Type}
theorem DR.int {n : Nat} {t : TypeId} {cs : List Value} {k : IntKind} (h : DR P W (n + 1) t cs) (ht : P.underlying t = some (.int k)) : ∃ m, cs = [.int k m] := by
  unfold DR at h; rw [ht] at h
  obtain ⟨m, h, _⟩ := h
  exact ⟨m, h⟩
theorem DR.str {n : Nat} {t : TypeId} {cs : List Value} (h : DR P W (n + 1) t cs) (ht : P.underlying t = some .string) : ∃ s : ByteArray, cs = [.string s] ∧ s.size < 9223372036854775808 := by
  unfold DR at h; rw [ht] at h; exact h
theorem DR.struct {n : Nat} {t : TypeId} {cs : List Value} {fs : Array Field} (h : DR P W (n + 1) t cs) (ht : P.underlying t = some (.struct fs)) : fldR (DR P W n) (fs.toList.map (·.type)) cs := by
  unfold DR at h; rw [ht] at h; exact h
theorem DR.slice {n : Nat} {t e : TypeId} {cs : List Value} (h : DR P W (n + 1) t cs) (ht : P.underlying t = some (.slice e)) :
    ∃ a len cap, cs = [.slice a len cap] ∧ len ≤ cap ∧ cap < BIG ∧ (len = 0 ∨ ∃ (b : Nat) (l : List (List Value)), a = some ⟨b, 0, none⟩ ∧ b < W.next ∧ cellsAt W b = some l.flatten ∧ l.length = len ∧ ∀ c ∈ l, c.length = P.cellsOf e ∧ DR P W n e c) := by
  unfold DR at h; rw [ht] at h
  obtain ⟨a, len, cap, h1, h2, h3, _, h4⟩ := h
  exact ⟨a, len, cap, h1, h2, h3, h4⟩
theorem DR.sliceA {n : Nat} {t e : TypeId} {cs : List Value} (h : DR P W (n + 1) t cs) (ht : P.underlying t = some (.slice e)) :
    ∃ a len cap, cs = [.slice a len cap] ∧ len ≤ cap ∧ cap < BIG ∧ (a = none ∨ ∃ b, a = some ⟨b, 0, none⟩) ∧ (len = 0 ∨ ∃ (b : Nat) (l : List (List Value)), a = some ⟨b, 0, none⟩ ∧ b < W.next ∧ cellsAt W b = some l.flatten ∧ l.length = len ∧ ∀ c ∈ l, c.length = P.cellsOf e ∧ DR P W n e c) := by
  unfold DR at h; rw [ht] at h; exact h
theorem row_list {z : Nat} {at_ : List Value → Nat → α → Prop} : ∀ {l : List (List Value)}, (∀ c ∈ l, c.length = z ∧ ∃ x : α, ∀ pre post, at_ (pre ++ (c ++ post)) pre.length x) → ∀ pre : List Value,
    ∃ xs : List α, xs.length = l.length ∧ ∀ i (h : i < xs.length), at_ (pre ++ l.flatten) (pre.length + i * z) xs[i]
  | [], _, _ => ⟨[], rfl, fun i h => by simp at h⟩
  | c :: l, hc, pre => by
    obtain ⟨hz, x, hx⟩ := hc c (by simp)
    obtain ⟨xs, h1, h2⟩ := row_list (l := l) (fun d hd => hc d (by simp [hd])) (pre ++ c)
    refine ⟨x :: xs, by simp [h1], fun i h => ?_⟩
    rw [List.flatten_cons]
    match i with
    | 0 => simpa using hx pre l.flatten
    | i + 1 =>
      have := h2 i (by simpa using h)
      rw [List.length_append, hz, List.append_assoc] at this
      rw [List.getElem_cons_succ, Nat.succ_mul, Nat.add_comm (i * z) z, ← Nat.add_assoc]
      exact this
def RowC {α : Type} (W : AW) (z : Nat) (at_ : List Value → Nat → α → Prop) (v : Value) (l : List α) : Prop := Row W z at_ v l ∧ (∃ a c, v = .slice a l.length c ∧ l.length ≤ c ∧ c < BIG ∧ (l ≠ [] → ∃ b o, a = some ⟨b, o, none⟩))
theorem DR.row {n : Nat} {t e : TypeId} {cs : List Value} (h : DR P W (n + 1) t cs) (ht : P.underlying t = some (.slice e)) {at_ : List Value → Nat → α → Prop}
    (hat : ∀ c, c.length = P.cellsOf e → DR P W n e c → ∃ x : α, ∀ pre post, at_ (pre ++ (c ++ post)) pre.length x) : ∃ v l, cs = [v] ∧ RowC W (P.cellsOf e) at_ v l := by
  obtain ⟨a, len, cap, rfl, h1, h2, h3⟩ := h.slice ht
  rcases h3 with rfl | ⟨b, l, rfl, h4, h5, rfl, h6⟩
  · exact ⟨_, [], rfl, ⟨a, cap, rfl, .inl rfl⟩, a, cap, rfl, h1, h2, fun h => absurd rfl h⟩
  · obtain ⟨xs, e1, e2⟩ := row_list (z := P.cellsOf e) (at_ := at_) (l := l) (fun c hc => ⟨(h6 c hc).1, hat c (h6 c hc).1 (h6 c hc).2⟩) []
    refine ⟨_, xs, rfl, ⟨_, cap, by rw [e1], .inr ⟨b, 0, l.flatten, rfl, h4, h5, fun i hi => ?_⟩⟩, _, cap, by rw [e1], by omega, h2, fun _ => ⟨b, 0, rfl⟩⟩
    have := e2 i hi
    simpa using this
theorem DR.ints {n : Nat} {t e : TypeId} {cs : List Value} {k : IntKind} (h : DR P W (n + 2) t cs) (ht : P.underlying t = some (.slice e)) (he : P.underlying e = some (.int k)) (hz : P.cellsOf e = 1) : ∃ v l, cs = [v] ∧ RowC W 1 (intAt k) v l := by
  have := h.row ht (at_ := intAt k) (fun c _ hc => by
    obtain ⟨m, rfl⟩ := hc.int he
    refine ⟨m, fun pre post => ?_⟩
    unfold intAt
    rw [List.getElem?_append_right (by omega)]; simp)
  rwa [hz] at this
theorem fldR.nil {g : TypeId → List Value → Prop} {cs : List Value} (h : fldR g [] cs) : cs = [] := h
theorem fldR.cons {g : TypeId → List Value → Prop} {t : TypeId} {ts : List TypeId} {cs : List Value} (h : fldR g (t :: ts) cs) : ∃ c1 c2, cs = c1 ++ c2 ∧ g t c1 ∧ fldR g ts c2 := h
end
section
variable {H : Type} {enc : TypeId × Value → H} {P : Program} {w w' : World} {base : Nat} {spare : Nat → Bool} {held : Bool}
theorem Quiet.same {p : MemPlace} (hq : Quiet w w') (hp : p.block < w.heap.size) : w.sameAt w' p := by
  cases p with
  | cell b off => exact World.cell?_of_block (a := ⟨b, off, none⟩) (hq.block b hp)
  | map b => exact hq.block b hp
theorem Quiet.trodAll (hq : Quiet w w') : ∀ {ts : List TypeId} {vs : List Value} {ds : List (DataW H)} {ps : List MemPlace}, DataW.TrodAll enc P w base spare held ts vs ds ps → DataW.TrodAll enc P w' base spare held ts vs ds ps
  | [], [], [], _, h => h
  | _ :: _, _ :: _, _ :: _, _, ⟨p, q, ⟨n, h1⟩, h2, e⟩ => ⟨p, q, ⟨n, DataW.trod_carry n _ _ _ h1 (fun x hx => hq.same (DataW.trod_lt n _ _ _ h1 x hx))⟩, hq.trodAll h2, e⟩
theorem post_true {f : Func} {s : ChangeSpec} {args : Array Value} {ds gs : List (DataW H)} {before : List MemPlace} {T : TypeId → Prop} (K : Kids P T) (hz : ∀ t e, T t → P.underlying t = some (.slice e) → 0 < P.cellsOf e) (hT : ∀ t ∈ f.params.toList, T t)
    (hW : DataW.Whole enc P f.params.toList s.vars false w args.toList ds gs before) (hq : Quiet w w') (hv : s.vars = []) (hfn : s.fn H ds = { results := [.lit (.bool true)], args := ds }) {t : TypeId} (hr : f.resultTypes = #[t]) (ht : P.underlying t = some .bool) :
    s.post enc P f false true false false w args (.bool true) w' := by
  have hW' := hW
  obtain ⟨p, q, hA, hV, rfl, _, _⟩ := hW
  rw [hv] at hV
  obtain ⟨rfl, rfl⟩ := trodVars_none hV
  have hlt := hA.lt
  refine ⟨ds, [], p ++ [], [], p, [], hW', ?_, ?_, ?_, hq.grown.frame _, fun h => by cases h⟩
  · rw [hr, List.append_nil, hfn]
    exact trodAll_cons_mk (shut_bool ht _) trodAll_mk0
  · rw [List.append_nil, hfn]
    exact hq.trodAll (hA.respare K hz hT (fun x hx => by simpa using hlt x hx))
  · rw [hv, List.append_nil, hfn]
    exact rfl
end
end
end Go.Eng
namespace Go.Eng
open Go
@[reducible] noncomputable def trieTab (D : Nat → Array Oper → Option (List (Nat × List Nat))) (ng : List Nat) (ex : TypeId → Bool := fun _ => false) : PlanTab where
  D := D
  ex := ex
  ng := ng
  Fr := T Value
  fget := fun R t => (T.get (path t) R).getD undef
  fset := fun R t v => T.set (some v) (path t) R
  blank := .lf
  get_set := fun R t v => by rw [T.get_set]; rfl
  get_set_ne := fun R t u v h => by rw [T.get_set_ne _ _ _ _ (path_ne h)]
  get_blank := fun t => by rw [T.get_lf]; rfl
end Go.Eng
namespace Go.Eng
open Go Go.RowKit Go.Maps Go.MapKept
open Go.WideElems (Fit rd rg)
open Go.WideShapes (sorted_perm)
section
variable [PlanTab]
noncomputable def insZ (x : Int) (l : List Int) : List Int := List.rec (motive := fun _ => List Int) [x] (fun y l ih => Bool.rec (motive := fun _ => List Int) (y :: ih) (x :: y :: l) (decide (x ≤ y))) l
noncomputable def srtZ (l : List Int) : List Int := List.rec (motive := fun _ => List Int) [] (fun x _ ih => insZ x ih) l
theorem insZ_cons (x y : Int) (l : List Int) : insZ x (y :: l) = if x ≤ y then x :: y :: l else y :: insZ x l := by
  show Bool.rec (motive := fun _ => List Int) (y :: insZ x l) (x :: y :: l) (decide (x ≤ y)) = _
  by_cases h : x ≤ y
  · rw [if_pos h, decide_eq_true h]
  · rw [if_neg h, decide_eq_false h]
theorem insZ_perm (x : Int) : ∀ l, (insZ x l).Perm (x :: l)
  | [] => .refl _
  | y :: l => by
    rw [insZ_cons]
    split
    · exact .refl _
    · exact ((insZ_perm x l).cons y).trans (.swap x y l)
theorem insZ_sorted (x : Int) : ∀ l : List Int, l.Pairwise (· ≤ ·) → (insZ x l).Pairwise (· ≤ ·)
  | [], _ => List.pairwise_singleton _ _
  | y :: l, h => by
    rw [insZ_cons]
    obtain ⟨h1, h2⟩ := List.pairwise_cons.1 h
    split
    · rename_i hx
      refine List.pairwise_cons.2 ⟨fun a ha => ?_, h⟩
      rcases List.mem_cons.1 ha with rfl | ha
      · exact hx
      · have := h1 a ha; omega
    · rename_i hx
      refine List.pairwise_cons.2 ⟨fun a ha => ?_, insZ_sorted x l h2⟩
      rcases List.mem_cons.1 ((insZ_perm x l).mem_iff.1 ha) with rfl | ha
      · omega
      · exact h1 a ha
theorem srtZ_perm : ∀ l, (srtZ l).Perm l
  | [] => .refl _
  | x :: l => (insZ_perm x (srtZ l)).trans ((srtZ_perm l).cons x)
theorem srtZ_sorted : ∀ l, (srtZ l).Pairwise (· ≤ ·)
  | [] => .nil
  | x :: l => insZ_sorted x _ (srtZ_sorted l)
theorem srtZ_len (l : List Int) : (srtZ l).length = l.length := (srtZ_perm l).length_eq
theorem srtZ_merge (l : List Int) : srtZ l = l.mergeSort fun x y => decide (x ≤ y) := by
  have tr : ∀ a b c : Int, decide (a ≤ b) = true → decide (b ≤ c) = true → decide (a ≤ c) = true := fun a b c h1 h2 => by simp only [decide_eq_true_eq] at *; omega
  have to : ∀ a b : Int, (decide (a ≤ b) || decide (b ≤ a)) = true := fun a b => by simp only [Bool.or_eq_true, decide_eq_true_eq]; omega
  refine List.Perm.eq_of_pairwise (le := fun a b => a ≤ b) (fun a b _ _ h1 h2 => by omega) (srtZ_sorted l) ((List.pairwise_mergeSort tr to l).imp fun h => by simpa using h) ((srtZ_perm l).trans (List.mergeSort_perm l _).symm)
def wfZ (k : Int) : Bool := decide (-9223372036854775808 ≤ k) && decide (k ≤ 9223372036854775807)
noncomputable def keyZ (v : Value) : Option Int := match v with
  | .int .i64 k => (match wfZ k with | true => some k | false => none)
  | _ => none
noncomputable def keysZ (es : List MapEntry) : Option (List Int) := List.rec (motive := fun _ => Option (List Int)) (some []) (fun e _ ih => match keyZ e.key, ih with
  | some k, some l => some (k :: l)
  | _, _ => none) es
theorem keysZ_inv : ∀ {es : List MapEntry} {ks : List Int}, keysZ es = some ks → es.map (·.key) = ks.map encZ ∧ ∀ k ∈ ks, wfZ k = true
  | [], ks, h => by injection h with h; subst h; exact ⟨rfl, fun k hk => by cases hk⟩
  | e :: es, ks, h => by
    have h' : (match keyZ e.key, keysZ es with | some k, some l => some (k :: l) | _, _ => none) = some ks := h
    cases h1 : keyZ e.key with
    | none => rw [h1] at h'; cases h'
    | some k =>
      cases h2 : keysZ es with
      | none => rw [h1, h2] at h'; cases h'
      | some l =>
        rw [h1, h2] at h'
        injection h' with h'
        subst h'
        obtain ⟨a, b⟩ := keysZ_inv h2
        have hk : e.key = encZ k ∧ wfZ k = true := by
          unfold keyZ at h1
          split at h1
          · rename_i q hq
            split at h1
            · rename_i hw; injection h1 with h1; subst h1; exact ⟨hq, hw⟩
            · cases h1
          · cases h1
        exact ⟨by rw [List.map_cons, List.map_cons, hk.1, a], fun x hx => by
          rcases List.mem_cons.1 hx with rfl | hx
          · exact hk.2
          · exact b x hx⟩
noncomputable def memN (x : Nat) (l : List Nat) : Bool := List.rec (motive := fun _ => Bool) false (fun y _ ih => Nat.beq x y || ih) l
noncomputable def memZ (x : Int) (l : List Int) : Bool := List.rec (motive := fun _ => Bool) false (fun y _ ih => decide (x = y) || ih) l
theorem memN_iff {x : Nat} : ∀ {l : List Nat}, memN x l = true ↔ x ∈ l
  | [] => by show false = true ↔ _; simp
  | y :: l => by
    show (Nat.beq x y || memN x l) = true ↔ _
    rw [Bool.or_eq_true, Nat.beq_eq, memN_iff, List.mem_cons]
theorem memZ_iff {x : Int} : ∀ {l : List Int}, memZ x l = true ↔ x ∈ l
  | [] => by show false = true ↔ _; simp
  | y :: l => by
    show (decide (x = y) || memZ x l) = true ↔ _
    rw [Bool.or_eq_true, decide_eq_true_eq, memZ_iff, List.mem_cons]
noncomputable def stampZ (clock : Nat) (es : List MapEntry) : Bool := List.rec (motive := fun _ => Bool) true (fun e es ih => Nat.blt e.born clock && !memN e.born (es.map (·.born)) && ih) es
noncomputable def nodupZ (l : List Int) : Bool := List.rec (motive := fun _ => Bool) true (fun x l ih => !memZ x l && ih) l
theorem stampZ_ok {clock : Nat} : ∀ {es : List MapEntry}, stampZ clock es = true → (∀ x ∈ es, x.born < clock) ∧ (es.map (·.born)).Nodup
  | [], _ => ⟨(fun x hx => by cases hx), .nil⟩
  | e :: es, h => by
    have h' : (Nat.blt e.born clock && !memN e.born (es.map (·.born)) && stampZ clock es) = true := h
    simp only [Bool.and_eq_true, Bool.not_eq_true'] at h'
    obtain ⟨⟨h1, h2⟩, h3⟩ := h'
    obtain ⟨a, b⟩ := stampZ_ok h3
    refine ⟨fun x hx => ?_, ?_⟩
    · rcases List.mem_cons.1 hx with rfl | hx
      · exact Eq.mp Nat.blt_eq h1
      · exact a x hx
    · rw [List.map_cons, List.nodup_cons]
      exact ⟨(fun hm => by rw [memN_iff.2 hm] at h2; cases h2), b⟩
theorem nodupZ_ok : ∀ {l : List Int}, nodupZ l = true → l.Nodup
  | [], _ => .nil
  | x :: l, h => by
    have h' : (!memZ x l && nodupZ l) = true := h
    simp only [Bool.and_eq_true, Bool.not_eq_true'] at h'
    rw [List.nodup_cons]
    exact ⟨(fun hm => by rw [memZ_iff.2 hm] at h'; cases h'.1), nodupZ_ok h'.2⟩
theorem WRel.newIn {σ : Inj} {W : AW} {w w' : World} (h : WRel σ W w.heap) (hb : Below w.heap.size w w') {o : AObj} {B e : Nat} (hB : w.heap.size ≤ B) (hB' : B < w'.heap.size)
    (hnew : ORel (bind1 σ W.next ⟨B, 0, e⟩) w'.heap ⟨B, 0, e⟩ o) (hro : ∀ cs, o ≠ .ro cs) :
    WRel (bind1 σ W.next ⟨B, 0, e⟩) (W.add o) w'.heap ∧ Ext σ W w (bind1 σ W.next ⟨B, 0, e⟩) (W.add o) w' := by
  have hfr := h.fresh
  have hs : Sub σ (bind1 σ W.next ⟨B, 0, e⟩) := bind1_sub hfr
  have hold : ∀ b, b < w.heap.size → w'.heap[b]? = w.heap[b]? := hb.block
  have hsz := hb.size
  have hne : ∀ {c : Nat}, c ≠ W.next → (W.add o).get c = W.get c := fun hc => W.get_add_ne _ (Ne.symm hc)
  have hinv : ∀ c g, bind1 σ W.next ⟨B, 0, e⟩ c = some g → (c = W.next ∧ g = ⟨B, 0, e⟩) ∨ (c ≠ W.next ∧ σ c = some g) := fun c g hc => by
    unfold bind1 at hc
    split at hc
    · rename_i hx; injection hc with hc; exact .inl ⟨hx, hc.symm⟩
    · rename_i hx; exact .inr ⟨hx, hc⟩
  refine ⟨⟨?_, ?_, ?_, ?_⟩, ⟨hs, ?_, hsz, hb.os, hb.tape, hb.output, ?_, ?_, ?_⟩⟩
  · intro c hc
    have hc' : W.next + 1 ≤ c := hc
    rw [hne (by omega)]
    exact h.free c (by omega)
  · intro c g hc
    rcases hinv c g hc with ⟨rfl, rfl⟩ | ⟨_, h2⟩
    · exact ⟨by rw [AW.add_next]; omega, hB'⟩
    · have := h.dom c g h2
      exact ⟨by rw [AW.add_next]; omega, by omega⟩
  · intro c o2 g hc hk
    rcases hinv c g hk with ⟨rfl, rfl⟩ | ⟨h1, h2⟩
    · rw [AW.get_add] at hc
      injection hc with hc
      subst hc
      exact hnew
    · rw [hne h1] at hc
      exact ((h.obj c o2 g hc h2).mono hs).same (hold _ (h.dom c g h2).2)
  · intro b1 b2 o1 o2 g1 g2 hbb h1 h2 k1 k2 hr
    rcases hinv b1 g1 k1 with ⟨rfl, rfl⟩ | ⟨x1, y1⟩
    · rcases hinv b2 g2 k2 with ⟨rfl, rfl⟩ | ⟨x2, y2⟩
      · exact absurd rfl hbb
      · have := (h.dom _ _ y2).2
        exact .inl (by simp only [ne_eq]; omega)
    · rcases hinv b2 g2 k2 with ⟨rfl, rfl⟩ | ⟨x2, y2⟩
      · have := (h.dom _ _ y1).2
        exact .inl (by simp only [ne_eq]; omega)
      · rw [hne x1] at h1
        rw [hne x2] at h2
        exact h.disj _ _ _ _ _ _ hbb h1 h2 y1 y2 hr
  · intro b cs hb
    by_cases hx : b = W.next
    · subst hx
      rw [h.free _ (Nat.le_refl _)] at hb
      cases hb
    · rw [hne hx]; exact hb
  · intro b hb _; exact hold b hb
  · intro c o2 hc hk
    have hcn : c ≠ W.next := fun e => by subst e; rw [h.free _ (Nat.le_refl _)] at hc; cases hc
    refine ⟨by rw [hne hcn]; exact hc, ?_⟩
    unfold bind1
    rw [if_neg hcn]
    exact hk
  · intro c g hk hlt
    rcases hinv c g hk with ⟨rfl, rfl⟩ | ⟨h1, h2⟩
    · exact absurd hlt (by simp only; omega)
    · exact .inl h2
theorem WRel.below {σ : Inj} {W : AW} {w w' : World} (h : WRel σ W w.heap) (hb : Below w.heap.size w w') : WRel σ W w'.heap ∧ Ext σ W w σ W w' := by
  have hsz := hb.size
  exact ⟨⟨h.free, fun b g hg => ⟨(h.dom b g hg).1, Nat.lt_of_lt_of_le (h.dom b g hg).2 hsz⟩, fun b o g hbb hg => (h.obj b o g hbb hg).same (hb.block _ (h.dom b g hg).2), h.disj⟩,
    ⟨.refl _, fun _ _ h => h, hsz, hb.os, hb.tape, hb.output, fun B hB _ => hb.block B hB, fun _ _ h k => ⟨h, k⟩, fun b g hg _ => .inl hg⟩⟩
noncomputable def keyC (F g : Nat) (T : TypeId) : Callee := fun f args W => match f with
  | .func (.func h) fs cs => (match Nat.beq h F && (fs.isEmpty && cs.isEmpty) with
    | true => (match args with
      | [.map (some r)] => some (.func (.func g) #[] #[.pointer (some ⟨W.next, 0, none⟩)], W.add (.tc T [.map (some r)]))
      | _ => none)
    | false => none)
  | _ => none
noncomputable def sdKs (es : List MapEntry) (clock : Nat) : Option (List Int) := match keysZ es with
  | some ks => (match stampZ clock es && (nodupZ ks && Nat.ble ks.length 100000) with
    | true => some ks
    | false => none)
  | none => none
noncomputable def sdAt (W : AW) (b : Nat) : Option (List Int) := match W.get b with
  | some (.tc _ [.map (some r)]) => (match W.get r with
    | some (.map es clock) => sdKs es clock
    | _ => none)
  | _ => none
noncomputable def sdC (F g : Nat) : Callee := fun f args W => match f with
  | .func (.func h) fs cs => (match Nat.beq h F && (fs.isEmpty && cs.isEmpty) with
    | true => (match args with
      | [.func (.func k) a c] => (match Nat.beq k g && a.isEmpty with
        | true => (match c.toList with
          | [.pointer (some ⟨b, 0, none⟩)] => (match sdAt W b with
            | some [] => some (.slice none 0 0, W)
            | some (x :: ks) => some (.slice (some ⟨W.next, 0, none⟩) (ks.length + 1) (BIG + 1), W.add (.cells ((srtZ (x :: ks)).map encZ)))
            | none => none)
          | _ => none)
        | false => none)
      | _ => none)
    | false => none)
  | _ => none
section
variable {P : Program} {ng : List Nat}
theorem keyC_ok {F g : Nat} {T : TypeId} {fn : Func} {body : Code} (hfn : P.funcs[F]? = some fn) (hname : (fn.name == "runtime.NumGoroutine") = false) (hb : fn.body = some body)
    (hk : ∀ (mb : Option Nat) (w : World), Calls P F #[.map mb] w fun e w' => e = .returned (.func (.func g) #[] #[.pointer (some ⟨w.heap.size, 0, none⟩)]) ∧ w' = w.alloc (.cells #[.map mb] T)) : CalleeOK P ng (keyC F g T) := by
  intro f args W v W' h σ w f' args' hW hG hf hargs
  unfold keyC at h
  split at h
  case h_2 => cases h
  rename_i f0 fs cs
  split at h
  case h_2 => cases h
  rename_i hgf
  simp only [Bool.and_eq_true, Nat.beq_eq, Array.isEmpty_iff] at hgf
  obtain ⟨rfl, rfl, rfl⟩ := hgf
  split at h
  case h_2 => cases h
  rename_i r
  injection h with h
  injection h with h1 h2
  subst h1; subst h2
  obtain ⟨fn', fs', cs', hfr, hfs, hcs, rfl⟩ := hf.func_inv
  cases hfr
  obtain rfl : fs' = #[] := by
    have h1 : fs'.toList.length = 0 := hfs.1.symm
    exact Array.toList_eq_nil_iff.1 (List.length_eq_zero_iff.1 h1)
  obtain rfl : cs' = #[] := by
    have h1 : cs'.toList.length = 0 := hcs.1.symm
    exact Array.toList_eq_nil_iff.1 (List.length_eq_zero_iff.1 h1)
  obtain ⟨v', l', rfl, hv, hl⟩ := hargs.of_cons
  obtain rfl := hl.of_nil
  obtain ⟨sr, hsr, rfl⟩ : ∃ sr, σ r = some sr ∧ v' = .map (some sr.B) := by
    cases hv with
    | map r g h => exact ⟨g, h, rfl⟩
  refine ⟨run_callFunc_enter' hfn hname hb _ w, ?_⟩
  have e1 : (#[] : Array Value) ++ [Value.map (some sr.B)].toArray ++ #[] = #[.map (some sr.B)] := by simp
  rw [e1]
  refine CallsIn.mono (show CallsIn Fence.wide 0 P f0 _ w _ from (callsIn_wide (n := 0)).2 (hk (some sr.B) w)) ?_
  rintro e w' ⟨rfl, rfl⟩
  have hfr := hW.fresh
  obtain ⟨r1, r2⟩ := hW.alloc (o := .tc T [.map (some r)]) (x := .cells #[.map (some sr.B)] T) (e := 1)
    ⟨rfl, Nat.one_pos, ⟨by show 1 ≤ maxLen; decide, fun _ => rfl⟩, #[.map (some sr.B)], by rw [Array.getElem?_push]; simp, Nat.le_refl _, rfl, fun i v hv => by
      cases i with
      | zero =>
        simp only [List.getElem?_cons_zero, Option.some.injEq] at hv
        subst hv
        exact ⟨_, rfl, .map r sr (bind1_sub hfr _ _ hsr)⟩
      | succ i => simp at hv⟩ (fun _ hx => by cases hx)
  refine ⟨_, rfl, _, ?_, r1, r2⟩
  refine .func _ _ _ _ _ _ (.func g) rfl (fun i v v' a => by simp at a) rfl fun i v v' a b => ?_
  cases i with
  | zero =>
    simp only [List.getElem?_toArray, List.getElem?_cons_zero, Option.some.injEq] at a b
    subst a; subst b
    have := VR.ptr (σ := bind1 σ W.next ⟨w.heap.size, 0, 1⟩) ⟨W.next, 0, none⟩ ⟨w.heap.size, 0, 1⟩ bind1_same rfl
    exact this
  | succ i => simp at a
theorem own_of {w : World} {B : Nat} {σ : Inj} {es : List MapEntry} {es' : Array MapEntry} {clock : Nat} {ks : List Int} {KT : TypeId} (hkt : P.underlying KT = some (.int .i64)) (hB : w.heap[B]? = some (.map es' clock)) (he : ER σ es es'.toList) (h : sdKs es clock = some ks) :
    ∃ D0 : DataW Unit, w.ownsMap P KT (fun _ => some (.nil, [])) B ks.length D0 ∧ Maps.size D0 = ks.length ∧ (intKeys D0).Perm ks ∧ ks.length ≤ 100000 := by
  unfold sdKs at h
  split at h
  case h_2 => cases h
  rename_i ks0 hks
  split at h
  case h_2 => cases h
  rename_i hst
  injection h with h
  subst h
  simp only [Bool.and_eq_true] at hst
  obtain ⟨h1, h2, h3⟩ := hst
  obtain ⟨k1, k2⟩ := keysZ_inv hks
  obtain ⟨s1, s2⟩ := stampZ_ok h1
  have hnd := nodupZ_ok h2
  have hle := Nat.le_of_ble_eq_true h3
  have hlen : es.length = ks0.length := by have := congrArg List.length k1; simpa using this
  have hlen' : es'.toList.length = ks0.length := by rw [← he.1, hlen]
  have ek : es'.toList.map (·.key) = ks0.map encZ := by
    refine List.ext_getElem (by simp [← hlen']) fun i a b => ?_
    rw [List.length_map] at a b
    have hi : i < es.length := by omega
    obtain ⟨q, -, -⟩ := he.2 i es[i] es'.toList[i] (List.getElem?_eq_getElem hi) (List.getElem?_eq_getElem (by simpa using a))
    have e1 : es[i].key = encZ ks0[i] := by
      have := congrArg (·[i]?) k1
      simpa [List.getElem?_map, List.getElem?_eq_getElem hi, List.getElem?_eq_getElem b] using this
    rw [e1] at q
    rw [List.getElem_map, List.getElem_map]
    unfold encZ at q ⊢
    exact q.int_inv
  have eb : es'.toList.map (·.born) = es.map (·.born) := by
    refine List.ext_getElem (by simp; have := he.1; simp at this; omega) fun i a b => ?_
    rw [List.length_map] at a b
    obtain ⟨-, -, q⟩ := he.2 i es[i] es'.toList[i] (List.getElem?_eq_getElem b) (List.getElem?_eq_getElem a)
    rw [List.getElem_map, List.getElem_map, q]
  have hst : Stamped es' clock := by
    refine ⟨fun x hx => ?_, by rw [eb]; exact s2, by rw [ek]; exact List.pairwise_map.2 (hnd.imp fun hne e => hne (encZ_inj e))⟩
    have hm : x.born ∈ es'.toList.map (·.born) := List.mem_map_of_mem hx
    rw [eb] at hm
    obtain ⟨y, hy, e⟩ := List.mem_map.1 hm
    rw [← e]; exact s1 y hy
  have hrd : ∀ x ∈ es'.toList, ∃ k ∈ ks0, x.key = encZ k ∧ rd (H := Unit) P KT (fun _ => some (.nil, [])) x = some (.int .i64 k, .nil) := fun x hx => by
    have hm : x.key ∈ es'.toList.map (·.key) := List.mem_map_of_mem hx
    rw [ek] at hm
    obtain ⟨k, hk, e⟩ := List.mem_map.1 hm
    refine ⟨k, hk, e.symm, ?_⟩
    have hw := k2 k hk
    obtain ⟨key, val, born⟩ := x
    simp only at e
    subst e
    refine Go.WideElems.rd_mk (yv := (.nil, [])) ?_ rfl
    refine keyOf_int_mk hkt ?_
    unfold wfZ at hw
    simp only [Bool.and_eq_true, decide_eq_true_eq] at hw
    show (decide (IntKind.i64.min ≤ k) && decide (k ≤ IntKind.i64.max)) = true
    simp only [Bool.and_eq_true, decide_eq_true_eq]
    exact hw
  have hF : Fit (H := Unit) P KT (fun _ => some (.nil, [])) es' clock := ⟨by rw [← Array.length_toList, hlen']; exact Nat.le_trans hle (by decide), hst, fun x hx => let ⟨k, _, _, e⟩ := hrd x hx; ⟨_, e⟩⟩
  have hrg : (es'.toList.map (rg (H := Unit) P KT (fun _ => some (.nil, [])))).map (fun p => intOf p.1) = ks0 := by
    have : ∀ x ∈ es'.toList, intOf (rg (H := Unit) P KT (fun _ => some (.nil, [])) x).1 = (match x.key with | .int _ k => k | _ => 0) := fun x hx => by
      obtain ⟨k, _, e1, e2⟩ := hrd x hx
      rw [Go.WideElems.rg_of e2, e1]; rfl
    rw [List.map_map, List.map_congr_left (g := fun x => (match x.key with | .int _ k => k | _ => 0)) this]
    have e2 : es'.toList.map (fun x => (match x.key with | .int _ k => k | _ => 0)) = (es'.toList.map (·.key)).map fun v => (match v with | .int _ k => k | _ => (0 : Int)) := by rw [List.map_map]; rfl
    rw [e2, ek, List.map_map]
    exact (List.map_congr_left (g := id) fun k _ => rfl).trans (List.map_id _)
  refine ⟨_, ⟨es', clock, hB, hF, by rw [← Array.length_toList, hlen']; exact Nat.le_refl _, rfl⟩, ?_, ?_, hle⟩
  · show (List.foldr DataW.insert [] _).length = _
    rw [(sorted_perm _).length_eq, List.length_map, hlen']
  · show ((List.foldr DataW.insert [] _).map fun p => intOf p.1).Perm _
    have := (sorted_perm (es'.toList.map (rg (H := Unit) P KT (fun _ => some (.nil, []))))).map (fun p => intOf p.1)
    rwa [hrg] at this
theorem sdC_ok {F g : Nat} {fn : Func} {body : Code} (hfn : P.funcs[F]? = some fn) (hname : (fn.name == "runtime.NumGoroutine") = false) (hb : fn.body = some body) {KT : TypeId} (hkt : P.underlying KT = some (.int .i64))
    (hs : ∀ (Bm b nn : Nat) (D0 : DataW Unit) (w : World), Bm < w.heap.size → w.cell? ⟨Bm, 0, none⟩ = some (.map (some b)) → w.ownsMap P KT (fun _ => some (.nil, [])) b nn D0 → Maps.size D0 ≤ maxLen → Maps.size D0 * 8 ≤ 140737488355328 →
      Calls P F #[.func (.func g) #[] #[.pointer (some ⟨Bm, 0, none⟩)]] w fun e w' => ∃ (v : Value) (ss : List Int), e = .returned v ∧ ss.Perm (intKeys D0) ∧ w'.ownsRow w.heap.size KT 1 v ss.length ((ss.mergeSort (fun x y => decide (x ≤ y))).map encZ) ∧ (v = .slice none 0 0 ↔ ss = []) ∧ Below w.heap.size w w') : CalleeOK P ng (sdC F g) := by
  intro f args W v W' h σ w f' args' hW hG hf hargs
  unfold sdC at h
  split at h
  case h_2 => cases h
  rename_i f0 fs cs
  split at h
  case h_2 => cases h
  rename_i hgf
  simp only [Bool.and_eq_true, Nat.beq_eq, Array.isEmpty_iff] at hgf
  obtain ⟨rfl, rfl, rfl⟩ := hgf
  split at h
  case h_2 => cases h
  rename_i k0 a0 c0
  split at h
  case h_2 => cases h
  rename_i hgk
  simp only [Bool.and_eq_true, Nat.beq_eq, Array.isEmpty_iff] at hgk
  obtain ⟨rfl, rfl⟩ := hgk
  split at h
  case h_2 => cases h
  rename_i b hc0
  obtain ⟨fn', fs', cs', hfr, hfs, hcs, rfl⟩ := hf.func_inv
  cases hfr
  obtain rfl : fs' = #[] := by
    have h1 : fs'.toList.length = 0 := hfs.1.symm
    exact Array.toList_eq_nil_iff.1 (List.length_eq_zero_iff.1 h1)
  obtain rfl : cs' = #[] := by
    have h1 : cs'.toList.length = 0 := hcs.1.symm
    exact Array.toList_eq_nil_iff.1 (List.length_eq_zero_iff.1 h1)
  obtain rfl : c0 = #[.pointer (some ⟨b, 0, none⟩)] := Array.toList_inj.1 hc0
  obtain ⟨v', l', rfl, hv, hl⟩ := hargs.of_cons
  obtain rfl := hl.of_nil
  obtain ⟨fn2, fs2, cs2, hfr2, hfs2, hcs2, rfl⟩ := hv.func_inv
  cases hfr2
  obtain rfl : fs2 = #[] := by
    have h1 : fs2.toList.length = 0 := hfs2.1.symm
    exact Array.toList_eq_nil_iff.1 (List.length_eq_zero_iff.1 h1)
  obtain ⟨p', l2, hcl, hp, hl2⟩ := LR.of_cons hcs2
  obtain rfl := hl2.of_nil
  obtain ⟨sb, hsb, rfl⟩ : ∃ sb, σ b = some sb ∧ p' = .pointer (some ⟨sb.B, sb.s + 0, none⟩) := by
    cases hp with
    | ptr a g h hs => exact ⟨g, h, rfl⟩
  obtain rfl : cs2 = #[.pointer (some ⟨sb.B, sb.s + 0, none⟩)] := Array.toList_inj.1 hcl
  obtain ⟨ks, hks⟩ : ∃ ks, sdAt W b = some ks := by
    cases hx : sdAt W b with
    | none => rw [hx] at h; cases h
    | some ks => exact ⟨ks, rfl⟩
  have hks0 := hks
  unfold sdAt at hks0
  split at hks0
  case h_2 => cases hks0
  rename_i T r hbox
  split at hks0
  case h_2 => cases hks0
  rename_i es clock hmap
  obtain ⟨z1, z2, z3, c, z4, z5, z6, z7⟩ := hW.obj b _ sb hbox hsb
  obtain ⟨u, u1, u2⟩ := z7 0 _ rfl
  obtain ⟨sr, hsr, rfl⟩ : ∃ sr, σ r = some sr ∧ u = .map (some sr.B) := by
    cases u2 with
    | map r g h => exact ⟨g, h, rfl⟩
  obtain ⟨-, -, es', m1, m2⟩ := hW.obj r _ sr hmap hsr
  obtain ⟨D0, o1, o2, o3, o4⟩ := own_of (P := P) hkt m1 m2 hks0
  have hcell : w.cell? ⟨sb.B, 0, none⟩ = some (.map (some sr.B)) := by
    unfold World.cell?
    simp only [z4, u1]
    simp
  refine ⟨run_callFunc_enter' hfn hname hb _ w, ?_⟩
  have e1 : (#[] : Array Value) ++ [Value.func (.func k0) #[] #[.pointer (some ⟨sb.B, sb.s + 0, none⟩)]].toArray ++ #[] = #[.func (.func k0) #[] #[.pointer (some ⟨sb.B, 0, none⟩)]] := by simp [z1]
  rw [e1]
  have h100 : (100000 : Nat) ≤ maxLen := by decide
  refine CallsIn.mono (show CallsIn Fence.wide 0 P f0 _ w _ from (callsIn_wide (n := 0)).2 (hs sb.B sr.B ks.length D0 w (hW.dom b sb hsb).2 hcell o1 (by omega) (by omega))) ?_
  rintro e w' ⟨v2, ss, rfl, p1, p2, p3, p4⟩
  have hperm := p1.trans o3
  have hsl := hperm.length_eq
  have hms : ss.mergeSort (fun x y => decide (x ≤ y)) = srtZ ks := by rw [srtZ_merge]; exact mergeSort_of_perm_i hperm
  rw [hms] at p2
  rw [hks] at h
  cases ks with
  | nil =>
    simp only [Option.some.injEq, Prod.mk.injEq] at h
    obtain ⟨rfl, rfl⟩ := h
    have hss : ss = [] := List.length_eq_zero_iff.1 hsl
    obtain ⟨r1, r2⟩ := hW.below p4
    exact ⟨_, rfl, σ, by rw [p3.2 hss]; exact .snil _ _, r1, r2⟩
  | cons x ks =>
    simp only [Option.some.injEq, Prod.mk.injEq] at h
    obtain ⟨rfl, rfl⟩ := h
    have hss : ss ≠ [] := fun e => by rw [e] at hsl; simp at hsl
    rcases p2.2 with ⟨q1, q2⟩ | ⟨gb, cap, cur, rfl, hbase, hgb, i1, i2, i3, i4⟩
    · exact absurd (p3.1 q1) hss
    have hlen : ss.length = ks.length + 1 := by rw [hsl]; rfl
    rw [hlen] at i1 i4
    have hgl : gb < w'.heap.size := (Array.getElem?_eq_some_iff.1 hgb).1
    rw [Nat.mul_one] at i3 i4
    have hzl : (srtZ (x :: ks)).length = ks.length + 1 := srtZ_len _
    obtain ⟨r1, r2⟩ := hW.newIn p4 (o := .cells ((srtZ (x :: ks)).map encZ)) (B := gb) (e := cap) hbase hgl
      ⟨cur, KT, (0, 0), hgb, fun _ => rfl, by rw [List.length_map, hzl]; show 0 + (ks.length + 1) ≤ cap; omega, by rw [i3]; exact Nat.le_refl _, fun i v hv => by
        have hi : i < ks.length + 1 := by
          have := (List.getElem?_eq_some_iff.1 hv).1
          rw [List.length_map, hzl] at this; exact this
        rw [← i4, List.getElem?_take, if_pos hi, Array.getElem?_toList] at hv
        refine ⟨v, by rw [Nat.zero_add]; exact hv, ?_⟩
        have hm : v ∈ (srtZ (x :: ks)).map encZ := by
          rw [← i4]
          exact List.mem_of_getElem? (i := i) (by rw [List.getElem?_take, if_pos hi, Array.getElem?_toList]; exact hv)
        obtain ⟨y, -, rfl⟩ := List.mem_map.1 hm
        exact .int _ _⟩ (fun _ hx => by cases hx)
    refine ⟨_, rfl, _, ?_, r1, r2⟩
    rw [hlen]
    have := VR.slice (σ := bind1 σ W.next ⟨gb, 0, cap⟩) ⟨W.next, 0, none⟩ (ks.length + 1) (BIG + 1) cap ⟨gb, 0, cap⟩ bind1_same rfl (.open_ 1 cap Nat.one_pos i1 (by show 0 + 0 + cap * 1 = cap; omega) i2)
    exact this
end
end
end Go.Eng
namespace Go.Eng
open Go Go.RowKit
section
variable [PlanTab]
noncomputable def lkp (ι : List (Nat × Nat)) (b : Nat) : Option Nat := List.rec (motive := fun _ => Option Nat) none (fun x _ ih => match Nat.beq x.1 b with
  | true => some x.2
  | false => ih) ι
theorem lkp_mem {b c : Nat} : ∀ {ι : List (Nat × Nat)}, lkp ι b = some c → (b, c) ∈ ι
  | [], h => by cases h
  | x :: ι, h => by
    have h' : (match Nat.beq x.1 b with | true => some x.2 | false => lkp ι b) = some c := h
    split at h'
    · rename_i e
      injection h' with h'
      have := Nat.eq_of_beq_eq_true e
      obtain ⟨x1, x2⟩ := x
      simp only at this h'
      subst this; subst h'
      exact List.mem_cons_self
    · exact List.mem_cons_of_mem _ (lkp_mem h')
noncomputable def adM (ι : List (Nat × Nat)) (a0 a : Addr) : Bool := (match lkp ι a0.block with
  | some b => Nat.beq b a.block
  | none => false) && (Nat.beq a0.off a.off && (a0.spot.isNone && a.spot.isNone))
noncomputable def leafM (ι : List (Nat × Nat)) (v0 v : Value) : Bool := match v0, v with
  | .slice (some a0) l c, .slice (some a) l' c' => adM ι a0 a && (Nat.beq l l' && Nat.beq c c')
  | .pointer (some a0), .pointer (some a) => adM ι a0 a
  | v0, v => scalar v0 && vs1 v0 v
noncomputable def leavesM (ι : List (Nat × Nat)) (l0 : List Value) : List Value → Bool := List.rec (motive := fun _ => List Value → Bool) (fun _ => true) (fun v0 _ ih l => match l with
  | v :: l => leafM ι v0 v && ih l
  | [] => false) l0
noncomputable def argM (ι : List (Nat × Nat)) (v0 v : Value) : Bool := match v0, v with
  | .agg c0, .agg c => Nat.beq c0.toList.length c.toList.length && leavesM ι c0.toList c.toList
  | v0, v => leafM ι v0 v
noncomputable def argsM (ι : List (Nat × Nat)) (l0 : List Value) : List Value → Bool := List.rec (motive := fun _ => List Value → Bool) (fun l => l.isEmpty) (fun v0 _ ih l => match l with
  | v :: l => argM ι v0 v && ih l
  | [] => false) l0
noncomputable def cellsO (o : Option AObj) : Option (List Value) := match o with
  | some (.cells cs) => some cs
  | some (.ro cs) => some cs
  | some (.tc _ cs) => some cs
  | _ => none
noncomputable def blkM (ι : List (Nat × Nat)) (W : AW) (x : Nat × List Value) : Bool := match lkp ι x.1 with
  | some b => (match cellsO (W.get b) with
    | some cs => leavesM ι x.2 cs
    | none => false)
  | none => false
noncomputable def leafI (ι : List (Nat × Nat)) (v0 v : Value) : List (Nat × Nat) := match v0, v with
  | .slice (some a0) _ _, .slice (some a) _ _ => (a0.block, a.block) :: ι
  | .pointer (some a0), .pointer (some a) => (a0.block, a.block) :: ι
  | _, _ => ι
noncomputable def leavesI (l0 : List Value) : List (Nat × Nat) → List Value → List (Nat × Nat) := List.rec (motive := fun _ => List (Nat × Nat) → List Value → List (Nat × Nat)) (fun ι _ => ι) (fun v0 _ ih ι l => match l with
  | v :: l => ih (leafI ι v0 v) l
  | [] => ι) l0
noncomputable def argI (ι : List (Nat × Nat)) (v0 v : Value) : List (Nat × Nat) := match v0, v with
  | .agg c0, .agg c => leavesI c0.toList ι c.toList
  | v0, v => leafI ι v0 v
noncomputable def argsI (l0 : List Value) : List (Nat × Nat) → List Value → List (Nat × Nat) := List.rec (motive := fun _ => List (Nat × Nat) → List Value → List (Nat × Nat)) (fun ι _ => ι) (fun v0 _ ih ι l => match l with
  | v :: l => ih (argI ι v0 v) l
  | [] => ι) l0
noncomputable def blksI (W : AW) (gs : List (Nat × List Value)) : List (Nat × Nat) → List (Nat × Nat) := List.rec (motive := fun _ => List (Nat × Nat) → List (Nat × Nat)) (fun ι => ι) (fun x _ ih ι => match lkp ι x.1 with
  | some b => (match cellsO (W.get b) with
    | some cs => ih (leavesI x.2 ι cs)
    | none => ι)
  | none => ι) gs
noncomputable def tryM (ng : List Nat) (gs : List (Nat × List Value)) (args0 args : List Value) (W : AW) (ι : List (Nat × Nat)) : Bool :=
  argsM ι args0 args && (gs.all (blkM ι W) && (ι.all (fun x => gs.any fun y => Nat.beq y.1 x.1) && ng.all (fun g => match lkp ι g with
    | some c => Nat.beq c g
    | none => false)))
noncomputable def findM (ng : List Nat) (gs : List (Nat × List Value)) (args : List Value) (W : AW) (ents : List (List Value × Value)) : Option (Value × AW) := List.rec (motive := fun _ => Option (Value × AW)) none (fun x _ ih =>
  match tryM ng gs x.1 args W (blksI W gs (argsI x.1 (ng.map fun g => (g, g)) args)) with
  | true => some (x.2, W)
  | false => ih) ents
noncomputable def memoM (F : Nat) (ng : List Nat) (gs : List (Nat × List Value)) (ents : List (List Value × Value)) (s : Callee) : Callee := fun f args W => match f with
  | .func (.func g) fs cs => (match Nat.beq g F && (fs.isEmpty && cs.isEmpty) with
    | true => findM ng gs args W ents
    | false => s (.func (.func g) fs cs) args W)
  | f => s f args W
noncomputable def eqLs (f : Value → Value → Bool) (l0 : List Value) : List Value → Bool := List.rec (motive := fun _ => List Value → Bool) (fun l => l.isEmpty) (fun v0 _ ih l => match l with
  | v :: l => f v0 v && ih l
  | [] => false) l0
noncomputable def eqA (r v : Value) : Bool := match r, v with
  | .agg a, .agg b => eqLs vs1 a.toList b.toList
  | r, v => vs1 r v
noncomputable def eqT (r v : Value) : Bool := match r, v with
  | .tuple a, .tuple b => eqLs eqA a.toList b.toList
  | r, v => eqA r v
noncomputable def okVal (r : Value) (x : Option (Value × AW)) : Bool := match x with
  | some (v, _) => eqT r v
  | none => false
theorem eqLs_eq {f : Value → Value → Bool} (hf : ∀ a b, f a b = true → a = b) : ∀ {l0 l : List Value}, eqLs f l0 l = true → l0 = l
  | [], l, h => by
    have h' : l.isEmpty = true := h
    exact (List.isEmpty_iff.1 h').symm
  | v0 :: l0, [], h => by cases h
  | v0 :: l0, v :: l, h => by
    have h' : (f v0 v && eqLs f l0 l) = true := h
    simp only [Bool.and_eq_true] at h'
    rw [hf _ _ h'.1, eqLs_eq hf h'.2]
theorem eqA_eq {r v : Value} (h : eqA r v = true) : r = v := by
  unfold eqA at h
  split at h
  · rw [Array.toList_inj.1 (eqLs_eq (fun _ _ => vs1_eq) h)]
  · exact vs1_eq h
theorem eqT_eq {r v : Value} (h : eqT r v = true) : r = v := by
  unfold eqT at h
  split at h
  · rw [Array.toList_inj.1 (eqLs_eq (fun _ _ => eqA_eq) h)]
  · exact eqA_eq h
theorem okVal_eq {r : Value} {x : Option (Value × AW)} (h : okVal r x = true) : ∃ W, x = some (r, W) := by
  unfold okVal at h
  split at h
  · rename_i v W
    exact ⟨W, by rw [eqT_eq h]⟩
  · cases h
noncomputable def σM (σ : Inj) (ι : List (Nat × Nat)) : Inj := fun b => (lkp ι b).bind σ
section
variable {σ : Inj} {ι : List (Nat × Nat)}
theorem σM_of {b c : Nat} (h : lkp ι b = some c) : σM σ ι b = σ c := by unfold σM; rw [h]; rfl
theorem σM_inv {b : Nat} {g : Seg} (h : σM σ ι b = some g) : ∃ c, lkp ι b = some c ∧ σ c = some g := by
  unfold σM at h
  cases hl : lkp ι b with
  | none => rw [hl] at h; cases h
  | some c => rw [hl] at h; exact ⟨c, rfl, h⟩
theorem adM_inv {a0 a : Addr} (h : adM ι a0 a = true) : lkp ι a0.block = some a.block ∧ a0.off = a.off ∧ a0.spot = none ∧ a.spot = none := by
  unfold adM at h
  simp only [Bool.and_eq_true, Option.isNone_iff_eq_none] at h
  obtain ⟨h1, h2, h3, h4⟩ := h
  refine ⟨?_, Nat.eq_of_beq_eq_true h2, h3, h4⟩
  split at h1
  · rename_i b hb
    rw [hb, Nat.eq_of_beq_eq_true h1]
  · cases h1
theorem leafM_rel {v0 v v' : Value} (h : leafM ι v0 v = true) (hv : VR σ v v') : VR (σM σ ι) v0 v' := by
  unfold leafM at h
  split at h
  · rename_i a0 l c a l' c'
    simp only [Bool.and_eq_true] at h
    obtain ⟨ha, h1, h2⟩ := h
    obtain rfl := Nat.eq_of_beq_eq_true h1
    obtain rfl := Nat.eq_of_beq_eq_true h2
    obtain ⟨e1, e2, e3, e4⟩ := adM_inv ha
    cases hv with
    | slice _ _ _ c' g hg hs hc =>
      have := VR.slice (σ := σM σ ι) a0 l c c' g ((σM_of e1).trans hg) e3 (by rw [e2]; exact hc)
      rw [e2] at this
      exact this
    | sliceE _ a' _ g hg hc => exact .sliceE a0 a' c g ((σM_of e1).trans hg) hc
  · rename_i a0 a
    obtain ⟨e1, e2, e3, e4⟩ := adM_inv h
    cases hv with
    | ptr _ g hg hs =>
      have := VR.ptr (σ := σM σ ι) a0 g ((σM_of e1).trans hg) e3
      rw [e2] at this
      exact this
  · simp only [Bool.and_eq_true] at h
    obtain ⟨h1, h2⟩ := h
    have := vs1_eq h2
    subst this
    rw [scalar_eq h1 hv]
    exact scalar_refl h1
theorem leavesM_get : ∀ {l0 l : List Value}, leavesM ι l0 l = true → l0.length ≤ l.length ∧ ∀ (i : Nat) (v0 : Value), l0[i]? = some v0 → ∃ v, l[i]? = some v ∧ leafM ι v0 v = true
  | [], l, _ => ⟨Nat.zero_le _, fun i v0 h => by simp at h⟩
  | v0 :: l0, [], h => by cases h
  | v0 :: l0, v :: l, h => by
    have h' : (leafM ι v0 v && leavesM ι l0 l) = true := h
    simp only [Bool.and_eq_true] at h'
    obtain ⟨a, b⟩ := leavesM_get h'.2
    refine ⟨Nat.succ_le_succ a, fun i u hu => ?_⟩
    cases i with
    | zero =>
      simp only [List.getElem?_cons_zero, Option.some.injEq] at hu
      subst hu
      exact ⟨v, rfl, h'.1⟩
    | succ i => exact b i u (by simpa using hu)
theorem argM_rel {v0 v v' : Value} (h : argM ι v0 v = true) (hv : VR σ v v') : VR (σM σ ι) v0 v' := by
  unfold argM at h
  split at h
  · rename_i c0 c
    simp only [Bool.and_eq_true] at h
    obtain ⟨h1, h2⟩ := h
    have e1 := Nat.eq_of_beq_eq_true h1
    obtain ⟨-, h3⟩ := leavesM_get h2
    cases hv with
    | agg _ c' k1 k2 =>
      refine .agg c0 c' (by rw [← k1, ← Array.length_toList, ← Array.length_toList, e1]) fun i u u' a b => ?_
      obtain ⟨x, hx, hl⟩ := h3 i u (by rw [Array.getElem?_toList]; exact a)
      exact leafM_rel hl (k2 i x u' (by rw [← Array.getElem?_toList]; exact hx) b)
  · exact leafM_rel h hv
theorem argsM_rel : ∀ {l0 l l' : List Value}, argsM ι l0 l = true → LR σ l l' → LR (σM σ ι) l0 l'
  | [], l, l', h, hl => by
    have h' : l.isEmpty = true := h
    obtain rfl := List.isEmpty_iff.1 h'
    obtain rfl := hl.of_nil
    exact .nil
  | v0 :: l0, [], l', h, hl => by cases h
  | v0 :: l0, v :: l, l', h, hl => by
    have h' : (argM ι v0 v && argsM ι l0 l) = true := h
    simp only [Bool.and_eq_true] at h'
    obtain ⟨v', r, rfl, hv, hr⟩ := hl.of_cons
    exact .cons (argM_rel h'.1 hv) (argsM_rel h'.2 hr)
theorem get_WG {gs : List (Nat × List Value)} {N b : Nat} {o : AObj} (h : (WG gs N).get b = some o) : ∃ x ∈ gs, x.1 = b ∧ o = .ro x.2 := by
  have h' : T.get (path b) (treeG gs) = some o := h
  rw [treeG_get] at h'
  cases hf : gs.find? (fun x => x.1 == b) with
  | none => rw [hf] at h'; cases h'
  | some x =>
    rw [hf] at h'
    injection h' with h'
    exact ⟨x, List.mem_of_find?_eq_some hf, by simpa using List.find?_some hf, h'.symm⟩
theorem WG_get {gs : List (Nat × List Value)} {N b : Nat} (h : (gs.any fun y => Nat.beq y.1 b) = true) : ∃ cs, (WG gs N).get b = some (.ro cs) := by
  obtain ⟨y, hy, e⟩ := List.any_eq_true.1 h
  have e' := Nat.eq_of_beq_eq_true e
  show ∃ cs, T.get (path b) (treeG gs) = _
  rw [treeG_get]
  cases hf : gs.find? (fun x => x.1 == b) with
  | none =>
    have := List.find?_eq_none.1 hf y hy
    simp [e'] at this
  | some x => exact ⟨x.2, rfl⟩
theorem rel_M {W : AW} {h : Array Obj} {gs : List (Nat × List Value)} {N : Nat} (hN : gs.all (fun x => Nat.blt x.1 N) = true) (hb : gs.all (blkM ι W) = true) (hι : (ι.all fun x => gs.any fun y => Nat.beq y.1 x.1) = true) (hW : WRel σ W h) : WRel (σM σ ι) (WG gs N) h where
  free b hb := by
    cases hf : (WG gs N).get b with
    | none => rfl
    | some o =>
      obtain ⟨x, hx, rfl, rfl⟩ := get_WG hf
      have := List.all_eq_true.1 hN x hx
      have : x.1 < N := by simpa [Nat.blt_eq] using this
      exact absurd hb (by show ¬ N ≤ x.1; omega)
  dom b g hg := by
    obtain ⟨c, h1, h2⟩ := σM_inv hg
    have := List.all_eq_true.1 hι _ (lkp_mem h1)
    obtain ⟨y, hy, e⟩ := List.any_eq_true.1 this
    have e' : y.1 = b := Nat.eq_of_beq_eq_true e
    have := List.all_eq_true.1 hN y hy
    have : y.1 < N := by simpa [Nat.blt_eq] using this
    exact ⟨by show b < N; omega, (hW.dom c g h2).2⟩
  obj b o g ho hg := by
    obtain ⟨x, hx, rfl, rfl⟩ := get_WG ho
    obtain ⟨c, h1, h2⟩ := σM_inv hg
    have hk := List.all_eq_true.1 hb x hx
    unfold blkM at hk
    rw [h1] at hk
    replace hk : (match cellsO (W.get c) with | some cs => leavesM ι x.2 cs | none => false) = true := hk
    cases hc : W.get c with
    | none => rw [hc] at hk; cases hk
    | some o =>
      rw [hc] at hk
      have hr := hW.obj c o g hc h2
      cases o with
      | cells cs =>
        obtain ⟨l1, l2⟩ := leavesM_get (show leavesM ι x.2 cs = true from hk)
        obtain ⟨d, t, fr, r1, _, r2, r3, r4⟩ := hr
        exact ⟨d, t, fr, r1, by omega, fun i v0 hv0 => by
          obtain ⟨v, hv, hl⟩ := l2 i v0 hv0
          obtain ⟨v', a, b⟩ := r4 i v hv
          exact ⟨v', a, leafM_rel hl b⟩⟩
      | ro cs =>
        obtain ⟨l1, l2⟩ := leavesM_get (show leavesM ι x.2 cs = true from hk)
        obtain ⟨d, t, fr, r1, r2, r4⟩ := hr
        exact ⟨d, t, fr, r1, by omega, fun i v0 hv0 => by
          obtain ⟨v, hv, hl⟩ := l2 i v0 hv0
          obtain ⟨v', a, b⟩ := r4 i v hv
          exact ⟨v', a, leafM_rel hl b⟩⟩
      | tc t cs =>
        obtain ⟨l1, l2⟩ := leavesM_get (show leavesM ι x.2 cs = true from hk)
        obtain ⟨z1, _, _, d, r1, r2, r3, r4⟩ := hr
        exact ⟨d, t, (0, 0), r1, by omega, fun i v0 hv0 => by
          obtain ⟨v, hv, hl⟩ := l2 i v0 hv0
          obtain ⟨v', a, b⟩ := r4 i v hv
          exact ⟨v', by rw [z1, Nat.zero_add]; exact a, leafM_rel hl b⟩⟩
      | _ => cases hk
  disj b1 b2 o1 o2 g1 g2 _ h1 h2 _ _ hr := by
    obtain ⟨x, _, _, rfl⟩ := get_WG h1
    obtain ⟨y, _, _, rfl⟩ := get_WG h2
    cases hr
theorem mut_M {gs : List (Nat × List Value)} {N : Nat} (hι : (ι.all fun x => gs.any fun y => Nat.beq y.1 x.1) = true) {B : Nat} : ¬ Mut (σM σ ι) (WG gs N) B := by
  rintro ⟨b, g, hg, _, hro⟩
  obtain ⟨c, h1, _⟩ := σM_inv hg
  obtain ⟨cs, h2⟩ := WG_get (N := N) (List.all_eq_true.1 hι _ (lkp_mem h1))
  exact hro cs h2
end
theorem findM_inv {ng : List Nat} {gs : List (Nat × List Value)} {args : List Value} {W W' : AW} {v : Value} : ∀ {ents : List (List Value × Value)}, findM ng gs args W ents = some (v, W') → W' = W ∧ ∃ args0 ι, (args0, v) ∈ ents ∧ tryM ng gs args0 args W ι = true
  | [], h => by cases h
  | x :: ents, h => by
    have h' : (match tryM ng gs x.1 args W (blksI W gs (argsI x.1 (ng.map fun g => (g, g)) args)) with | true => some (x.2, W) | false => findM ng gs args W ents) = some (v, W') := h
    split at h'
    · rename_i e
      injection h' with h'
      injection h' with h1 h2
      exact ⟨h2.symm, x.1, _, by subst h1; exact List.mem_cons_self, e⟩
    · obtain ⟨a, args0, ι, b, c⟩ := findM_inv h'
      exact ⟨a, args0, ι, List.mem_cons_of_mem _ b, c⟩
theorem memoM_ok {P : Program} (hm : P.follows .mixedOrders = true) {bad : List Nat} (hP : funsOk PlanTab.ng bad 0 P.funcs.toList = true) {spec s : Callee} (hspec : CalleeOK P PlanTab.ng spec) (hs : CalleeOK P PlanTab.ng s) {F n N : Nat} {gs : List (Nat × List Value)}
    (hN : gs.all (fun x => Nat.blt x.1 N) = true) {ents : List (List Value × Value)}
    (hall : ∀ x ∈ ents, plain x.2 = true ∧ okVal x.2 (aCallF P bad spec n (.func (.func F) #[] #[]) x.1 (WG gs N)) = true) : CalleeOK P PlanTab.ng (memoM F PlanTab.ng gs ents s) := by
  intro f args W v W' h σ w f' args' hW hG hf hargs
  unfold memoM at h
  split at h
  case h_2 => exact hs _ _ _ _ _ h σ w f' args' hW hG hf hargs
  rename_i g fs cs
  split at h
  case h_2 => exact hs _ _ _ _ _ h σ w f' args' hW hG hf hargs
  rename_i hgf
  simp only [Bool.and_eq_true, Nat.beq_eq, Array.isEmpty_iff] at hgf
  obtain ⟨rfl, rfl, rfl⟩ := hgf
  obtain ⟨rfl, args0, ι, hmem, ht⟩ := findM_inv h
  unfold tryM at ht
  simp only [Bool.and_eq_true] at ht
  obtain ⟨t1, t2, t3, t4⟩ := ht
  obtain ⟨fn', fs', cs', hfr, hfs, hcs, rfl⟩ := hf.func_inv
  cases hfr
  obtain rfl : fs' = #[] := by
    have h1 : fs'.toList.length = 0 := hfs.1.symm
    exact Array.toList_eq_nil_iff.1 (List.length_eq_zero_iff.1 h1)
  obtain rfl : cs' = #[] := by
    have h1 : cs'.toList.length = 0 := hcs.1.symm
    exact Array.toList_eq_nil_iff.1 (List.length_eq_zero_iff.1 h1)
  obtain ⟨hp, hk⟩ := hall _ hmem
  obtain ⟨W1, hr⟩ := okVal_eq hk
  have hG' : Glob (σM σ ι) PlanTab.ng := fun x hx => by
    obtain ⟨e, he⟩ := hG x hx
    have := List.all_eq_true.1 t4 x hx
    split at this
    · rename_i c hc
      have := Nat.eq_of_beq_eq_true this
      subst this
      exact ⟨e, (σM_of hc).trans he⟩
    · cases this
  have hc := callee_ok hm rfl hP hspec n _ _ _ _ _ hr (σM σ ι) w (.func (.func g) #[] #[]) args' (rel_M hN t2 t3 hW) hG'
    (.func _ _ _ _ _ _ (.func g) rfl (fun i v v' x => by simp at x) rfl (fun i v v' x => by simp at x)) (argsM_rel t1 hargs)
  obtain ⟨h1, hc⟩ := hc
  refine ⟨h1, CallsIn.mono hc ?_⟩
  rintro e w' ⟨u, rfl, σ', hu, _, he⟩
  have hq : Quiet w w' := ⟨he.os, he.tape, he.output, he.size, fun B hB => he.keep B hB (mut_M t3)⟩
  rw [plain_eq hp hu]
  exact ⟨_, rfl, σ, plain_refl hp, hq.rel hW, hq.ext σ W'⟩
end
section
variable [PlanTab]
noncomputable def turnB (ι : List (Nat × Nat)) (N nx b : Nat) : Nat := match Nat.ble N b with
  | true => nx + (b - N)
  | false => (match lkp ι b with
    | some c => c
    | none => 0)
noncomputable def shL (tb : Nat → Nat) (v : Value) : Value := match v with
  | .slice (some a) l c => .slice (some ⟨tb a.block, a.off, none⟩) l c
  | .pointer (some a) => .pointer (some ⟨tb a.block, a.off, none⟩)
  | v => v
noncomputable def mapL (f : Value → Value) (l : List Value) : List Value := List.rec (motive := fun _ => List Value) [] (fun v _ ih => f v :: ih) l
noncomputable def shA (tb : Nat → Nat) (v : Value) : Value := match v with
  | .agg c => .agg (mapL (shL tb) c.toList).toArray
  | v => shL tb v
noncomputable def shT (tb : Nat → Nat) (v : Value) : Value := match v with
  | .tuple c => .tuple (mapL (shA tb) c.toList).toArray
  | v => shA tb v
noncomputable def addsM (tb : Nat → Nat) (new : List (Nat × List Value)) : AW → AW := List.rec (motive := fun _ => AW → AW) (fun W => W) (fun x _ ih W => ih (W.add (.cells (mapL (shL tb) x.2)))) new
noncomputable def numM (new : List (Nat × List Value)) : Nat → Bool := List.rec (motive := fun _ => Nat → Bool) (fun _ => true) (fun x _ ih N => Nat.beq x.1 N && ih (N + 1)) new
noncomputable def resM (κ : List (Nat × Nat)) (r v : Value) : Bool := match r, v with
  | .tuple a, .tuple b => argsM κ a.toList b.toList
  | r, v => argM κ r v
noncomputable def resI (κ : List (Nat × Nat)) (r v : Value) : List (Nat × Nat) := match r, v with
  | .tuple a, .tuple b => argsI a.toList κ b.toList
  | r, v => argI κ r v
noncomputable def cellsC (o : Option AObj) : Option (List Value) := match o with
  | some (.cells cs) => some cs
  | some (.tc _ cs) => some cs
  | _ => none
noncomputable def blkC (κ : List (Nat × Nat)) (W : AW) (x : Nat × List Value) : Bool := match lkp κ x.1 with
  | some b => (match cellsC (W.get b) with
    | some cs => leavesM κ x.2 cs
    | none => false)
  | none => false
noncomputable def pairsM (gs : List (Nat × List Value)) (N m : Nat) (κ : List (Nat × Nat)) : Bool := κ.all fun x => match Nat.ble N x.1 with
  | true => Nat.ble N x.2 && (Nat.blt x.1 (N + m) && κ.all (fun y => !(Nat.beq x.2 y.2) || Nat.beq x.1 y.1))
  | false => Nat.beq x.1 x.2 && gs.any fun y => Nat.beq y.1 x.1
noncomputable def okMR (gs : List (Nat × List Value)) (N : Nat) (r : Value) (new : List (Nat × List Value)) (v : Value) (W1 : AW) (κ : List (Nat × Nat)) : Bool :=
  resM κ r v && (new.all (blkC κ W1) && (pairsM gs N new.length κ && numM new N))
noncomputable def okRes (gs : List (Nat × List Value)) (N : Nat) (r : Value) (new : List (Nat × List Value)) (x : Option (Value × AW)) : Bool := match x with
  | some (v, W1) => okMR gs N r new v W1 (blksI W1 new (resI (gs.map fun x => (x.1, x.1)) r v))
  | none => false
theorem okRes_inv {gs : List (Nat × List Value)} {N : Nat} {r : Value} {new : List (Nat × List Value)} {x : Option (Value × AW)} (h : okRes gs N r new x = true) : ∃ v W1 κ, x = some (v, W1) ∧ okMR gs N r new v W1 κ = true := by
  unfold okRes at h
  split at h
  · rename_i v W1
    exact ⟨v, W1, _, rfl, h⟩
  · cases h
noncomputable def findR (ng : List Nat) (gs : List (Nat × List Value)) (N : Nat) (args : List Value) (W : AW) (ents : List (List Value × Value × List (Nat × List Value))) : Option (Value × AW) := List.rec (motive := fun _ => Option (Value × AW)) none (fun x _ ih =>
  match tryM ng gs x.1 args W (blksI W gs (argsI x.1 (ng.map fun g => (g, g)) args)) with
  | true => some (shT (turnB (blksI W gs (argsI x.1 (ng.map fun g => (g, g)) args)) N W.next) x.2.1, addsM (turnB (blksI W gs (argsI x.1 (ng.map fun g => (g, g)) args)) N W.next) x.2.2 W)
  | false => ih) ents
noncomputable def memoR (F : Nat) (ng : List Nat) (gs : List (Nat × List Value)) (N : Nat) (ents : List (List Value × Value × List (Nat × List Value))) (s : Callee) : Callee := fun f args W => match f with
  | .func (.func g) fs cs => (match Nat.beq g F && (fs.isEmpty && cs.isEmpty) with
    | true => findR ng gs N args W ents
    | false => s (.func (.func g) fs cs) args W)
  | f => s f args W
theorem findR_inv {ng : List Nat} {gs : List (Nat × List Value)} {N : Nat} {args : List Value} {W W' : AW} {v : Value} : ∀ {ents : List (List Value × Value × List (Nat × List Value))}, findR ng gs N args W ents = some (v, W') → ∃ args0 r new ι, (args0, r, new) ∈ ents ∧ tryM ng gs args0 args W ι = true ∧ v = shT (turnB ι N W.next) r ∧ W' = addsM (turnB ι N W.next) new W
  | [], h => by cases h
  | x :: ents, h => by
    have h' : (match tryM ng gs x.1 args W (blksI W gs (argsI x.1 (ng.map fun g => (g, g)) args)) with
      | true => some (shT (turnB (blksI W gs (argsI x.1 (ng.map fun g => (g, g)) args)) N W.next) x.2.1, addsM (turnB (blksI W gs (argsI x.1 (ng.map fun g => (g, g)) args)) N W.next) x.2.2 W)
      | false => findR ng gs N args W ents) = some (v, W') := h
    split at h'
    · rename_i e
      injection h' with h'
      injection h' with h1 h2
      exact ⟨x.1, x.2.1, x.2.2, _, List.mem_cons_self, e, h1.symm, h2.symm⟩
    · obtain ⟨args0, r, new, ι, a, b⟩ := findR_inv h'
      exact ⟨args0, r, new, ι, List.mem_cons_of_mem _ a, b⟩
theorem mapL_get {f : Value → Value} : ∀ {l : List Value} (i : Nat), (mapL f l)[i]? = (l[i]?).map f
  | [], i => by show ([] : List Value)[i]? = _; simp
  | v :: l, 0 => rfl
  | v :: l, i + 1 => by show (f v :: mapL f l)[i + 1]? = _; simpa using mapL_get (l := l) i
theorem mapL_len {f : Value → Value} : ∀ {l : List Value}, (mapL f l).length = l.length
  | [] => rfl
  | v :: l => by show (f v :: mapL f l).length = _; rw [List.length_cons, List.length_cons, mapL_len]
theorem numM_get : ∀ {new : List (Nat × List Value)} {N : Nat}, numM new N = true → ∀ (i : Nat) x, new[i]? = some x → x.1 = N + i
  | [], N, _, i, x, h => by simp at h
  | y :: new, N, h, i, x, hx => by
    have h' : (Nat.beq y.1 N && numM new (N + 1)) = true := h
    simp only [Bool.and_eq_true] at h'
    cases i with
    | zero =>
      simp only [List.getElem?_cons_zero, Option.some.injEq] at hx
      subst hx
      exact Nat.eq_of_beq_eq_true h'.1
    | succ i =>
      have := numM_get h'.2 i x (by simpa using hx)
      omega
section
variable {tb : Nat → Nat}
theorem adds_next : ∀ {new : List (Nat × List Value)} {W : AW}, (addsM tb new W).next = W.next + new.length
  | [], W => rfl
  | x :: new, W => by
    show (addsM tb new (W.add _)).next = _
    rw [adds_next, AW.add_next, List.length_cons]; omega
theorem adds_lt : ∀ {new : List (Nat × List Value)} {W : AW} {b : Nat}, b < W.next → (addsM tb new W).get b = W.get b
  | [], W, b, h => rfl
  | x :: new, W, b, h => by
    show (addsM tb new (W.add _)).get b = _
    rw [adds_lt (by rw [AW.add_next]; omega), AW.get_add_ne _ _ (by omega)]
theorem adds_new : ∀ {new : List (Nat × List Value)} {W : AW} (i : Nat), i < new.length → (addsM tb new W).get (W.next + i) = (new[i]?).map fun x => .cells (mapL (shL tb) x.2)
  | [], W, i, h => by simp at h
  | x :: new, W, 0, h => by
    show (addsM tb new (W.add _)).get (W.next + 0) = _
    rw [adds_lt (by rw [AW.add_next]; omega), Nat.add_zero, AW.get_add]; rfl
  | x :: new, W, i + 1, h => by
    have h2 : i < new.length := by simpa using h
    have := adds_new (new := new) (W := W.add (.cells (mapL (shL tb) x.2))) i h2
    rw [AW.add_next] at this
    show (addsM tb new (W.add _)).get (W.next + (i + 1)) = _
    rw [show W.next + (i + 1) = W.next + 1 + i by omega, this]; simp
theorem adds_free : ∀ {new : List (Nat × List Value)} {W : AW} {b : Nat}, (∀ b, W.next ≤ b → W.get b = none) → W.next + new.length ≤ b → (addsM tb new W).get b = none
  | [], W, b, hf, h => hf b h
  | x :: new, W, b, hf, h => by
    show (addsM tb new (W.add _)).get b = _
    rw [List.length_cons] at h
    refine adds_free (fun c hc => ?_) (by rw [AW.add_next]; omega)
    rw [AW.add_next] at hc
    rw [AW.get_add_ne _ _ (by omega)]
    exact hf c (by omega)
end
section
variable {σ τ : Inj} {κ : List (Nat × Nat)} {tb : Nat → Nat}
theorem leafM_sh (hτ : ∀ b c g, lkp κ b = some c → σ c = some g → τ (tb b) = some g) {v0 v v' : Value} (h : leafM κ v0 v = true) (hv : VR σ v v') : VR τ (shL tb v0) v' := by
  unfold leafM at h
  split at h
  · rename_i a0 l c a l' c'
    simp only [Bool.and_eq_true] at h
    obtain ⟨ha, h1, h2⟩ := h
    obtain rfl := Nat.eq_of_beq_eq_true h1
    obtain rfl := Nat.eq_of_beq_eq_true h2
    obtain ⟨e1, e2, e3, e4⟩ := adM_inv ha
    cases hv with
    | slice _ _ _ c' g hg hs hc =>
      have := VR.slice (σ := τ) ⟨tb a0.block, a0.off, none⟩ l c c' g (hτ _ _ _ e1 hg) rfl (by rw [e2]; exact hc)
      simp only [e2] at this
      unfold shL
      simp only [e2]
      exact this
    | sliceE _ a' _ g hg hc => exact .sliceE ⟨tb a0.block, a0.off, none⟩ a' c g (hτ _ _ _ e1 hg) hc
  · rename_i a0 a
    obtain ⟨e1, e2, e3, e4⟩ := adM_inv h
    cases hv with
    | ptr _ g hg hs =>
      have := VR.ptr (σ := τ) ⟨tb a0.block, a0.off, none⟩ g (hτ _ _ _ e1 hg) rfl
      simp only [e2] at this
      unfold shL
      simp only [e2]
      exact this
  · simp only [Bool.and_eq_true] at h
    obtain ⟨h1, h2⟩ := h
    have := vs1_eq h2
    subst this
    rw [scalar_eq h1 hv]
    have e : shL tb v0 = v0 := by
      unfold shL
      split
      · cases h1
      · cases h1
      · rfl
    rw [e]
    exact scalar_refl h1
theorem argM_sh (hτ : ∀ b c g, lkp κ b = some c → σ c = some g → τ (tb b) = some g) {v0 v v' : Value} (h : argM κ v0 v = true) (hv : VR σ v v') : VR τ (shA tb v0) v' := by
  unfold argM at h
  split at h
  · rename_i c0 c
    simp only [Bool.and_eq_true] at h
    obtain ⟨h1, h2⟩ := h
    have e1 := Nat.eq_of_beq_eq_true h1
    obtain ⟨-, h3⟩ := leavesM_get h2
    cases hv with
    | agg _ c' k1 k2 =>
      refine .agg _ c' (by rw [← k1, ← Array.length_toList, ← Array.length_toList, ← e1]; exact mapL_len) fun i u u' a b => ?_
      rw [List.getElem?_toArray, mapL_get] at a
      obtain ⟨u0, a0, rfl⟩ := Option.map_eq_some_iff.1 a
      obtain ⟨x, hx, hl⟩ := h3 i u0 a0
      exact leafM_sh hτ hl (k2 i x u' (by rw [← Array.getElem?_toList]; exact hx) b)
  · rename_i hne
    have e : shA tb v0 = shL tb v0 := by
      unfold shA
      split
      · rename_i c
        unfold leafM at h
        split at h
        · rename_i q; cases q
        · rename_i q; cases q
        · simp only [Bool.and_eq_true] at h
          obtain ⟨h1, h2⟩ := h
          cases h1
      · rfl
    rw [e]
    exact leafM_sh hτ h hv
theorem argsM_sh (hτ : ∀ b c g, lkp κ b = some c → σ c = some g → τ (tb b) = some g) : ∀ {l0 l l' : List Value}, argsM κ l0 l = true → LR σ l l' → LR τ (mapL (shA tb) l0) l'
  | [], l, l', h, hl => by
    have h' : l.isEmpty = true := h
    obtain rfl := List.isEmpty_iff.1 h'
    obtain rfl := hl.of_nil
    exact .nil
  | v0 :: l0, [], l', h, hl => by cases h
  | v0 :: l0, v :: l, l', h, hl => by
    have h' : (argM κ v0 v && argsM κ l0 l) = true := h
    simp only [Bool.and_eq_true] at h'
    obtain ⟨v', r, rfl, hv, hr⟩ := hl.of_cons
    exact .cons (argM_sh hτ h'.1 hv) (argsM_sh hτ h'.2 hr)
theorem argM_tuple {a : Array Value} {v : Value} (h : argM κ (.tuple a) v = true) : False := by
  cases v with
  | slice x l c => cases x <;> cases h
  | pointer x => cases x <;> cases h
  | _ => cases h
theorem resM_sh (hτ : ∀ b c g, lkp κ b = some c → σ c = some g → τ (tb b) = some g) {r v v' : Value} (h : resM κ r v = true) (hv : VR σ v v') : VR τ (shT tb r) v' := by
  unfold resM at h
  split at h
  · rename_i a b
    cases hv with
    | tuple _ c k1 k2 =>
      exact VR.tuple' (show LR τ (mapL (shA tb) a.toList) c.toList from argsM_sh hτ h (LR.of_arr k1 k2))
  · have e : shT tb r = shA tb r := by
      unfold shT
      split
      · exact (argM_tuple h).elim
      · rfl
    rw [e]
    exact argM_sh hτ h hv
end
theorem pairsM_inv {gs : List (Nat × List Value)} {N m : Nat} {κ : List (Nat × Nat)} (h : pairsM gs N m κ = true) {b c : Nat} (hb : lkp κ b = some c) :
    (b < N ∧ c = b ∧ (gs.any fun y => Nat.beq y.1 b) = true) ∨ (N ≤ b ∧ b < N + m ∧ N ≤ c ∧ ∀ d, lkp κ d = some c → d = b) := by
  have h1 := List.all_eq_true.1 h _ (lkp_mem hb)
  split at h1
  · rename_i e
    have e' : N ≤ b := Nat.le_of_ble_eq_true e
    simp only [Bool.and_eq_true] at h1
    obtain ⟨k1, k2, k3⟩ := h1
    refine .inr ⟨e', by have : b < N + m := by simpa [Nat.blt_eq] using k2
                        exact this, Nat.le_of_ble_eq_true k1, fun d hd => ?_⟩
    have k4 := List.all_eq_true.1 k3 _ (lkp_mem hd)
    simp only [Bool.or_eq_true, Bool.not_eq_true'] at k4
    rcases k4 with k4 | k4
    · exact absurd k4 (by simp)
    · exact (Nat.eq_of_beq_eq_true k4).symm
  · rename_i e
    have e' : ¬ N ≤ b := fun hh => by rw [Nat.ble_eq_true_of_le hh] at e; cases e
    simp only [Bool.and_eq_true] at h1
    exact .inl ⟨by omega, (Nat.eq_of_beq_eq_true h1.1).symm, h1.2⟩
noncomputable def σR (σ σ' : Inj) (κ : List (Nat × Nat)) (N nx m : Nat) : Inj := fun b => if b < nx then σ b else if b < nx + m then (lkp κ (N + (b - nx))).bind σ' else none
theorem σR_old {σ σ' : Inj} {κ : List (Nat × Nat)} {N nx m b : Nat} (h : b < nx) : σR σ σ' κ N nx m b = σ b := by unfold σR; rw [if_pos h]
theorem σR_inv {σ σ' : Inj} {κ : List (Nat × Nat)} {N nx m b : Nat} {g : Seg} (h : σR σ σ' κ N nx m b = some g) : (b < nx ∧ σ b = some g) ∨ (∃ i c, b = nx + i ∧ i < m ∧ lkp κ (N + i) = some c ∧ σ' c = some g) := by
  unfold σR at h
  split at h
  · rename_i hb; exact .inl ⟨hb, h⟩
  · rename_i hb
    split at h
    · rename_i hm
      cases hl : lkp κ (N + (b - nx)) with
      | none => rw [hl] at h; cases h
      | some c => rw [hl] at h; exact .inr ⟨b - nx, c, by omega, by omega, hl, h⟩
    · cases h
theorem memoR_ok {P : Program} (hm : P.follows .mixedOrders = true) {bad : List Nat} (hP : funsOk PlanTab.ng bad 0 P.funcs.toList = true) {spec s : Callee} (hspec : CalleeOK P PlanTab.ng spec) (hs : CalleeOK P PlanTab.ng s) {F n N : Nat} {gs : List (Nat × List Value)}
    (hN : gs.all (fun x => Nat.blt x.1 N) = true) {ents : List (List Value × Value × List (Nat × List Value))}
    (hall : ∀ x ∈ ents, okRes gs N x.2.1 x.2.2 (aCallF P bad spec n (.func (.func F) #[] #[]) x.1 (WG gs N)) = true) : CalleeOK P PlanTab.ng (memoR F PlanTab.ng gs N ents s) := by
  intro f args W v W' h σ w f' args' hW hG hf hargs
  unfold memoR at h
  split at h
  case h_2 => exact hs _ _ _ _ _ h σ w f' args' hW hG hf hargs
  rename_i g fs cs
  split at h
  case h_2 => exact hs _ _ _ _ _ h σ w f' args' hW hG hf hargs
  rename_i hgf
  simp only [Bool.and_eq_true, Nat.beq_eq, Array.isEmpty_iff] at hgf
  obtain ⟨rfl, rfl, rfl⟩ := hgf
  obtain ⟨args0, r, new, ι, hmem, ht, rfl, rfl⟩ := findR_inv h
  unfold tryM at ht
  simp only [Bool.and_eq_true] at ht
  obtain ⟨t1, t2, t3, t4⟩ := ht
  obtain ⟨fn', fs', cs', hfr, hfs, hcs, rfl⟩ := hf.func_inv
  cases hfr
  obtain rfl : fs' = #[] := by
    have h1 : fs'.toList.length = 0 := hfs.1.symm
    exact Array.toList_eq_nil_iff.1 (List.length_eq_zero_iff.1 h1)
  obtain rfl : cs' = #[] := by
    have h1 : cs'.toList.length = 0 := hcs.1.symm
    exact Array.toList_eq_nil_iff.1 (List.length_eq_zero_iff.1 h1)
  obtain ⟨v1, W1, κ, hr, hk⟩ := okRes_inv (hall _ hmem)
  unfold okMR at hk
  simp only [Bool.and_eq_true] at hk
  obtain ⟨q1, q2, q3, q4⟩ := hk
  have hG' : Glob (σM σ ι) PlanTab.ng := fun x hx => by
    obtain ⟨e, he⟩ := hG x hx
    have := List.all_eq_true.1 t4 x hx
    split at this
    · rename_i c hc
      have := Nat.eq_of_beq_eq_true this
      subst this
      exact ⟨e, (σM_of hc).trans he⟩
    · cases this
  have hc := callee_ok hm rfl hP hspec n _ _ _ _ _ hr (σM σ ι) w (.func (.func g) #[] #[]) args' (rel_M hN t2 t3 hW) hG'
    (.func _ _ _ _ _ _ (.func g) rfl (fun i v v' x => by simp at x) rfl (fun i v v' x => by simp at x)) (argsM_rel t1 hargs)
  obtain ⟨h1, hc⟩ := hc
  refine ⟨h1, CallsIn.mono hc ?_⟩
  rintro e w' ⟨u, rfl, σ', hu, hW1, he⟩
  have keep : ∀ B, B < w.heap.size → w'.heap[B]? = w.heap[B]? := fun B hB => he.keep B hB (mut_M t3)
  have far : ∀ {b c : Nat} {k : Seg}, lkp κ b = some c → N ≤ b → σ' c = some k → w.heap.size ≤ k.B := fun {b c k} hb hNb hk => by
    refine Nat.le_of_not_lt fun hlt => ?_
    rcases he.grow c k hk hlt with h2 | h2
    · rcases pairsM_inv q3 hb with ⟨z, _⟩ | ⟨_, _, z, _⟩
      · omega
      obtain ⟨d, h3, _⟩ := σM_inv h2
      obtain ⟨y, hy, e⟩ := List.any_eq_true.1 (List.all_eq_true.1 t3 _ (lkp_mem h3))
      have e' : y.1 = c := Nat.eq_of_beq_eq_true e
      have := List.all_eq_true.1 hN y hy
      have : y.1 < N := by simpa [Nat.blt_eq] using this
      omega
    · exact mut_M t3 h2
  have hτ : ∀ b c k, lkp κ b = some c → σ' c = some k → σR σ σ' κ N W.next new.length (turnB ι N W.next b) = some k := fun b c k hb hk => by
    rcases pairsM_inv q3 hb with ⟨z1, rfl, z3⟩ | ⟨z1, z2, _, _⟩
    · obtain ⟨ds, hd⟩ := WG_get (N := N) z3
      cases hx : σM σ ι c with
      | none => rw [(he.ghost c _ hd hx).2] at hk; cases hk
      | some k2 =>
        have := he.sub _ _ hx
        rw [hk] at this
        injection this with this
        subst this
        obtain ⟨d, h3, h4⟩ := σM_inv hx
        have e1 : turnB ι N W.next c = d := by
          unfold turnB
          have : Nat.ble N c = false := by
            cases hb2 : Nat.ble N c with
            | false => rfl
            | true => exact absurd (Nat.le_of_ble_eq_true hb2) (by omega)
          rw [this]
          simp only [h3]
        rw [e1, σR_old (hW.dom d k h4).1]
        exact h4
    · have e1 : turnB ι N W.next b = W.next + (b - N) := by
        unfold turnB
        rw [Nat.ble_eq_true_of_le z1]
      rw [e1]
      unfold σR
      rw [if_neg (by omega), if_pos (by omega), show N + (W.next + (b - N) - W.next) = b by omega, hb]
      exact hk
  have hsub : Sub σ (σR σ σ' κ N W.next new.length) := fun b k hb => by rw [σR_old (hW.dom b k hb).1]; exact hb
  refine ⟨_, rfl, σR σ σ' κ N W.next new.length, resM_sh hτ q1 hu, ⟨?_, ?_, ?_, ?_⟩, ⟨hsub, ?_, he.size, he.os, he.tape, he.output, fun B hB _ => keep B hB, ?_, ?_⟩⟩
  · intro b hb
    rw [adds_next] at hb
    exact adds_free hW.free hb
  · intro b k hb
    rw [adds_next]
    rcases σR_inv hb with ⟨z1, z2⟩ | ⟨i, c, rfl, z2, z3, z4⟩
    · exact ⟨by omega, Nat.lt_of_lt_of_le (hW.dom b k z2).2 he.size⟩
    · exact ⟨by omega, (hW1.dom c k z4).2⟩
  · intro b o k ho hb
    rcases σR_inv hb with ⟨z1, z2⟩ | ⟨i, c, rfl, z2, z3, z4⟩
    · rw [adds_lt z1] at ho
      exact ((hW.obj b o k ho z2).mono hsub).same (keep _ (hW.dom b k z2).2)
    · rw [adds_new i z2] at ho
      obtain ⟨x, hx, rfl⟩ := Option.map_eq_some_iff.1 ho
      have hx1 := numM_get q4 i x hx
      have hk := List.all_eq_true.1 q2 x (List.mem_of_getElem? hx)
      unfold blkC at hk
      rw [hx1, z3] at hk
      replace hk : (match cellsC (W1.get c) with | some cs => leavesM κ x.2 cs | none => false) = true := hk
      cases hc1 : W1.get c with
      | none => rw [hc1] at hk; cases hk
      | some o =>
        rw [hc1] at hk
        have hr2 := hW1.obj c o k hc1 z4
        cases o with
        | cells cs =>
          obtain ⟨l1, l2⟩ := leavesM_get (show leavesM κ x.2 cs = true from hk)
          obtain ⟨d, t, fr, r1, r0, r2, r3, r4⟩ := hr2
          refine ⟨d, t, fr, r1, r0, by rw [mapL_len]; omega, r3, fun j y hy => ?_⟩
          rw [mapL_get] at hy
          obtain ⟨y0, hy0, rfl⟩ := Option.map_eq_some_iff.1 hy
          obtain ⟨v, hv, hl⟩ := l2 j y0 hy0
          obtain ⟨v', a, b⟩ := r4 j v hv
          exact ⟨v', a, leafM_sh hτ hl b⟩
        | tc t cs =>
          obtain ⟨l1, l2⟩ := leavesM_get (show leavesM κ x.2 cs = true from hk)
          obtain ⟨z1, _, _, d, r1, r2, r3, r4⟩ := hr2
          refine ⟨d, t, (0, 0), r1, fun _ => rfl, by rw [mapL_len]; omega, by omega, fun j y hy => ?_⟩
          rw [mapL_get] at hy
          obtain ⟨y0, hy0, rfl⟩ := Option.map_eq_some_iff.1 hy
          obtain ⟨v, hv, hl⟩ := l2 j y0 hy0
          obtain ⟨v', a, b⟩ := r4 j v hv
          exact ⟨v', by rw [z1, Nat.zero_add]; exact a, leafM_sh hτ hl b⟩
        | _ => cases hk
  · intro b1 b2 o1 o2 g1 g2 hbb h1 h2 k1 k2 hr2
    rcases σR_inv k1 with ⟨x1, y1⟩ | ⟨i1, c1, rfl, x1, y1, z1⟩
    · rw [adds_lt x1] at h1
      rcases σR_inv k2 with ⟨x2, y2⟩ | ⟨i2, c2, rfl, x2, y2, z2⟩
      · rw [adds_lt x2] at h2
        exact hW.disj _ _ _ _ _ _ hbb h1 h2 y1 y2 hr2
      · have := (hW.dom _ _ y1).2
        have := far y2 (by omega) z2
        exact .inl (by omega)
    · rcases σR_inv k2 with ⟨x2, y2⟩ | ⟨i2, c2, rfl, x2, y2, z2⟩
      · have := (hW.dom _ _ y2).2
        have := far y1 (by omega) z1
        exact .inl (by omega)
      · have hcc : c1 ≠ c2 := fun e => by
          subst e
          rcases pairsM_inv q3 y2 with ⟨a1, _⟩ | ⟨_, _, _, a4⟩
          · omega
          · have := a4 _ y1
            exact hbb (by omega)
        have ob : ∀ {i c : Nat}, i < new.length → lkp κ (N + i) = some c → ∃ o, W1.get c = some o ∧ ∀ cs, o ≠ .ro cs := fun {i c} hi hl => by
          obtain ⟨x, hx⟩ : ∃ x, new[i]? = some x := ⟨_, List.getElem?_eq_getElem hi⟩
          have hx1 := numM_get q4 i x hx
          have hk := List.all_eq_true.1 q2 x (List.mem_of_getElem? hx)
          unfold blkC at hk
          rw [hx1, hl] at hk
          replace hk : (match cellsC (W1.get c) with | some cs => leavesM κ x.2 cs | none => false) = true := hk
          cases hc1 : W1.get c with
          | none => rw [hc1] at hk; cases hk
          | some o =>
            rw [hc1] at hk
            exact ⟨o, rfl, fun cs e => by subst e; cases hk⟩
        obtain ⟨p1, e1, f1⟩ := ob x1 y1
        obtain ⟨p2, e2, f2⟩ := ob x2 y2
        exact hW1.disj c1 c2 p1 p2 g1 g2 hcc e1 e2 z1 z2 (rwL f1)
  · intro b cs hb
    have hbn : b < W.next := Nat.lt_of_not_le fun hle => by rw [hW.free b hle] at hb; cases hb
    rw [adds_lt hbn]; exact hb
  · intro b o hb hn
    have hbn : b < W.next := Nat.lt_of_not_le fun hle => by rw [hW.free b hle] at hb; cases hb
    rw [adds_lt hbn, σR_old hbn]
    exact ⟨hb, hn⟩
  · intro b k hb hlt
    rcases σR_inv hb with ⟨z1, z2⟩ | ⟨i, c, rfl, z2, z3, z4⟩
    · exact .inl z2
    · exact absurd hlt (Nat.not_lt.2 (far z3 (by omega) z4))
end
end Go.Eng
