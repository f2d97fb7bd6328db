/- A part: the engine and its laws. -/
import Derived.RangeFuncLeaves
import Derived.OrdersIn
import Derived.KernelRfl
import Derived.Laws.Cells
import Derived.Laws.CopyRow
import Derived.ChangeKeysEq
import Derived.ArgAppend
import Derived.Laws.Append
import Derived.Lib.AppendStr
import Derived.Lib.UnsafeStr
import Derived.Laws.BytesArg
import Derived.LaidEqlPtr
import Derived.Laws.StructEq
set_option linter.unusedSectionVars false
set_option linter.unusedVariables false
namespace Go.Eng
open Go
inductive T (α : Type) where
  | lf : T α
  | nd (l : T α) (v : Option α) (r : T α) : T α

noncomputable def pathF (fuel : Nat) : Nat → List Bool :=
  Nat.rec (motive := fun _ => Nat → List Bool) (fun _ => [])
    (fun _ ih n => Nat.rec (motive := fun _ => List Bool) [] (fun m _ => (Nat.beq (Nat.mod m 2) 0) :: ih (Nat.div m 2)) n) fuel
noncomputable def path (n : Nat) : List Bool := pathF n n

noncomputable def T.get {α : Type} (p : List Bool) : T α → Option α :=
  List.rec (motive := fun _ => T α → Option α) (fun t => T.rec (motive := fun _ => Option α) none (fun _ v _ _ _ => v) t)
    (fun b _ ih t => T.rec (motive := fun _ => Option α) none (fun l _ r _ _ => Bool.rec (motive := fun _ => Option α) (ih r) (ih l) b) t) p
noncomputable def T.set {α : Type} (x : Option α) (p : List Bool) : T α → T α :=
  List.rec (motive := fun _ => T α → T α) (fun t => T.rec (motive := fun _ => T α) (.nd .lf x .lf) (fun l _ r _ _ => .nd l x r) t)
    (fun b _ ih t => T.rec (motive := fun _ => T α) (Bool.rec (motive := fun _ => T α) (.nd .lf none (ih .lf)) (.nd (ih .lf) none .lf) b)
       (fun l v r _ _ => Bool.rec (motive := fun _ => T α) (.nd l v (ih r)) (.nd (ih l) v r) b) t) p

theorem pathF_inj : ∀ (f g n m : Nat), n ≤ f → m ≤ g → pathF f n = pathF g m → n = m := by
  intro f
  induction f with
  | zero =>
    intro g n m hn hm h
    have hn0 : n = 0 := by omega
    subst hn0
    cases m with
    | zero => rfl
    | succ m =>
      cases g with
      | zero => omega
      | succ g => exact absurd h (by simp [pathF])
  | succ f ih =>
    intro g n m hn hm h
    cases n with
    | zero =>
      cases m with
      | zero => rfl
      | succ m =>
        cases g with
        | zero => omega
        | succ g => exact absurd h (by simp [pathF])
    | succ n =>
      cases m with
      | zero => cases g <;> exact absurd h (by simp [pathF])
      | succ m =>
        cases g with
        | zero => omega
        | succ g =>
          have h' : (Nat.beq (Nat.mod n 2) 0) :: pathF f (Nat.div n 2) = (Nat.beq (Nat.mod m 2) 0) :: pathF g (Nat.div m 2) := h
          injection h' with h1 h2
          have e1 : Nat.div n 2 = n / 2 := rfl
          have e2 : Nat.div m 2 = m / 2 := rfl
          have e3 : Nat.mod n 2 = n % 2 := rfl
          have e4 : Nat.mod m 2 = m % 2 := rfl
          have h3 := ih g (n / 2) (m / 2) (by omega) (by omega) (by rw [← e1, ← e2]; exact h2)
          rw [e3, e4] at h1
          have h4 : (n % 2 = 0) ↔ (m % 2 = 0) := by
            rw [← Nat.beq_eq, ← Nat.beq_eq, h1]
          omega
theorem path_inj {n m : Nat} (h : path n = path m) : n = m := pathF_inj _ _ _ _ (Nat.le_refl _) (Nat.le_refl _) h
theorem path_ne {n m : Nat} (h : n ≠ m) : path n ≠ path m := fun e => h (path_inj e)

theorem T.get_set {α : Type} (x : Option α) : ∀ (p : List Bool) (t : T α), T.get p (T.set x p t) = x := by
  intro p
  induction p with
  | nil => intro t; cases t <;> rfl
  | cons b p ih => intro t; cases t <;> cases b <;> exact ih _
theorem T.get_lf {α : Type} (p : List Bool) : T.get p (.lf : T α) = none := by cases p <;> rfl
theorem T.get_set_ne {α : Type} (x : Option α) : ∀ (p q : List Bool) (t : T α), p ≠ q → T.get q (T.set x p t) = T.get q t := by
  intro p
  induction p with
  | nil =>
    intro q t h
    cases q with
    | nil => exact absurd rfl h
    | cons b q => cases t <;> cases b <;> first | rfl | exact (T.get_lf q)
  | cons b p ih =>
    intro q t h
    cases q with
    | nil => cases t <;> cases b <;> rfl
    | cons c q =>
      have ht : b = c → p ≠ q := fun e1 e2 => h (by rw [e1, e2])
      cases t <;> cases b <;> cases c <;>
        first
          | rfl
          | exact T.get_lf q
          | exact (ih q .lf (ht rfl)).trans (T.get_lf q)
          | exact ih q _ (ht rfl)

theorem T.set_set {α : Type} (x y : Option α) : ∀ (p : List Bool) (t : T α), T.set y p (T.set x p t) = T.set y p t := by
  intro p
  induction p with
  | nil => intro t; cases t <;> rfl
  | cons b p ih =>
    intro t
    cases t with
    | lf =>
      cases b
      · exact congrArg (T.nd .lf none) (ih .lf)
      · exact congrArg (fun l => T.nd l none .lf) (ih .lf)
    | nd l v r =>
      cases b
      · exact congrArg (T.nd l v) (ih r)
      · exact congrArg (fun l => T.nd l v r) (ih l)

class PlanTab where
  D : Nat → Array Oper → Option (List (Nat × List Nat))
  /-- the package-level variables that are known -/
  ng : List Nat
  /-- types whose variables lie alone -/
  ex : TypeId → Bool
  Fr : Type
  fget : Fr → Nat → Value
  fset : Fr → Nat → Value → Fr
  blank : Fr
  get_set : ∀ R t v, fget (fset R t v) t = v
  get_set_ne : ∀ R t u v, t ≠ u → fget (fset R t v) u = fget R u
  get_blank : ∀ t, fget blank t = undef
noncomputable def lget {α : Type} (l : List α) : Nat → Option α :=
  List.rec (motive := fun _ => Nat → Option α) (fun _ => none) (fun v _ ih n => Nat.rec (motive := fun _ => Option α) (some v) (fun m _ => ih m) n) l
theorem lget_eq {α : Type} (l : List α) : ∀ n, lget l n = l[n]? := by
  induction l with
  | nil => intro n; rfl
  | cons v l ih => intro n; cases n with | zero => rfl | succ n => exact (ih n).trans (by simp)
section
variable [PlanTab]
inductive AObj where
  | cells (cs : List Value)
  | ro (cs : List Value)
  | map (es : List MapEntry) (clock : Nat)
  | loop (state : LoopState) (pending : Option Code) (tmps : PlanTab.Fr) (ntmps : Nat) (params : Array Tmp) (assign body : Code)
  | siter (s : ByteArray) (pos : Nat)
  | tc (t : TypeId) (cs : List Value)

structure AW where
  heap : T AObj
  next : Nat

noncomputable def AW.get (W : AW) (b : Nat) : Option AObj := T.get (path b) W.heap
noncomputable def AW.put (W : AW) (b : Nat) (o : AObj) : AW := ⟨T.set (some o) (path b) W.heap, W.next⟩
noncomputable def AW.kill (W : AW) (b : Nat) : AW := ⟨T.set none (path b) W.heap, W.next⟩
noncomputable def AW.new {X : Type} (W : AW) (o : AObj) (k : Nat → AW → X) : X :=
  AW.rec (motive := fun _ => X) (fun h n => Nat.rec (motive := fun _ => X) (k 0 ⟨T.set (some o) (path 0) h, 1⟩)
    (fun m _ => k (Nat.succ m) ⟨T.set (some o) (path (Nat.succ m)) h, Nat.succ (Nat.succ m)⟩) n) W
noncomputable def AW.add (W : AW) (o : AObj) : AW := ⟨T.set (some o) (path W.next) W.heap, W.next + 1⟩
theorem AW.new_eq {X : Type} (W : AW) (o : AObj) (k : Nat → AW → X) : W.new o k = k W.next (W.add o) := by
  obtain ⟨h, n⟩ := W
  cases n <;> rfl

theorem AW.get_put (W : AW) (b : Nat) (o : AObj) : (W.put b o).get b = some o := T.get_set _ _ _
theorem AW.get_put_ne (W : AW) {b c : Nat} (o : AObj) (h : b ≠ c) : (W.put b o).get c = W.get c := T.get_set_ne _ _ _ _ (path_ne h)
theorem AW.get_kill (W : AW) (b : Nat) : (W.kill b).get b = none := T.get_set _ _ _
theorem AW.get_kill_ne (W : AW) {b c : Nat} (h : b ≠ c) : (W.kill b).get c = W.get c := T.get_set_ne _ _ _ _ (path_ne h)
theorem AW.get_add (W : AW) (o : AObj) : (W.add o).get W.next = some o := T.get_set _ _ _
theorem AW.get_add_ne (W : AW) {c : Nat} (o : AObj) (h : W.next ≠ c) : (W.add o).get c = W.get c := T.get_set_ne _ _ _ _ (path_ne h)
theorem AW.put_next (W : AW) (b : Nat) (o : AObj) : (W.put b o).next = W.next := rfl
theorem AW.kill_next (W : AW) (b : Nat) : (W.kill b).next = W.next := rfl
theorem AW.add_next (W : AW) (o : AObj) : (W.add o).next = W.next + 1 := rfl

end
structure Seg where
  B : Nat
  s : Nat
  e : Nat
abbrev Inj := Nat → Option Seg
def BIG : Nat := 18446744073709551616

inductive CapR (g : Seg) (off l : Nat) : Nat → Nat → Prop where
  | known (c : Nat) (h : c < BIG) : CapR g off l c c
  | open_ (z c' : Nat) (hz : 0 < z) (hl : l ≤ c') (h : g.s + off + c' * z = g.e) (hb : c' ≤ maxLen) : CapR g off l (BIG + z) c'

inductive FnR (σ : Inj) : Fn → Fn → Prop where
  | func (f : FuncId) : FnR σ (.func f) (.func f)
  | yield (l : Nat) (g : Seg) (h : σ l = some g) : FnR σ (.yield l) (.yield g.B)

inductive VR (σ : Inj) : Value → Value → Prop where
  | bool (b : Bool) : VR σ (.bool b) (.bool b)
  | int (k : IntKind) (n : Int) : VR σ (.int k n) (.int k n)
  | float (k : FloatKind) (n : Nat) : VR σ (.float k n) (.float k n)
  | string (s : ByteArray) : VR σ (.string s) (.string s)
  | pnil : VR σ (.pointer none) (.pointer none)
  | ptr (a : Addr) (g : Seg) (h : σ a.block = some g) (hs : a.spot = none) : VR σ (.pointer (some a)) (.pointer (some ⟨g.B, g.s + a.off, none⟩))
  | snil (l c : Nat) : VR σ (.slice none l c) (.slice none l c)
  | slice (a : Addr) (l c c' : Nat) (g : Seg) (h : σ a.block = some g) (hs : a.spot = none) (hc : CapR g a.off l c c') :
      VR σ (.slice (some a) l c) (.slice (some ⟨g.B, g.s + a.off, none⟩) l c')
  | sliceE (a a' : Addr) (c : Nat) (g : Seg) (h : σ a.block = some g) (hc : c = 0 ∨ BIG < c) : VR σ (.slice (some a) 0 c) (.slice (some a') 0 0)
  | mnil : VR σ (.map none) (.map none)
  | map (r : Nat) (g : Seg) (h : σ r = some g) : VR σ (.map (some r)) (.map (some g.B))
  | nilFunc : VR σ .nilFunc .nilFunc
  | func (fn fn' : Fn) (fs fs' cs cs' : Array Value) (hf : FnR σ fn fn') (h1 : fs.size = fs'.size) (h2 : ∀ (i : Nat) (v v' : Value), fs[i]? = some v → fs'[i]? = some v' → VR σ v v')
      (h3 : cs.size = cs'.size) (h4 : ∀ (i : Nat) (v v' : Value), cs[i]? = some v → cs'[i]? = some v' → VR σ v v') : VR σ (.func fn fs cs) (.func fn' fs' cs')
  | nilIface : VR σ .nilIface .nilIface
  | iface (t : TypeId) (v v' : Value) (h : VR σ v v') : VR σ (.iface t v) (.iface t v')
  | agg (cs cs' : Array Value) (h1 : cs.size = cs'.size) (h2 : ∀ (i : Nat) (v v' : Value), cs[i]? = some v → cs'[i]? = some v' → VR σ v v') : VR σ (.agg cs) (.agg cs')
  | tuple (cs cs' : Array Value) (h1 : cs.size = cs'.size) (h2 : ∀ (i : Nat) (v v' : Value), cs[i]? = some v → cs'[i]? = some v' → VR σ v v') : VR σ (.tuple cs) (.tuple cs')

def Sub (σ σ' : Inj) : Prop := ∀ b g, σ b = some g → σ' b = some g
theorem Sub.refl (σ : Inj) : Sub σ σ := fun _ _ h => h
theorem Sub.trans {σ σ' σ'' : Inj} (h : Sub σ σ') (k : Sub σ' σ'') : Sub σ σ'' := fun b g x => k b g (h b g x)

theorem FnR.mono {σ σ' : Inj} (hs : Sub σ σ') {f f' : Fn} (h : FnR σ f f') : FnR σ' f f' := by
  cases h with
  | func f => exact .func f
  | yield l g h => exact .yield l g (hs _ _ h)
theorem VR.mono {σ σ' : Inj} (hs : Sub σ σ') {v v' : Value} (h : VR σ v v') : VR σ' v v' := by
  induction h with
  | bool b => exact .bool b
  | int k n => exact .int k n
  | float k n => exact .float k n
  | string s => exact .string s
  | pnil => exact .pnil
  | ptr a g h hsp => exact .ptr a g (hs _ _ h) hsp
  | snil l c => exact .snil l c
  | slice a l c c' g h hsp hc => exact .slice a l c c' g (hs _ _ h) hsp hc
  | sliceE a a' c g h hc => exact .sliceE a a' c g (hs _ _ h) hc
  | mnil => exact .mnil
  | map r g h => exact .map r g (hs _ _ h)
  | nilFunc => exact .nilFunc
  | func fn fn' fs fs' cs cs' hf h1 _ h3 _ ih1 ih2 => exact .func fn fn' fs fs' cs cs' (hf.mono hs) h1 ih1 h3 ih2
  | nilIface => exact .nilIface
  | iface t v v' _ ih => exact .iface t v v' ih
  | agg cs cs' h1 _ ih => exact .agg cs cs' h1 ih
  | tuple cs cs' h1 _ ih => exact .tuple cs cs' h1 ih

def LR (σ : Inj) (l l' : List Value) : Prop := l.length = l'.length ∧ ∀ (i : Nat) (v v' : Value), l[i]? = some v → l'[i]? = some v' → VR σ v v'
theorem LR.mono {σ σ' : Inj} (hs : Sub σ σ') {l l' : List Value} (h : LR σ l l') : LR σ' l l' := ⟨h.1, fun i v v' a b => (h.2 i v v' a b).mono hs⟩
theorem LR.nil {σ : Inj} : LR σ [] [] := ⟨rfl, fun i v v' a => by simp at a⟩
theorem LR.cons {σ : Inj} {v v' : Value} {l l' : List Value} (h : VR σ v v') (hl : LR σ l l') : LR σ (v :: l) (v' :: l') := by
  refine ⟨by simp [hl.1], fun i u u' a b => ?_⟩
  cases i with
  | zero => simp at a b; subst a; subst b; exact h
  | succ i => simp at a b; exact hl.2 i u u' a b
theorem LR.of_cons {σ : Inj} {v : Value} {l m : List Value} (h : LR σ (v :: l) m) : ∃ v' l', m = v' :: l' ∧ VR σ v v' ∧ LR σ l l' := by
  cases m with
  | nil => have := h.1; simp at this
  | cons v' l' =>
    refine ⟨v', l', rfl, h.2 0 v v' (by simp) (by simp), by have := h.1; simpa using this, fun i u u' a b => h.2 (i + 1) u u' (by simpa using a) (by simpa using b)⟩
theorem LR.of_nil {σ : Inj} {m : List Value} (h : LR σ [] m) : m = [] := by
  have := h.1; simp at this; exact List.eq_nil_of_length_eq_zero this.symm
theorem LR.append {σ : Inj} {l l' m m' : List Value} (h : LR σ l l') (k : LR σ m m') : LR σ (l ++ m) (l' ++ m') := by
  induction l generalizing l' with
  | nil => have := h.of_nil; subst this; exact k
  | cons v l ih =>
    obtain ⟨v', l'', rfl, hv, hl⟩ := h.of_cons
    exact (ih hl).cons hv
theorem LR.take {σ : Inj} {l l' : List Value} (h : LR σ l l') (n : Nat) : LR σ (l.take n) (l'.take n) := by
  refine ⟨by simp [h.1], fun i v v' a b => ?_⟩
  rw [List.getElem?_take] at a b
  split at a
  · rename_i hi; rw [if_pos hi] at b; exact h.2 i v v' a b
  · cases a
theorem LR.drop {σ : Inj} {l l' : List Value} (h : LR σ l l') (n : Nat) : LR σ (l.drop n) (l'.drop n) := by
  refine ⟨by simp [h.1], fun i v v' a b => ?_⟩
  rw [List.getElem?_drop] at a b
  exact h.2 _ v v' a b
theorem LR.get {σ : Inj} {l l' : List Value} (h : LR σ l l') {i : Nat} {v : Value} (hv : l[i]? = some v) : ∃ v', l'[i]? = some v' ∧ VR σ v v' := by
  have hi : i < l.length := (List.getElem?_eq_some_iff.1 hv).1
  have hi' : i < l'.length := by rw [← h.1]; exact hi
  exact ⟨l'[i], List.getElem?_eq_getElem hi', h.2 i v _ hv (List.getElem?_eq_getElem hi')⟩
theorem LR.set {σ : Inj} {l l' : List Value} (h : LR σ l l') (n : Nat) {x x' : Value} (hx : VR σ x x') : LR σ (l.set n x) (l'.set n x') := by
  refine ⟨by simp [h.1], fun i v v' a b => ?_⟩
  rw [List.getElem?_set] at a b
  by_cases hn : n = i
  · subst hn
    simp only [if_true] at a b
    split at a
    · split at b
      · simp at a b; subst a; subst b; exact hx
      · cases b
    · cases a
  · rw [if_neg hn] at a b; exact h.2 i v v' a b
theorem LR.of_arr {σ : Inj} {a a' : Array Value} (h1 : a.size = a'.size) (h2 : ∀ (i : Nat) (v v' : Value), a[i]? = some v → a'[i]? = some v' → VR σ v v') : LR σ a.toList a'.toList :=
  ⟨by simpa using h1, fun i v v' x y => h2 i v v' (by simpa using x) (by simpa using y)⟩
theorem LR.arr {σ : Inj} {a a' : Array Value} (h : LR σ a.toList a'.toList) : a.size = a'.size ∧ ∀ (i : Nat) (v v' : Value), a[i]? = some v → a'[i]? = some v' → VR σ v v' :=
  ⟨by simpa using h.1, fun i v v' x y => h.2 i v v' (by simpa using x) (by simpa using y)⟩
theorem VR.agg' {σ : Inj} {a a' : Array Value} (h : LR σ a.toList a'.toList) : VR σ (.agg a) (.agg a') := .agg _ _ h.arr.1 h.arr.2
theorem VR.tuple' {σ : Inj} {a a' : Array Value} (h : LR σ a.toList a'.toList) : VR σ (.tuple a) (.tuple a') := .tuple _ _ h.arr.1 h.arr.2
theorem VR.cells {σ : Inj} {v v' : Value} (h : VR σ v v') : LR σ v.cells.toList v'.cells.toList := by
  cases h with
  | agg cs cs' h1 h2 => exact .of_arr h1 h2
  | bool b => exact .cons (.bool b) .nil
  | int k n => exact .cons (.int k n) .nil
  | float k n => exact .cons (.float k n) .nil
  | string s => exact .cons (.string s) .nil
  | pnil => exact .cons .pnil .nil
  | ptr a g h hs => exact .cons (.ptr a g h hs) .nil
  | snil l c => exact .cons (.snil l c) .nil
  | slice a l c c' g h hs hc => exact .cons (.slice a l c c' g h hs hc) .nil
  | sliceE a a' c g h hc => exact .cons (.sliceE a a' c g h hc) .nil
  | mnil => exact .cons .mnil .nil
  | map r g h => exact .cons (.map r g h) .nil
  | nilFunc => exact .cons .nilFunc .nil
  | func fn fn' fs fs' cs cs' hf h1 h2 h3 h4 => exact .cons (.func fn fn' fs fs' cs cs' hf h1 h2 h3 h4) .nil
  | nilIface => exact .cons .nilIface .nil
  | iface t v v' h => exact .cons (.iface t v v' h) .nil
  | tuple cs cs' h1 h2 => exact .cons (.tuple cs cs' h1 h2) .nil
theorem VR.undef {σ : Inj} : VR σ undef undef := VR.tuple' (a := #[]) (a' := #[]) .nil

def scalar : Value → Bool
  | .bool _ | .int .. | .string _ | .pointer none | .slice none _ _ | .map none | .nilFunc | .nilIface | .float .. => true
  | _ => false
def plain1 : Value → Bool
  | .agg cs => cs.toList.all scalar
  | v => scalar v
def plain : Value → Bool
  | .tuple vs => vs.toList.all plain1
  | .iface _ v => plain1 v
  | v => plain1 v
theorem scalar_eq {σ : Inj} {v v' : Value} (hp : scalar v = true) (h : VR σ v v') : v' = v := by
  cases h <;> first | rfl | simp [scalar] at hp
theorem scalar_refl {σ : Inj} {v : Value} (hp : scalar v = true) : VR σ v v := by
  cases v with
  | bool b => exact .bool b
  | int k n => exact .int k n
  | float k n => exact .float k n
  | string s => exact .string s
  | pointer a => cases a with | none => exact .pnil | some a => simp [scalar] at hp
  | slice a l c => cases a with | none => exact .snil l c | some a => simp [scalar] at hp
  | map r => cases r with | none => exact .mnil | some a => simp [scalar] at hp
  | nilFunc => exact .nilFunc
  | nilIface => exact .nilIface
  | _ => simp [scalar] at hp
theorem LR.eq_of {σ : Inj} {p : Value → Bool} (hp : ∀ v v', p v = true → VR σ v v' → v' = v) : ∀ {l l' : List Value}, l.all p = true → LR σ l l' → l' = l := by
  intro l
  induction l with
  | nil => intro l' _ h; exact h.of_nil
  | cons v l ih =>
    intro l' ha h
    obtain ⟨v', l'', rfl, hv, hl⟩ := h.of_cons
    simp only [List.all_cons, Bool.and_eq_true] at ha
    rw [hp v v' ha.1 hv, ih ha.2 hl]
theorem LR.refl_of {σ : Inj} {p : Value → Bool} (hp : ∀ v, p v = true → VR σ v v) : ∀ {l : List Value}, l.all p = true → LR σ l l := by
  intro l
  induction l with
  | nil => intro _; exact .nil
  | cons v l ih =>
    intro ha
    simp only [List.all_cons, Bool.and_eq_true] at ha
    exact (ih ha.2).cons (hp v ha.1)
theorem plain1_eq {σ : Inj} {v v' : Value} (hp : plain1 v = true) (h : VR σ v v') : v' = v := by
  cases h with
  | agg cs cs' h1 h2 =>
    have := LR.eq_of (fun v v' => scalar_eq) (show cs.toList.all scalar = true from hp) (LR.of_arr h1 h2)
    rw [Array.toList_inj.1 this]
  | _ => first | rfl | simp [plain1, scalar] at hp
theorem plain1_refl {σ : Inj} {v : Value} (hp : plain1 v = true) : VR σ v v := by
  cases v with
  | agg cs => exact VR.agg' (LR.refl_of (fun v => scalar_refl) (show cs.toList.all scalar = true from hp))
  | _ => exact scalar_refl hp
theorem plain_eq {σ : Inj} {v v' : Value} (hp : plain v = true) (h : VR σ v v') : v' = v := by
  cases h with
  | tuple cs cs' h1 h2 =>
    have := LR.eq_of (fun v v' => plain1_eq) (show cs.toList.all plain1 = true from hp) (LR.of_arr h1 h2)
    rw [Array.toList_inj.1 this]
  | iface t v v' h => rw [plain1_eq hp h]
  | agg cs cs' h1 h2 => exact plain1_eq (v := .agg cs) hp (.agg cs cs' h1 h2)
  | _ => first | rfl | simp [plain, plain1, scalar] at hp
theorem plain_refl {σ : Inj} {v : Value} (hp : plain v = true) : VR σ v v := by
  cases v with
  | tuple cs => exact VR.tuple' (LR.refl_of (fun v => plain1_refl) (show cs.toList.all plain1 = true from hp))
  | iface t v => exact .iface t v v (plain1_refl hp)
  | _ => exact plain1_refl hp

def inL (i : Nat) : List Nat → Bool
  | [] => false
  | x :: l => Nat.beq x i || inL i l
theorem inL_iff {i : Nat} {l : List Nat} : inL i l = true ↔ i ∈ l := by
  induction l with
  | nil => simp [inL]
  | cons x l ih => simp only [inL, Bool.or_eq_true, Nat.beq_eq, ih, List.mem_cons]; exact ⟨fun h => h.imp Eq.symm id, fun h => h.imp Eq.symm id⟩
def okOperand (nt : Nat) (ng : List Nat) : Operand → Bool
  | .tmp t => Nat.blt t nt
  | .const v => plain v
  | .global g => inL g ng
  | .func _ => true
def Glob (σ : Inj) (ng : List Nat) : Prop := ∀ g, g ∈ ng → ∃ e, σ g = some ⟨g, 0, e⟩
theorem Glob.mono {σ σ' : Inj} {ng : List Nat} (hs : Sub σ σ') (h : Glob σ ng) : Glob σ' ng := fun g hg => let ⟨e, he⟩ := h g hg; ⟨e, hs _ _ he⟩
def okOper (nt : Nat) (ng : List Nat) (o : Oper) : Bool := o.op.operands.toList.all (okOperand nt ng) && (match o.dst with | some d => Nat.blt d nt | none => true)

def kindE (o : Oper) : Nat :=
  match o.op with
  | .move _ | .assign _ | .pick .. | .build .. | .nilCheck _ | .unOp .. | .makeInterface .. | .slice .. | .fieldAddr .. | .field .. | .indexAddr .. | .index .. | .extract .. | .typeAssert .. => 0
  | .makeFunc (.func _) _ _ => 0
  | .binOp op _ _ _ _ => match op with | .eql | .neq => 1 | _ => 0
  | .load .. | .lookup .. | .convert .. => 1
  | .call c => match c.callee with | .builtin .len => 1 | _ => 3
  | .alloc _ | .box .. | .buildSlice .. | .makeSlice .. => 2
  | _ => 3
def dstOf (o : Option Oper) : Nat := match o with
  | some o => (match o.dst with | some d => d | none => 0)
  | none => 0
def planKey (id : Nat) (ops : Array Oper) : Nat := (id * 128 + ops.size) * 4096 + (dstOf ops[0]? + 3 * dstOf ops[ops.size - 1]? + 7 * dstOf ops[ops.size / 2]?)
def maskOf (A : List Nat) (o : Oper) : Nat := o.after.toList.foldr (fun e m => if Region.binds .any e then Nat.lor (Nat.lor (2 ^ e.on) (A.getD e.on 0)) m else m) 0
def ancM : List Oper → List Nat → List Nat
  | [], A => A
  | o :: os, A => ancM os (A ++ [maskOf A o])
def inD (d : Option Tmp) (l : List Tmp) : Bool := match d with | some d => inL d l | none => false
def namesOf (ops : Array Oper) (o : Oper) : List Tmp := o.dst.toList ++ o.looksAt ops
structure Did where
  i : Nat
  o : Oper
  early : Bool
def planGo (ops : Array Oper) (A : List Nat) : List Did → List (Nat × List Nat) → Bool
  | _, [] => true
  | pre, (i, re) :: rest =>
    match ops[i]? with
    | none => false
    | some o =>
      let e := Nat.blt (kindE o) 3 && !inD o.dst (o.looksAt ops) && pre.all fun d => !inD o.dst (namesOf ops d.o)
      pre.all (fun d => !Nat.beq d.i i) &&
      o.after.toList.all (fun e => !Region.binds .any e || pre.any fun d => Nat.beq d.i e.on) &&
      pre.all (fun d => !d.early || (Nat.testBit (A.getD i 0) d.i || (!inD d.o.dst (o.looksAt ops) && (e || (!inD o.dst (namesOf ops d.o) && (Nat.beq (kindE d.o) 0 || Nat.beq (kindE d.o) 2 || inL d.i re)))))) &&
      (e || rest.all fun k => match ops[k.1]? with
        | some ok => ok.after.toList.any fun e => Region.binds .any e && pre.all fun d => !Nat.beq d.i e.on
        | none => false) &&
      planGo ops A (⟨i, o, e⟩ :: pre) rest
def planOf (ops : Array Oper) : Option (List (Nat × List Nat)) → List (Nat × List Nat)
  | some pl => pl
  | none => (List.range ops.size).map fun i => (i, [])
def planOK (ops : Array Oper) (pl : List (Nat × List Nat)) : Bool :=
  let A := ancM ops.toList []
  (List.range ops.size).all (fun i => match ops[i]? with
    | some o => Nat.beq (A.getD i 0) (maskOf A o) && pl.any (fun x => Nat.beq x.1 i) && (match o.op with | .select .. => false | _ => true)
    | none => false) &&
  planGo ops A [] pl
def codeOk [PlanTab] (nt : Nat) (ng : List Nat) : Code → Bool
  | .region id ops draw => ops.toList.all (okOper nt ng) && (!draw || planOK ops (planOf ops (PlanTab.D id ops)))
  | .seq a b => codeOk nt ng a && codeOk nt ng b
  | .cond c a b => okOperand nt ng c && codeOk nt ng a && codeOk nt ng b
  | .block _ b => codeOk nt ng b
  | .loop b => codeOk nt ng b
  | .scope b => codeOk nt ng b
  | .rangeFunc f ps as bd => okOperand nt ng f && ps.toList.all (fun t => Nat.blt t nt) && codeOk nt ng as && codeOk nt ng bd
  | _ => true
def CodeP [PlanTab] (σ : Inj) (nt : Nat) (c : Code) : Prop := Glob σ PlanTab.ng ∧ codeOk nt PlanTab.ng c = true
theorem CodeP.mono [PlanTab] {σ σ' : Inj} {nt : Nat} {c : Code} (hs : Sub σ σ') (h : CodeP σ nt c) : CodeP σ' nt c := ⟨h.1.mono hs, h.2⟩
section
variable [PlanTab]

noncomputable def rget (R : PlanTab.Fr) (t : Nat) : Value := PlanTab.fget R t
noncomputable def rset (R : PlanTab.Fr) (t : Nat) (v : Value) : PlanTab.Fr := PlanTab.fset R t v
noncomputable def rput (R : PlanTab.Fr) (d : Option Tmp) (v : Value) : PlanTab.Fr := match d with | some t => rset R t v | none => R
theorem rget_rset (R : PlanTab.Fr) (t : Nat) (v : Value) : rget (rset R t v) t = v := PlanTab.get_set R t v
theorem rget_rset_ne (R : PlanTab.Fr) {t u : Nat} (v : Value) (h : t ≠ u) : rget (rset R t v) u = rget R u := PlanTab.get_set_ne R t u v h

def RegRel (nt : Nat) (σ : Inj) (R : PlanTab.Fr) (tmps : Array Value) : Prop := tmps.size = nt ∧ ∀ t, t < nt → VR σ (rget R t) (tmps.getD t undef)
theorem RegRel.mono {nt : Nat} {σ σ' : Inj} (hs : Sub σ σ') {R : PlanTab.Fr} {tmps : Array Value} (h : RegRel nt σ R tmps) : RegRel nt σ' R tmps :=
  ⟨h.1, fun t ht => (h.2 t ht).mono hs⟩
theorem RegRel.set {nt : Nat} {σ : Inj} {R : PlanTab.Fr} {tmps : Array Value} (h : RegRel nt σ R tmps) (d : Nat) {v v' : Value} (hv : VR σ v v') :
    RegRel nt σ (rset R d v) (tmps.setIfInBounds d v') := by
  refine ⟨by simp [h.1], fun t ht => ?_⟩
  by_cases hd : d = t
  · subst hd
    rw [rget_rset]
    have : d < tmps.size := by rw [h.1]; exact ht
    simpa [Array.getElem?_setIfInBounds, this] using hv
  · rw [rget_rset_ne _ _ hd]
    have := h.2 t ht
    simpa [Array.getElem?_setIfInBounds_ne hd] using this
theorem RegRel.put {nt : Nat} {σ : Inj} {R : PlanTab.Fr} {a : Act} (h : RegRel nt σ R a.tmps) (d : Option Tmp) {v v' : Value} (hv : VR σ v v') :
    RegRel nt σ (rput R d v) (a.put d v').tmps := by
  cases d with
  | none => exact h
  | some d => exact h.set d hv
@[simp] theorem put_defers (a : Act) (d : Option Tmp) (v : Value) : (a.put d v).defers = a.defers := by cases d <;> rfl

def ER (σ : Inj) (es es' : List MapEntry) : Prop :=
  es.length = es'.length ∧ ∀ (i : Nat) (e e' : MapEntry), es[i]? = some e → es'[i]? = some e' → VR σ e.key e'.key ∧ VR σ e.val e'.val ∧ e.born = e'.born
theorem ER.mono {σ σ' : Inj} (hs : Sub σ σ') {es es' : List MapEntry} (h : ER σ es es') : ER σ' es es' :=
  ⟨h.1, fun i e e' a b => let ⟨x, y, z⟩ := h.2 i e e' a b; ⟨x.mono hs, y.mono hs, z⟩⟩

def ORel (σ : Inj) (h : Array Obj) (g : Seg) : AObj → Prop
  | .cells cs => ∃ c t fr, h[g.B]? = some (.cells c t fr) ∧ (g.s < g.e → fr = (0, 0)) ∧ g.s + cs.length ≤ g.e ∧ g.e ≤ c.size ∧
      ∀ (i : Nat) (v : Value), cs[i]? = some v → ∃ v', c[g.s + i]? = some v' ∧ VR σ v v'
  | .ro cs => ∃ c t fr, h[g.B]? = some (.cells c t fr) ∧ g.s + cs.length ≤ g.e ∧
      ∀ (i : Nat) (v : Value), cs[i]? = some v → ∃ v', c[g.s + i]? = some v' ∧ VR σ v v'
  | .map es clock => g.s = 0 ∧ g.e = 1 ∧ ∃ es' : Array MapEntry, h[g.B]? = some (.map es' clock) ∧ ER σ es es'.toList
  | .loop st pend R nt ps as bd => g.s = 0 ∧ g.e = 1 ∧ ∃ r : Loop, h[g.B]? = some (.loop r) ∧ r.state = st ∧ r.pending = pend ∧ RegRel nt σ R r.tmps ∧ r.params = ps ∧ r.assign = as ∧ r.body = bd ∧ CodeP σ nt as ∧ CodeP σ nt bd ∧ ps.toList.all (fun t => Nat.blt t nt) = true
  | .siter s pos => g.s = 0 ∧ g.e = 1 ∧ h[g.B]? = some (.stringIter s pos)
  | .tc t cs => g.s = 0 ∧ 0 < g.e ∧ (g.e ≤ maxLen ∧ (PlanTab.ex t = true → cs.length = g.e)) ∧ ∃ c, h[g.B]? = some (.cells c t (0, 0)) ∧ cs.length ≤ g.e ∧ g.e = c.size ∧
      ∀ (i : Nat) (v : Value), cs[i]? = some v → ∃ v', c[i]? = some v' ∧ VR σ v v'
theorem ORel.mono {σ σ' : Inj} (hs : Sub σ σ') {h : Array Obj} {g : Seg} {o : AObj} (k : ORel σ h g o) : ORel σ' h g o := by
  cases o with
  | cells cs =>
    obtain ⟨c, t, fr, h1, h0, h2, h3, h4⟩ := k
    exact ⟨c, t, fr, h1, h0, h2, h3, fun i v hv => let ⟨v', a, b⟩ := h4 i v hv; ⟨v', a, b.mono hs⟩⟩
  | ro cs =>
    obtain ⟨c, t, fr, h1, h2, h4⟩ := k
    exact ⟨c, t, fr, h1, h2, fun i v hv => let ⟨v', a, b⟩ := h4 i v hv; ⟨v', a, b.mono hs⟩⟩
  | map es clock => obtain ⟨a, b, es', h1, h2⟩ := k; exact ⟨a, b, es', h1, h2.mono hs⟩
  | loop st pend R nt ps as bd => obtain ⟨a, b, r, h1, h2, h3, h4, h5, h6, h7, h8, h9, h10⟩ := k; exact ⟨a, b, r, h1, h2, h3, h4.mono hs, h5, h6, h7, h8.mono hs, h9.mono hs, h10⟩
  | siter s pos => exact k
  | tc t cs =>
    obtain ⟨a1, a2, a3, c, h1, h2, h3, h4⟩ := k
    exact ⟨a1, a2, a3, c, h1, h2, h3, fun i v hv => let ⟨v', a, b⟩ := h4 i v hv; ⟨v', a, b.mono hs⟩⟩
theorem ORel.same {σ : Inj} {h h' : Array Obj} {g : Seg} {o : AObj} (k : ORel σ h g o) (e : h'[g.B]? = h[g.B]?) : ORel σ h' g o := by
  cases o with
  | cells cs => obtain ⟨c, t, fr, h1, h2⟩ := k; exact ⟨c, t, fr, e.trans h1, h2⟩
  | ro cs => obtain ⟨c, t, fr, h1, h2⟩ := k; exact ⟨c, t, fr, e.trans h1, h2⟩
  | map es clock => obtain ⟨a, b, es', h1, h2⟩ := k; exact ⟨a, b, es', e.trans h1, h2⟩
  | loop st pend R nt ps as bd => obtain ⟨a, b, r, h1, h2⟩ := k; exact ⟨a, b, r, e.trans h1, h2⟩
  | siter s pos => obtain ⟨a, b, h1⟩ := k; exact ⟨a, b, e.trans h1⟩
  | tc t cs => obtain ⟨a1, a2, a3, c, h1, h2⟩ := k; exact ⟨a1, a2, a3, c, e.trans h1, h2⟩

def rw_ : AObj → Bool
  | .ro _ => false
  | _ => true
theorem rw_of {o : AObj} (h : ∀ cs, o ≠ .ro cs) : rw_ o = true := by cases o <;> first | rfl | exact absurd rfl (h _)
theorem rwL {o o2 : AObj} (h : ∀ cs, o ≠ .ro cs) : (rw_ o || rw_ o2) = true := by rw [rw_of h]; rfl
theorem rwR {o o2 : AObj} (h : ∀ cs, o ≠ .ro cs) : (rw_ o2 || rw_ o) = true := by rw [rw_of h]; simp
structure WRel (σ : Inj) (W : AW) (h : Array Obj) : Prop where
  free : ∀ b, W.next ≤ b → W.get b = none
  dom : ∀ b g, σ b = some g → b < W.next ∧ g.B < h.size
  obj : ∀ b o g, W.get b = some o → σ b = some g → ORel σ h g o
  disj : ∀ b1 b2 o1 o2 g1 g2, b1 ≠ b2 → W.get b1 = some o1 → W.get b2 = some o2 → σ b1 = some g1 → σ b2 = some g2 → (rw_ o1 || rw_ o2) = true → g1.B ≠ g2.B ∨ g1.e ≤ g2.s ∨ g2.e ≤ g1.s

def Mut (σ : Inj) (W : AW) (B : Nat) : Prop := ∃ b g, σ b = some g ∧ g.B = B ∧ ∀ cs, W.get b ≠ some (.ro cs)

theorem frozen_same {w w' : World} {a : Addr} (h : w'.heap[a.block]? = w.heap[a.block]?) : w'.frozen? a = w.frozen? a := by unfold World.frozen?; rw [h]
theorem ORel.cold {σ : Inj} {w : World} {g : Seg} {o : AObj} (k : ORel σ w.heap g o) (hro : ∀ cs, o ≠ .ro cs) (hne : g.s < g.e) {a : Addr} (ha : a.block = g.B) : w.frozen? a = false := by
  unfold World.frozen?
  rw [ha]
  cases o with
  | cells cs => obtain ⟨c, t, fr, h1, h0, _⟩ := k; rw [h1, h0 hne]; simp
  | ro cs => exact absurd rfl (hro cs)
  | map es clock => obtain ⟨_, _, es', h1, _⟩ := k; rw [h1]
  | loop st pend R nt ps as bd => obtain ⟨_, _, r, h1, _⟩ := k; rw [h1]
  | siter s pos => obtain ⟨_, _, h1⟩ := k; rw [h1]
  | tc t cs => obtain ⟨_, _, _, c, h1, _⟩ := k; rw [h1]; simp

structure Ext (σ : Inj) (W : AW) (w : World) (σ' : Inj) (W' : AW) (w' : World) : Prop where
  sub : Sub σ σ'
  ro : ∀ b cs, W.get b = some (.ro cs) → W'.get b = some (.ro cs)
  size : w.heap.size ≤ w'.heap.size
  os : w'.os = w.os
  tape : w'.tape = w.tape
  output : w'.output = w.output
  keep : ∀ B, B < w.heap.size → ¬ Mut σ W B → w'.heap[B]? = w.heap[B]?
  ghost : ∀ b o, W.get b = some o → σ b = none → W'.get b = some o ∧ σ' b = none
  grow : ∀ b g, σ' b = some g → g.B < w.heap.size → σ b = some g ∨ Mut σ W g.B
theorem Ext.turn {σ σ' : Inj} {W W' : AW} {w w' : World} (h : Ext σ W w σ' W' w') : ∀ B, B < w.heap.size → Mut σ' W' B → Mut σ W B := by
  rintro B hB ⟨b, g, hg, rfl, hro⟩
  rcases h.grow b g hg hB with h1 | h1
  · exact ⟨b, g, h1, rfl, fun cs hc => hro cs (h.ro b cs hc)⟩
  · exact h1
theorem Ext.refl (σ : Inj) (W : AW) (w : World) : Ext σ W w σ W w := ⟨.refl _, fun _ _ h => h, Nat.le_refl _, rfl, rfl, rfl, fun _ _ _ => rfl, fun _ _ h k => ⟨h, k⟩, fun _ _ h _ => .inl h⟩
theorem Ext.trans {σ σ' σ'' : Inj} {W W' W'' : AW} {w w' w'' : World} (h : Ext σ W w σ' W' w') (k : Ext σ' W' w' σ'' W'' w'') : Ext σ W w σ'' W'' w'' :=
  ⟨h.sub.trans k.sub, fun b cs x => k.ro b cs (h.ro b cs x), Nat.le_trans h.size k.size, k.os.trans h.os, k.tape.trans h.tape, k.output.trans h.output,
   fun B hB hm => (k.keep B (Nat.lt_of_lt_of_le hB h.size) (fun m => hm (h.turn B hB m))).trans (h.keep B hB hm),
   fun b o h1 h2 => let ⟨a1, a2⟩ := h.ghost b o h1 h2; k.ghost b o a1 a2,
   fun b g hg hB => by
     rcases k.grow b g hg (Nat.lt_of_lt_of_le hB h.size) with h1 | h1
     · exact h.grow b g h1 hB
     · exact .inr (h.turn _ hB h1)⟩
theorem Ext.drawn (σ : Inj) (W : AW) (w : World) (n : Nat) : Ext σ W w σ W { w with drawn := n } := ⟨.refl _, fun _ _ h => h, Nat.le_refl _, rfl, rfl, rfl, fun _ _ _ => rfl, fun _ _ h k => ⟨h, k⟩, fun _ _ h _ => .inl h⟩

section
variable {σ : Inj} {W : AW} {w w' : World}

theorem WRel.turn (h : WRel σ W w.heap) {b : Nat} {o o' : AObj} {g : Seg} (hb : W.get b = some o) (hro : ∀ cs, o ≠ .ro cs) (hro' : ∀ cs, o' ≠ .ro cs) (hg : σ b = some g)
    (hsz : w'.heap.size = w.heap.size) (hos : w'.os = w.os) (htp : w'.tape = w.tape) (hout : w'.output = w.output)
    (hother : ∀ B, B ≠ g.B → w'.heap[B]? = w.heap[B]?)
    (hnew : ORel σ w'.heap g o')
    (hsame : ∀ b2 o2 g2, b2 ≠ b → W.get b2 = some o2 → σ b2 = some g2 → g2.B = g.B → (g.e ≤ g2.s ∨ g2.e ≤ g.s) → ORel σ w.heap g2 o2 → ORel σ w'.heap g2 o2) :
    WRel σ (W.put b o') w'.heap ∧ Ext σ W w σ (W.put b o') w' := by
  have hne : ∀ {c : Nat}, c ≠ b → (W.put b o').get c = W.get c := fun hc => W.get_put_ne _ (Ne.symm hc)
  refine ⟨⟨?_, ?_, ?_, ?_⟩, ⟨.refl _, ?_, ?_, hos, htp, hout, ?_, ?_, ?_⟩⟩
  · intro c hc
    have hbn := (h.dom b g hg).1
    have hc' : W.next ≤ c := hc
    rw [hne (by omega)]
    exact h.free c hc'
  · intro c k hk
    have := h.dom c k hk
    exact ⟨this.1, by rw [hsz]; exact this.2⟩
  · intro c o2 g2 hc hk
    by_cases hcb : c = b
    · subst hcb
      rw [AW.get_put] at hc
      injection hc with hc
      subst hc
      rw [hg] at hk
      injection hk with hk
      subst hk
      exact hnew
    · rw [hne hcb] at hc
      by_cases hB : g2.B = g.B
      · refine hsame c o2 g2 hcb hc hk hB ?_ (h.obj c o2 g2 hc hk)
        rcases h.disj c b o2 o g2 g hcb hc hb hk hg (rwR hro) with h1 | h1 | h1
        · exact absurd hB h1
        · exact .inr h1
        · exact .inl h1
      · exact (h.obj c o2 g2 hc hk).same (hother _ hB)
  · intro b1 b2 o1 o2 g1 g2 hne' h1 h2 k1 k2 hr
    have e1 : ∃ o1', W.get b1 = some o1' ∧ rw_ o1' = rw_ o1 := by
      by_cases hx : b1 = b
      · subst hx; rw [AW.get_put] at h1; injection h1 with h1; subst h1; exact ⟨o, hb, by rw [rw_of hro, rw_of hro']⟩
      · rw [hne hx] at h1; exact ⟨o1, h1, rfl⟩
    have e2 : ∃ o2', W.get b2 = some o2' ∧ rw_ o2' = rw_ o2 := by
      by_cases hx : b2 = b
      · subst hx; rw [AW.get_put] at h2; injection h2 with h2; subst h2; exact ⟨o, hb, by rw [rw_of hro, rw_of hro']⟩
      · rw [hne hx] at h2; exact ⟨o2, h2, rfl⟩
    obtain ⟨o1', e1, q1⟩ := e1
    obtain ⟨o2', e2, q2⟩ := e2
    exact h.disj b1 b2 o1' o2' g1 g2 hne' e1 e2 k1 k2 (by rw [q1, q2]; exact hr)
  · intro c cs hc
    by_cases hcb : c = b
    · subst hcb; rw [hb] at hc; injection hc with hc; exact absurd hc (hro cs)
    · rw [hne hcb]; exact hc
  · rw [hsz]; exact Nat.le_refl _
  · intro B hB hm
    by_cases hBg : B = g.B
    · subst hBg
      exact absurd ⟨b, g, hg, rfl, fun cs hc => by rw [hb] at hc; injection hc with hc; exact hro cs hc⟩ hm
    · exact hother B hBg
  · intro c o2 hc hk
    have hcb : c ≠ b := fun e => by subst e; rw [hg] at hk; cases hk
    exact ⟨by rw [hne hcb]; exact hc, hk⟩
  · exact fun c k hk _ => .inl hk

theorem WRel.writeO (h : WRel σ W w.heap) {b : Nat} {o o' : AObj} {g : Seg} (hb : W.get b = some o) (hro : ∀ cs, o ≠ .ro cs) (hro' : ∀ cs, o' ≠ .ro cs) (hg : σ b = some g)
    (hsz : w'.heap.size = w.heap.size) (hos : w'.os = w.os) (htp : w'.tape = w.tape) (hout : w'.output = w.output)
    (hother : ∀ B, B ≠ g.B → w'.heap[B]? = w.heap[B]?)
    {c c' : Array Value} {t : TypeId} (hc : w.heap[g.B]? = some (.cells c t (0, 0))) (hc' : w'.heap[g.B]? = some (.cells c' t (0, 0))) (hcs : c'.size = c.size)
    (hout' : ∀ i, i < g.s ∨ g.e ≤ i → c'[i]? = c[i]?) (hnew : ORel σ w'.heap g o') :
    WRel σ (W.put b o') w'.heap ∧ Ext σ W w σ (W.put b o') w' := by
  refine h.turn hb hro hro' hg hsz hos htp hout hother hnew ?_
  · intro b2 o2 g2 hne h2 k2 hB hd hold
    cases o2 with
    | cells cs2 =>
      obtain ⟨c0, t0, fr0, e1, e0, e2, e3, e4⟩ := hold
      rw [hB, hc] at e1
      injection e1 with e1
      injection e1 with e1 e1'
      subst e1
      refine ⟨c', t, (0, 0), by rw [hB]; exact hc', fun _ => rfl, e2, by omega, fun i v hv => ?_⟩
      obtain ⟨v', f1, f2⟩ := e4 i v hv
      have hi : i < cs2.length := (List.getElem?_eq_some_iff.1 hv).1
      exact ⟨v', by rw [hout' _ (by omega)]; exact f1, f2⟩
    | ro cs2 =>
      obtain ⟨c0, t0, fr, e1, e2, e3⟩ := hold
      rw [hB, hc] at e1
      injection e1 with e1
      injection e1 with e1 e1'
      subst e1
      refine ⟨c', t, (0, 0), by rw [hB]; exact hc', e2, fun i v hv => ?_⟩
      have hi : i < cs2.length := (List.getElem?_eq_some_iff.1 hv).1
      obtain ⟨v', f1, f2⟩ := e3 i v hv
      exact ⟨v', by rw [hout' _ (by omega)]; exact f1, f2⟩
    | map es clock => obtain ⟨_, _, es', e1, _⟩ := hold; rw [hB, hc] at e1; cases e1
    | loop st pend R nt ps as bd => obtain ⟨_, _, r, e1, _⟩ := hold; rw [hB, hc] at e1; cases e1
    | siter s pos => obtain ⟨_, _, e1⟩ := hold; rw [hB, hc] at e1; cases e1
    | tc t2 cs2 =>
      obtain ⟨a1, a2, a3, c0, e1, e2, e3, e4⟩ := hold
      rw [hB, hc] at e1
      injection e1 with e1
      injection e1 with e1 e1'
      subst e1
      subst e1'
      refine ⟨a1, a2, a3, c', by rw [hB]; exact hc', e2, by omega, fun i v hv => ?_⟩
      obtain ⟨v', f1, f2⟩ := e4 i v hv
      have hi : i < cs2.length := (List.getElem?_eq_some_iff.1 hv).1
      exact ⟨v', by rw [hout' _ (by omega)]; exact f1, f2⟩

theorem WRel.write (h : WRel σ W w.heap) {b : Nat} {cs cs' : List Value} {g : Seg} (hb : W.get b = some (.cells cs)) (hg : σ b = some g)
    (hsz : w'.heap.size = w.heap.size) (hos : w'.os = w.os) (htp : w'.tape = w.tape) (hout : w'.output = w.output)
    (hother : ∀ B, B ≠ g.B → w'.heap[B]? = w.heap[B]?)
    {c c' : Array Value} {t : TypeId} (hc : w.heap[g.B]? = some (.cells c t (0, 0))) (hc' : w'.heap[g.B]? = some (.cells c' t (0, 0))) (hcs : c'.size = c.size)
    (hout' : ∀ i, i < g.s ∨ g.e ≤ i → c'[i]? = c[i]?) (hlen : g.s + cs'.length ≤ g.e)
    (hin : ∀ (i : Nat) (v : Value), cs'[i]? = some v → ∃ v', c'[g.s + i]? = some v' ∧ VR σ v v') :
    WRel σ (W.put b (.cells cs')) w'.heap ∧ Ext σ W w σ (W.put b (.cells cs')) w' := by
  refine h.writeO hb (fun _ => by simp) (fun _ => by simp) hg hsz hos htp hout hother hc hc' hcs hout' ?_
  · obtain ⟨c0, t0, fr0, h1, h0, h2, h3, h4⟩ := h.obj b _ g hb hg
    rw [hc] at h1
    injection h1 with h1
    injection h1 with h1 h1'
    subst h1
    exact ⟨c', t, (0, 0), hc', fun _ => rfl, hlen, by omega, hin⟩

theorem WRel.writeT (h : WRel σ W w.heap) {b : Nat} {t0 : TypeId} {cs cs' : List Value} {g : Seg} (hb : W.get b = some (.tc t0 cs)) (hg : σ b = some g)
    (hsz : w'.heap.size = w.heap.size) (hos : w'.os = w.os) (htp : w'.tape = w.tape) (hout : w'.output = w.output)
    (hother : ∀ B, B ≠ g.B → w'.heap[B]? = w.heap[B]?)
    {c c' : Array Value} (hc : w.heap[g.B]? = some (.cells c t0 (0, 0))) (hc' : w'.heap[g.B]? = some (.cells c' t0 (0, 0))) (hcs : c'.size = c.size)
    (hlen : cs'.length = cs.length)
    (hin : ∀ (i : Nat) (v : Value), cs'[i]? = some v → ∃ v', c'[i]? = some v' ∧ VR σ v v') :
    WRel σ (W.put b (.tc t0 cs')) w'.heap ∧ Ext σ W w σ (W.put b (.tc t0 cs')) w' := by
  obtain ⟨a1, a2, a3, c0, h1, h2, h3, h4⟩ := h.obj b _ g hb hg
  rw [hc] at h1
  injection h1 with h1
  injection h1 with h1 h1'
  subst h1
  refine h.writeO hb (fun _ => by simp) (fun _ => by simp) hg hsz hos htp hout hother hc hc' hcs (fun i hi => ?_) ⟨a1, a2, ⟨a3.1, fun hx => by rw [hlen]; exact a3.2 hx⟩, c', hc', by omega, by omega, hin⟩
  rw [Array.getElem?_eq_none (by omega), Array.getElem?_eq_none (by omega)]

theorem WRel.setObj (h : WRel σ W w.heap) {b : Nat} {o o' : AObj} {g : Seg} {x : Obj} (hb : W.get b = some o) (hro : ∀ cs, o ≠ .ro cs) (hg : σ b = some g) (hse : g.s = 0 ∧ g.e = 1)
    (hnc : ∀ c t fr, w.heap[g.B]? ≠ some (.cells c t fr))
    (hnew : ORel σ (w.heap.setIfInBounds g.B x) g o') (hro' : ∀ cs, o' ≠ .ro cs := by intro _ hx; cases hx) :
    WRel σ (W.put b o') (w.heap.setIfInBounds g.B x) ∧ Ext σ W w σ (W.put b o') { w with heap := w.heap.setIfInBounds g.B x } := by
  refine h.turn (w' := { w with heap := w.heap.setIfInBounds g.B x }) hb hro hro' hg (by simp) rfl rfl rfl (fun B hB => ?_) hnew ?_
  · simp only [Array.getElem?_setIfInBounds]
    rw [if_neg (Ne.symm hB)]
  · intro b2 o2 g2 _ _ _ hB hd hold
    exfalso
    cases o2 with
    | cells cs2 => obtain ⟨c0, t0, fr0, e1, _⟩ := hold; rw [hB] at e1; exact hnc _ _ _ e1
    | ro cs2 => obtain ⟨c0, t0, fr, e1, _⟩ := hold; rw [hB] at e1; exact hnc _ _ _ e1
    | map es clock => obtain ⟨_, _, _⟩ := hold; omega
    | loop st pend R nt ps as bd => obtain ⟨_, _, _⟩ := hold; omega
    | siter s pos => obtain ⟨_, _, _⟩ := hold; omega
    | tc t2 cs2 => obtain ⟨_, _, _, c0, e1, _⟩ := hold; rw [hB] at e1; exact hnc _ _ _ e1

def bind1 (σ : Inj) (b : Nat) (g : Seg) : Inj := fun c => if c = b then some g else σ c
theorem bind1_sub {b : Nat} {g : Seg} (hb : σ b = none) : Sub σ (bind1 σ b g) := fun c k hc => by
  unfold bind1
  split
  · rename_i e; subst e; rw [hb] at hc; cases hc
  · exact hc
theorem bind1_same {b : Nat} {g : Seg} : bind1 σ b g b = some g := by simp [bind1]
theorem WRel.fresh (h : WRel σ W w.heap) : σ W.next = none := by
  cases hk : σ W.next with
  | none => rfl
  | some g => have := (h.dom _ _ hk).1; omega

theorem WRel.alloc (h : WRel σ W w.heap) {o : AObj} {x : Obj} {e : Nat}
    (hnew : ORel (bind1 σ W.next ⟨w.heap.size, 0, e⟩) (w.heap.push x) ⟨w.heap.size, 0, e⟩ o) (hro : ∀ cs, o ≠ .ro cs := by intro _ hx; cases hx) :
    WRel (bind1 σ W.next ⟨w.heap.size, 0, e⟩) (W.add o) (w.heap.push x) ∧ Ext σ W w (bind1 σ W.next ⟨w.heap.size, 0, e⟩) (W.add o) { w with heap := w.heap.push x } := by
  have hfr := h.fresh
  have hs : Sub σ (bind1 σ W.next ⟨w.heap.size, 0, e⟩) := bind1_sub hfr
  have hold : ∀ B, B < w.heap.size → (w.heap.push x)[B]? = w.heap[B]? := fun B hB => by
    rw [Array.getElem?_push]; rw [if_neg (by omega)]
  have hne : ∀ {c : Nat}, c ≠ W.next → (W.add o).get c = W.get c := fun hc => W.get_add_ne _ (Ne.symm hc)
  have hinv : ∀ c g, bind1 σ W.next ⟨w.heap.size, 0, e⟩ c = some g → (c = W.next ∧ g = ⟨w.heap.size, 0, e⟩) ∨ (c ≠ W.next ∧ σ c = some g) := fun c g hc => by
    unfold bind1 at hc
    split at hc
    · rename_i hx; injection hc with hc; exact .inl ⟨hx, hc.symm⟩
    · rename_i hx; exact .inr ⟨hx, hc⟩
  refine ⟨⟨?_, ?_, ?_, ?_⟩, ⟨hs, ?_, ?_, rfl, rfl, rfl, ?_, ?_, ?_⟩⟩
  · intro c hc
    have hc' : W.next + 1 ≤ c := hc
    rw [hne (by omega)]
    exact h.free c (by omega)
  · intro c g hc
    rcases hinv c g hc with ⟨rfl, rfl⟩ | ⟨_, h2⟩
    · simp [AW.add_next]
    · have := h.dom c g h2
      simp [AW.add_next]; omega
  · intro c o2 g hc hk
    rcases hinv c g hk with ⟨rfl, rfl⟩ | ⟨h1, h2⟩
    · rw [AW.get_add] at hc
      injection hc with hc
      subst hc
      exact hnew
    · rw [hne h1] at hc
      exact ((h.obj c o2 g hc h2).mono hs).same (hold _ (h.dom c g h2).2)
  · intro b1 b2 o1 o2 g1 g2 hbb h1 h2 k1 k2 hr
    rcases hinv b1 g1 k1 with ⟨rfl, rfl⟩ | ⟨x1, y1⟩
    · rcases hinv b2 g2 k2 with ⟨rfl, rfl⟩ | ⟨x2, y2⟩
      · exact absurd rfl hbb
      · have := (h.dom _ _ y2).2
        exact .inl (by simp only [ne_eq]; omega)
    · rcases hinv b2 g2 k2 with ⟨rfl, rfl⟩ | ⟨x2, y2⟩
      · have := (h.dom _ _ y1).2
        exact .inl (by simp only [ne_eq]; omega)
      · rw [hne x1] at h1
        rw [hne x2] at h2
        exact h.disj _ _ _ _ _ _ hbb h1 h2 y1 y2 hr
  · intro b cs hb
    by_cases hx : b = W.next
    · subst hx
      rw [h.free _ (Nat.le_refl _)] at hb
      cases hb
    · rw [hne hx]; exact hb
  · simp
  · intro B hB _; exact hold B hB
  · intro c o2 hc hk
    have hcn : c ≠ W.next := fun e => by subst e; rw [h.free _ (Nat.le_refl _)] at hc; cases hc
    refine ⟨by rw [hne hcn]; exact hc, ?_⟩
    unfold bind1
    rw [if_neg hcn]
    exact hk
  · intro c g hk hB
    rcases hinv c g hk with ⟨rfl, rfl⟩ | ⟨h1, h2⟩
    · simp at hB
    · exact .inl h2
end
end
section
variable [PlanTab]

theorem addr_add (B o j : Nat) : (⟨B, o, none⟩ : Addr).add j = ⟨B, o + j, none⟩ := by
  unfold Addr.add
  split
  · rename_i h; subst h; rfl
  · rfl
theorem add_spot (a : Addr) (j : Nat) (h : a.spot = none) : (a.add j).spot = none := by unfold Addr.add; split <;> simp [h]
theorem add_block (a : Addr) (j : Nat) : (a.add j).block = a.block := by unfold Addr.add; split <;> rfl
theorem add_off (a : Addr) (j : Nat) : (a.add j).off = a.off + j := by
  unfold Addr.add
  split
  · rename_i h; subst h; rfl
  · rfl

def tAgg (P : Program) (t : TypeId) : Option Bool := (P.underlying t).map fun d => match d with | .struct _ | .array .. => true | _ => false
def tSz (P : Program) (t : TypeId) : Option Nat := (P.info? t).map (·.size)
theorem tSz_cells {P : Program} {t : TypeId} {n : Nat} (h : tSz P t = some n) : ∃ i, P.info? t = some i ∧ i.size = n ∧ P.cellsOf t = n := by
  unfold tSz at h
  cases hi : P.info? t with
  | none => rw [hi] at h; cases h
  | some i => rw [hi] at h; simp at h; exact ⟨i, rfl, h, by simp [Program.cellsOf, hi, h]⟩
theorem run_sizeOf' {P : Program} {t : TypeId} {n : Nat} (h : tSz P t = some n) (w : World) : (sizeOf t).run P w = .ok n w := by
  obtain ⟨i, hi, _, h3⟩ := tSz_cells h
  have : (sizeOf t).run P w = .ok (P.cellsOf t) w := by simp [sizeOf, typeInfo, hi, Program.cellsOf]
  rw [this, h3]
theorem run_isAgg' {P : Program} {t : TypeId} {b : Bool} (h : tAgg P t = some b) (w : World) : (isAgg t).run P w = .ok b w := by
  unfold tAgg at h
  cases hu : P.underlying t with
  | none => rw [hu] at h; cases h
  | some d =>
    rw [hu] at h
    simp only [Option.map_some, Option.some.injEq] at h
    subst h
    cases d <;> simp [isAgg, run_underlying hu]

noncomputable def cellsAt (W : AW) (b : Nat) : Option (List Value) := match W.get b with | some (.cells cs) => some cs | some (.ro cs) => some cs | some (.tc _ cs) => some cs | _ => none
section
variable {P : Program} {σ : Inj} {W : AW} {w : World}

theorem cellsAt_read (h : WRel σ W w.heap) {b : Nat} {cs : List Value} {g : Seg} (hc : cellsAt W b = some cs) (hg : σ b = some g) {i : Nat} {v : Value} (hv : cs[i]? = some v) :
    ∃ v', w.cell? ⟨g.B, g.s + i, none⟩ = some v' ∧ VR σ v v' := by
  unfold cellsAt at hc
  split at hc
  · rename_i cs' hget
    injection hc with hc; subst hc
    obtain ⟨c, t, fr, h1, h0, h2, h3, h4⟩ := h.obj b _ g hget hg
    obtain ⟨v', f1, f2⟩ := h4 i v hv
    exact ⟨v', by simp [World.cell?, h1, f1], f2⟩
  · rename_i cs' hget
    injection hc with hc; subst hc
    obtain ⟨c, t, fr, h1, h2, h4⟩ := h.obj b _ g hget hg
    obtain ⟨v', f1, f2⟩ := h4 i v hv
    exact ⟨v', by simp [World.cell?, h1, f1], f2⟩
  · rename_i t cs' hget
    injection hc with hc; subst hc
    obtain ⟨a1, a2, a3, c, h1, h2, h3, h4⟩ := h.obj b _ g hget hg
    obtain ⟨v', f1, f2⟩ := h4 i v hv
    exact ⟨v', by simp [World.cell?, h1, a1, f1], f2⟩
  · cases hc

/- quick lists: each step small for the kernel -/
noncomputable def ldrop {α : Type} (l : List α) : Nat → List α :=
  List.rec (motive := fun _ => Nat → List α) (fun _ => []) (fun v t ih n => Nat.rec (motive := fun _ => List α) (v :: t) (fun m _ => ih m) n) l
noncomputable def ltakeO {α : Type} (l : List α) : Nat → Option (List α) :=
  List.rec (motive := fun _ => Nat → Option (List α)) (fun n => Nat.rec (motive := fun _ => Option (List α)) (some []) (fun _ _ => none) n)
    (fun v _ ih n => Nat.rec (motive := fun _ => Option (List α)) (some []) (fun m _ => Option.rec (motive := fun _ => Option (List α)) none (fun r => some (v :: r)) (ih m)) n) l
theorem ldrop_eq {α : Type} (l : List α) : ∀ n, ldrop l n = l.drop n := by
  induction l with
  | nil => intro n; simp [ldrop]
  | cons v l ih => intro n; cases n with | zero => rfl | succ n => exact (ih n).trans (by simp)
theorem ltakeO_eq {α : Type} (l : List α) : ∀ n, ltakeO l n = if (l.take n).length = n then some (l.take n) else none := by
  induction l with
  | nil => intro n; cases n with | zero => rfl | succ n => simp [ltakeO]
  | cons v l ih =>
    intro n
    cases n with
    | zero => rfl
    | succ n =>
      show Option.rec (motive := fun _ => Option (List α)) none (fun r => some (v :: r)) (ltakeO l n) = _
      rw [ih n]
      by_cases h : (l.take n).length = n
      · rw [if_pos h, if_pos (by simp only [List.take_succ_cons, List.length_cons, h])]; simp
      · rw [if_neg h, if_neg (by simp only [List.take_succ_cons, List.length_cons]; omega)]
noncomputable def readN (W : AW) (b off n : Nat) : Option (List Value) :=
  match cellsAt W b with
  | some cs => ltakeO (ldrop cs off) n
  | none => none
theorem readN_def (W : AW) (b off n : Nat) : readN W b off n = match cellsAt W b with
    | some cs => let l := (cs.drop off).take n; if l.length = n then some l else none
    | none => none := by
  unfold readN
  cases cellsAt W b with
  | none => rfl
  | some cs => simp only [ldrop_eq, ltakeO_eq]
theorem readN_run (h : WRel σ W w.heap) {b off n : Nat} {l : List Value} {g : Seg} (hr : readN W b off n = some l) (hg : σ b = some g) :
    ∃ l', LR σ l l' ∧ l.length = n ∧ (∀ j v, l'[j]? = some v → w.cell? ⟨g.B, g.s + off + j, none⟩ = some v) ∧ (loadCells ⟨g.B, g.s + off, none⟩ n).run P w = .ok l'.toArray w := by
  rw [readN_def] at hr
  split at hr
  · rename_i cs hc
    simp only at hr
    split at hr
    · rename_i hlen
      injection hr with hr
      have hget : ∀ j v, l[j]? = some v → ∃ v', w.cell? ⟨g.B, g.s + off + j, none⟩ = some v' ∧ VR σ v v' := by
        intro j v hj
        rw [← hr, List.getElem?_take] at hj
        split at hj
        · rw [List.getElem?_drop] at hj
          obtain ⟨v', a, b⟩ := cellsAt_read h hc hg hj
          exact ⟨v', by rw [Nat.add_assoc]; exact a, b⟩
        · cases hj
      have hln : l.length = n := by rw [← hr]; exact hlen
      let f : Nat → Value := fun j => (w.cell? ⟨g.B, g.s + off + j, none⟩).getD undef
      refine ⟨(List.range n).map f, ⟨by simp [hln], fun j v v' a b => ?_⟩, hln, ?_, ?_⟩
      · have hj : j < n := by rw [← hln]; exact (List.getElem?_eq_some_iff.1 a).1
        obtain ⟨u, h1, h2⟩ := hget j v a
        simp [hj, f, h1] at b
        subst b
        exact h2
      · intro j v hj
        have hjn : j < n := by
          have := (List.getElem?_eq_some_iff.1 hj).1
          simpa using this
        obtain ⟨u, h1, h2⟩ := hget j l[j] (List.getElem?_eq_getElem (by omega))
        simp [hjn, f, h1] at hj
        subst hj
        exact h1
      · have := run_loadCells (P := P) w ⟨g.B, g.s + off, none⟩ n f (fun j hj => by
          rw [addr_add]
          obtain ⟨u, h1, h2⟩ := hget j l[j] (List.getElem?_eq_getElem (by omega))
          simp [f, h1])
        exact this
    · cases hr
  · cases hr

noncomputable def aLoad (P : Program) (W : AW) (t : TypeId) (x : Value) : Option Value :=
  match x with
  | .pointer (some a) => match tAgg P t with
    | some false => match cellsAt W a.block with
      | some cs => lget cs a.off
      | none => none
    | some true => match tSz P t with
      | some n => (readN W a.block a.off n).map fun l => .agg l.toArray
      | none => none
    | none => none
  | _ => none
theorem aLoad_run (h : WRel σ W w.heap) {t : TypeId} {x x' v : Value} (ha : aLoad P W t x = some v) (hx : VR σ x x') :
    ∃ v', (Instr.loadAt t x').run P w = .ok v' w ∧ VR σ v v' := by
  unfold aLoad at ha
  split at ha
  · rename_i a
    cases hx with
    | ptr a g hg hs =>
      split at ha
      · rename_i hagg
        split at ha
        · rename_i cs hc
          rw [lget_eq] at ha
          obtain ⟨v', h1, h2⟩ := cellsAt_read h hc hg ha
          exact ⟨v', by simp [Instr.loadAt, Instr.sureAddr, loadVar, run_isAgg' hagg, h1], h2⟩
        · cases ha
      · rename_i hagg
        split at ha
        · rename_i n hn
          cases hr : readN W a.block a.off n with
          | none => rw [hr] at ha; cases ha
          | some l =>
            rw [hr] at ha
            simp only [Option.map_some, Option.some.injEq] at ha
            subst ha
            obtain ⟨l', h1, _, _, h3⟩ := readN_run (P := P) h hr hg
            exact ⟨.agg l'.toArray, by simp [Instr.loadAt, Instr.sureAddr, loadVar, run_isAgg' hagg, run_sizeOf' hn, h3], VR.agg' (by simpa using h1)⟩
        · cases ha
      · cases ha
  · cases ha

def one (v : Value) : Bool := v.oneCell'
theorem one_of {v v' : Value} (h : VR σ v v') : one v' = one v := by cases h <;> rfl
theorem one_all {l l' : List Value} (h : LR σ l l') (ha : l.all one = true) : ∀ v ∈ l', v.oneCell' = true := by
  intro v hv
  obtain ⟨i, hi⟩ := List.getElem?_of_mem hv
  have hil : i < l.length := by rw [h.1]; exact (List.getElem?_eq_some_iff.1 hi).1
  have := h.2 i l[i] v (List.getElem?_eq_getElem hil) hi
  rw [show v.oneCell' = one v from rfl, one_of this]
  exact List.all_eq_true.1 ha _ (List.getElem_mem hil)

noncomputable def setN (cs : List Value) (off : Nat) (vs : List Value) : List Value := cs.take off ++ vs ++ cs.drop (off + vs.length)
noncomputable def oneF : Value → Bool :=
  Value.rec (motive_1 := fun _ => Bool) (motive_2 := fun _ => PUnit) (motive_3 := fun _ => PUnit) (fun _ => true) (fun _ _ => true) (fun _ _ => true) (fun _ _ _ => true) (fun _ => true) (fun _ => true) (fun _ _ _ => true) (fun _ => true) (fun _ => true) (fun _ _ _ _ _ => true) true (fun _ _ _ => true) true (fun _ _ => false) (fun _ _ => false) (fun _ _ => .unit) .unit (fun _ _ _ _ => .unit)
theorem oneF_eq (v : Value) : oneF v = one v := by cases v <;> rfl
noncomputable def lputO (vs : List Value) : List Value → Option (List Value) :=
  List.rec (motive := fun _ => List Value → Option (List Value)) (fun cs => some cs)
    (fun v _ ih cs => List.rec (motive := fun _ => Option (List Value)) none (fun _ t _ => Bool.rec (motive := fun _ => Option (List Value)) none (Option.rec (motive := fun _ => Option (List Value)) none (fun r => some (v :: r)) (ih t)) (oneF v)) cs) vs
theorem lputO_eq (vs : List Value) : ∀ cs, lputO vs cs = if vs.length ≤ cs.length ∧ vs.all one = true then some (vs ++ cs.drop vs.length) else none := by
  induction vs with
  | nil => intro cs; simp [lputO]
  | cons v vs ih =>
    intro cs
    cases cs with
    | nil => simp [lputO]
    | cons c t =>
      show Bool.rec (motive := fun _ => Option (List Value)) none (Option.rec (motive := fun _ => Option (List Value)) none (fun r => some (v :: r)) (lputO vs t)) (oneF v) = _
      rw [ih t, oneF_eq]
      cases h1 : one v with
      | false => simp [h1]
      | true =>
        by_cases h : vs.length ≤ t.length ∧ vs.all one = true
        · rw [if_pos h, if_pos (by simp only [List.length_cons, List.all_cons, h1, h.2]; exact ⟨by omega, rfl⟩)]; simp
        · rw [if_neg h, if_neg (by simp only [List.length_cons, List.all_cons, h1, Bool.true_and]; exact fun k => h ⟨by omega, k.2⟩)]
noncomputable def lwrite (cs : List Value) : Nat → List Value → Option (List Value) :=
  List.rec (motive := fun _ => Nat → List Value → Option (List Value)) (fun n vs => Nat.rec (motive := fun _ => Option (List Value)) (lputO vs []) (fun _ _ => none) n)
    (fun c t ih n vs => Nat.rec (motive := fun _ => Option (List Value)) (lputO vs (c :: t)) (fun m _ => Option.rec (motive := fun _ => Option (List Value)) none (fun r => some (c :: r)) (ih m vs)) n) cs
theorem lwrite_eq (cs : List Value) : ∀ (off : Nat) (vs : List Value), lwrite cs off vs = if off + vs.length ≤ cs.length ∧ vs.all one = true then some (setN cs off vs) else none := by
  induction cs with
  | nil =>
    intro off vs
    cases off with
    | zero => show lputO vs [] = _; rw [lputO_eq]; simp [setN]
    | succ n => show (none : Option (List Value)) = _; rw [if_neg (by simp)]
  | cons c t ih =>
    intro off vs
    cases off with
    | zero => show lputO vs (c :: t) = _; rw [lputO_eq]; simp [setN]
    | succ n =>
      show Option.rec (motive := fun _ => Option (List Value)) none (fun r => some (c :: r)) (lwrite t n vs) = _
      rw [ih n vs]
      have e : n + 1 + vs.length = (n + vs.length) + 1 := by omega
      by_cases h : n + vs.length ≤ t.length ∧ vs.all one = true
      · rw [if_pos h, if_pos ⟨by simp only [List.length_cons]; omega, h.2⟩]
        simp [setN, e]
      · rw [if_neg h, if_neg (by simp only [List.length_cons]; exact fun k => h ⟨by omega, k.2⟩)]
noncomputable def writeN (W : AW) (b off : Nat) (vs : List Value) : Option AW :=
  match W.get b with
  | some (.cells cs) => (match lwrite cs off vs with
    | some l => some (W.put b (.cells l))
    | none => none)
  | some (.tc t cs) => (match lwrite cs off vs with
    | some l => some (W.put b (.tc t l))
    | none => none)
  | _ => none
theorem writeN_def (W : AW) (b off : Nat) (vs : List Value) : writeN W b off vs = match W.get b with
    | some (.cells cs) => if off + vs.length ≤ cs.length ∧ vs.all one = true then some (W.put b (.cells (setN cs off vs))) else none
    | some (.tc t cs) => if off + vs.length ≤ cs.length ∧ vs.all one = true then some (W.put b (.tc t (setN cs off vs))) else none
    | _ => none := by
  unfold writeN
  split
  · rename_i cs hcs
    rw [lwrite_eq]
    by_cases h : off + vs.length ≤ cs.length ∧ vs.all one = true
    · rw [if_pos h, if_pos h]
    · rw [if_neg h, if_neg h]
  · rename_i t cs hcs
    rw [lwrite_eq]
    by_cases h : off + vs.length ≤ cs.length ∧ vs.all one = true
    · rw [if_pos h, if_pos h]
    · rw [if_neg h, if_neg h]
  · rfl

theorem list_seg (c : List Value) (o : Nat) (vs : List Value) (h : o + vs.length ≤ c.length) (i : Nat) :
    (c.take o ++ vs ++ c.drop (o + vs.length))[i]? = if o ≤ i ∧ i < o + vs.length then vs[i - o]? else c[i]? := by
  rw [List.append_assoc, List.getElem?_append]
  simp only [List.length_take]
  have hm : min o c.length = o := by omega
  rw [hm]
  split
  · rename_i h1; rw [List.getElem?_take, if_pos h1, if_neg (by omega)]
  · rename_i h1
    rw [List.getElem?_append]
    split
    · rename_i h2; rw [if_pos (by omega)]
    · rename_i h2
      rw [if_neg (by omega), List.getElem?_drop]
      congr 1
      omega

theorem setRow_getElem (w : World) (g B : Nat) (c : Array Value) (h : B ≠ g) : (w.setRow g c).heap[B]? = w.heap[B]? := by
  simp only [World.setRow, Array.getElem?_modify]
  rw [if_neg (Ne.symm h)]

theorem writeN_run (h : WRel σ W w.heap) {b off : Nat} {vs vs' : List Value} {W' : AW} {g : Seg} (hw : writeN W b off vs = some W') (hg : σ b = some g) (hv : LR σ vs vs') :
    ∃ w', (storeCells ⟨g.B, g.s + off, none⟩ vs').run P w = .ok () w' ∧ WRel σ W' w'.heap ∧ Ext σ W w σ W' w' := by
  rw [writeN_def] at hw
  split at hw
  · rename_i cs hget
    split at hw
    · rename_i hcond
      injection hw with hw
      obtain ⟨hlen, hone⟩ := hcond
      obtain ⟨c, t, fr, h1, h0, h2, h3, h4⟩ := h.obj b _ g hget hg
      have hvl := hv.1
      by_cases hgs : g.s < g.e
      case neg =>
        have hv0 : vs' = [] := List.eq_nil_of_length_eq_zero (by omega)
        have hvs0 : vs = [] := List.eq_nil_of_length_eq_zero (by omega)
        have hcs0 : cs = [] := List.eq_nil_of_length_eq_zero (by omega)
        subst hv0; subst hvs0; subst hcs0
        have hoff : off = 0 := by simpa using hlen
        subst hoff
        refine ⟨w, by simp [storeCells], ?_⟩
        rw [← hw]
        have hset : setN ([] : List Value) 0 [] = [] := rfl
        rw [hset]
        refine h.turn hget (fun _ => by simp) (fun _ => by simp) hg rfl rfl rfl rfl (fun _ _ => rfl) ⟨c, t, fr, h1, h0, h2, h3, h4⟩ (fun _ _ _ _ _ _ _ _ k => k)
      obtain rfl := h0 hgs
      have hst := run_storeCells_at (P := P) g.B (g.s + off) t vs' 0 c w h1 (by omega) (one_all hv hone)
      simp only [Nat.add_zero] at hst
      refine ⟨_, hst, ?_⟩
      rw [← hw]
      have hseg := list_seg c.toList (g.s + off) vs' (by simp; omega)
      refine h.write (cs' := setN cs off vs) hget hg (by simp [World.setRow]) rfl rfl rfl (fun B hB => setRow_getElem w g.B B _ hB) h1 (setRow_heap w g.B c _ t _ h1) (by simp; omega) ?_ ?_ ?_
      · intro i hi
        have := hseg i
        rw [if_neg (by omega)] at this
        simpa using this
      · simp [setN]; omega
      · intro i v hiv
        have hsg := list_seg cs off vs hlen i
        rw [show setN cs off vs = cs.take off ++ vs ++ cs.drop (off + vs.length) from rfl, hsg] at hiv
        have hs2 := hseg (g.s + i)
        by_cases hin : off ≤ i ∧ i < off + vs.length
        · rw [if_pos hin] at hiv
          rw [if_pos (by omega)] at hs2
          obtain ⟨v', f1, f2⟩ := hv.get hiv
          refine ⟨v', ?_, f2⟩
          rw [show g.s + i - (g.s + off) = i - off by omega] at hs2
          rw [← f1]
          simpa using hs2
        · rw [if_neg hin] at hiv
          rw [if_neg (by omega)] at hs2
          obtain ⟨v', f1, f2⟩ := h4 i v hiv
          exact ⟨v', by rw [← f1]; simpa using hs2, f2⟩
    · cases hw
  · rename_i t cs hget
    split at hw
    · rename_i hcond
      injection hw with hw
      obtain ⟨hlen, hone⟩ := hcond
      obtain ⟨a1, a2, a3, c, h1, h2, h3, h4⟩ := h.obj b _ g hget hg
      have hvl := hv.1
      have hst := run_storeCells_at (P := P) g.B (g.s + off) t vs' 0 c w h1 (by omega) (one_all hv hone)
      simp only [Nat.add_zero] at hst
      refine ⟨_, hst, ?_⟩
      rw [← hw]
      have hseg := list_seg c.toList (g.s + off) vs' (by simp; omega)
      refine h.writeT (cs' := setN cs off vs) hget hg (by simp [World.setRow]) rfl rfl rfl (fun B hB => setRow_getElem w g.B B _ hB) h1 (setRow_heap w g.B c _ t _ h1) (by simp; omega) ?_ ?_
      · simp [setN]; omega
      · intro i v hiv
        have hsg := list_seg cs off vs hlen i
        rw [show setN cs off vs = cs.take off ++ vs ++ cs.drop (off + vs.length) from rfl, hsg] at hiv
        have hs2 := hseg i
        by_cases hin : off ≤ i ∧ i < off + vs.length
        · rw [if_pos hin] at hiv
          rw [if_pos (by omega)] at hs2
          obtain ⟨v', f1, f2⟩ := hv.get hiv
          refine ⟨v', ?_, f2⟩
          rw [show i - (g.s + off) = i - off by omega] at hs2
          rw [← f1]
          simpa using hs2
        · rw [if_neg hin] at hiv
          rw [if_neg (by omega)] at hs2
          obtain ⟨v', f1, f2⟩ := h4 i v hiv
          exact ⟨v', by rw [← f1]; simpa using hs2, f2⟩
    · cases hw
  · cases hw

noncomputable def aStore (P : Program) (W : AW) (t : TypeId) (x v : Value) : Option AW :=
  match x with
  | .pointer (some a) => match tSz P t with
    | some n => if v.cells.size = n then writeN W a.block a.off v.cells.toList else none
    | none => none
  | _ => none
theorem aStore_run (h : WRel σ W w.heap) {t : TypeId} {x x' v v' : Value} {W' : AW} (ha : aStore P W t x v = some W') (hx : VR σ x x') (hv : VR σ v v') :
    ∃ w', (Instr.storeAt t x' v').run P w = .ok () w' ∧ WRel σ W' w'.heap ∧ Ext σ W w σ W' w' := by
  unfold aStore at ha
  split at ha
  · rename_i a
    cases hx with
    | ptr a g hg hs =>
      split at ha
      · rename_i n hn
        split at ha
        · rename_i hsz
          obtain ⟨w', h1, h2⟩ := writeN_run (P := P) h ha hg hv.cells
          have hsz' : v'.cells.size = n := by
            have := hv.cells.1
            simp at this
            omega
          exact ⟨w', by simp [Instr.storeAt, Instr.sureAddr, storeVar, run_sizeOf' hn, hsz', h1], h2⟩
        · cases ha
      · cases ha
  · cases ha

theorem newRow_run (h : WRel σ W w.heap) (t : TypeId) {cs cs' : List Value} (hc : LR σ cs cs') :
    (newRow t cs'.toArray).run P w = .ok ⟨w.heap.size, 0, none⟩ { w with heap := w.heap.push (.cells cs'.toArray t) } ∧
    bind1 σ W.next ⟨w.heap.size, 0, cs.length⟩ W.next = some ⟨w.heap.size, 0, cs.length⟩ ∧
    WRel (bind1 σ W.next ⟨w.heap.size, 0, cs.length⟩) (W.add (.cells cs)) (w.heap.push (.cells cs'.toArray t)) ∧
    Ext σ W w (bind1 σ W.next ⟨w.heap.size, 0, cs.length⟩) (W.add (.cells cs)) { w with heap := w.heap.push (.cells cs'.toArray t) } := by
  refine ⟨by simp [newRow], bind1_same, h.alloc ?_⟩
  refine ⟨cs'.toArray, t, (0, 0), by simp, fun _ => rfl, by simp, by simp [hc.1], fun i v hv => ?_⟩
  obtain ⟨v', a, b⟩ := hc.get hv
  exact ⟨v', by simpa using a, b.mono (bind1_sub h.fresh)⟩

theorem WRel.kill (h : WRel σ W w.heap) {b : Nat} {g0 : Seg} (hb : ∀ cs, W.get b ≠ some (.ro cs)) (hg0 : σ b = some g0) : WRel σ (W.kill b) w.heap ∧ Ext σ W w σ (W.kill b) w := by
  have hk : ∀ c o, (W.kill b).get c = some o → c ≠ b ∧ W.get c = some o := fun c o hc => by
    by_cases hx : c = b
    · subst hx; rw [AW.get_kill] at hc; cases hc
    · rw [AW.get_kill_ne _ (Ne.symm hx)] at hc; exact ⟨hx, hc⟩
  refine ⟨⟨?_, h.dom, ?_, ?_⟩, ⟨.refl _, ?_, Nat.le_refl _, rfl, rfl, rfl, fun _ _ _ => rfl, ?_, ?_⟩⟩
  · intro c hc
    by_cases hx : c = b
    · subst hx; exact AW.get_kill _ _
    · rw [AW.get_kill_ne _ (Ne.symm hx)]; exact h.free c hc
  · intro c o g hc hg; exact h.obj c o g (hk c o hc).2 hg
  · intro b1 b2 o1 o2 g1 g2 hne h1 h2 k1 k2 hr
    exact h.disj b1 b2 o1 o2 g1 g2 hne (hk _ _ h1).2 (hk _ _ h2).2 k1 k2 hr
  · intro c cs hc
    have hx : c ≠ b := fun e => by subst e; exact hb cs hc
    rw [AW.get_kill_ne _ (Ne.symm hx)]; exact hc
  · intro c o2 hc hkn
    have hcb : c ≠ b := fun e => by subst e; rw [hg0] at hkn; cases hkn
    exact ⟨by rw [AW.get_kill_ne _ (Ne.symm hcb)]; exact hc, hkn⟩
  · exact fun c g hg _ => .inl hg
end
end
section
variable [PlanTab]

noncomputable def pureRun (P : Program) {α : Type} (s : Sem α) : Option α :=
  Sem.rec (motive := fun _ => Option α) (fun a => some a) (fun _ _ _ _ => none) (fun _ _ _ _ _ => none) (fun _ _ _ => none) (fun _ _ _ => none) (fun _ _ _ _ => none) (fun _ _ _ => none) (fun _ _ _ => none) (fun _ _ _ _ => none) (fun _ _ _ => none) (fun _ _ _ => none) (fun _ ih => ih P) (fun _ _ _ => none) (fun _ => none) s
theorem pureRun_run {P : Program} {α : Type} (s : Sem α) {a : α} (h : pureRun P s = some a) (w : World) : s.run P w = .ok a w := by
  induction s generalizing w with
  | pure b => simp only [pureRun] at h; injection h with h; subst h; rfl
  | program k ih => exact ih P h w
  | load m b k ih => simp [pureRun] at h
  | store m b v k ih => simp [pureRun] at h
  | new o k ih => simp [pureRun] at h
  | shape r k ih => simp [pureRun] at h
  | freeze b n k ih => simp [pureRun] at h
  | frozen b k ih => simp [pureRun] at h
  | getObj r k ih => simp [pureRun] at h
  | setObj r o k ih => simp [pureRun] at h
  | choose q k ih => simp [pureRun] at h
  | sys c k ih => simp [pureRun] at h
  | mark m k ih => simp [pureRun] at h
  | halt x => simp [pureRun] at h

noncomputable def aEval (R : PlanTab.Fr) (o : Operand) : Value :=
  match o with
  | .tmp t => rget R t
  | .const v => v
  | .global g => .pointer (some ⟨g, 0, none⟩)
  | .func f => .func (.func f) #[] #[]
theorem aEval_rel {nt : Nat} {ng : List Nat} {σ : Inj} {R : PlanTab.Fr} {a : Act} (hR : RegRel nt σ R a.tmps) (hG : Glob σ ng) {o : Operand} (ho : okOperand nt ng o = true) : VR σ (aEval R o) (a.eval o) := by
  cases o with
  | tmp t => exact hR.2 t (by simpa [okOperand] using ho)
  | const v => exact plain_refl ho
  | global g =>
    obtain ⟨e, he⟩ := hG g (inL_iff.1 ho)
    have := VR.ptr (σ := σ) ⟨g, 0, none⟩ _ he rfl
    simpa [aEval, Act.eval] using this
  | func f => exact .func _ _ _ _ _ _ (.func f) rfl (fun i v v' h => by simp at h) rfl (fun i v v' h => by simp at h)

noncomputable def nextVal : Option Next → Option Value
  | some (.value v) => some v
  | _ => none
def notSelect : Op → Bool
  | .select .. => false
  | _ => true
noncomputable def aPure (P : Program) (R : PlanTab.Fr) (o : Oper) : Option Value :=
  if notSelect o.op && o.op.operands.toList.all (fun x => plain (aEval R x)) then
    match nextVal (pureRun P (execOp (aEval R) o)) with
    | some v => if plain v then some v else none
    | none => none
  else none
theorem aPure_run {P : Program} {σ : Inj} {R : PlanTab.Fr} {ρ : Operand → Value} {o : Oper} {v : Value} (h : aPure P R o = some v)
    (hρ : ∀ x ∈ o.op.operands, VR σ (aEval R x) (ρ x)) (w : World) : (execOp ρ o).run P w = .ok (.value v) w ∧ VR σ v v := by
  unfold aPure at h
  split at h
  · rename_i hc
    simp only [Bool.and_eq_true, List.all_eq_true] at hc
    obtain ⟨hns, hpl⟩ := hc
    have hcong : execOp (aEval R) o = execOp ρ o := execOp_congr o (fun cs b e => by rw [e] at hns; simp [notSelect] at hns) (fun x hx => (plain_eq (hpl x (by simpa using hx)) (hρ x hx)).symm)
    rw [hcong] at h
    split at h
    · rename_i u hu
      split at h
      · rename_i hp
        injection h with h
        subst h
        cases hr : pureRun P (execOp ρ o) with
        | none => rw [hr] at hu; cases hu
        | some nx =>
          rw [hr] at hu
          cases nx <;> first | (simp only [nextVal] at hu; injection hu with hu; subst hu; exact ⟨pureRun_run _ hr w, plain_refl hp⟩) | (simp [nextVal] at hu)
      · cases h
    · cases h
  · cases h

def AR (σ : Inj) (a a' : Array Value) : Prop := LR σ a.toList a'.toList
theorem AR.size {σ : Inj} {a a' : Array Value} (h : AR σ a a') : a.size = a'.size := by have := h.1; simpa using this
theorem AR.set {σ : Inj} {a a' : Array Value} (h : AR σ a a') (n : Nat) {x x' : Value} (hx : VR σ x x') : AR σ (a.setIfInBounds n x) (a'.setIfInBounds n x') := by
  unfold AR
  simp only [Array.toList_setIfInBounds]
  exact LR.set h n hx
theorem fold_set {σ : Inj} (off : Nat) : ∀ (l l' : List Value) (k : Nat) (a a' : Array Value), LR σ l l' → AR σ a a' →
    AR σ ((l.zipIdx k).foldl (fun cs p => cs.setIfInBounds (off + p.2) p.1) a) ((l'.zipIdx k).foldl (fun cs p => cs.setIfInBounds (off + p.2) p.1) a') := by
  intro l
  induction l with
  | nil => intro l' k a a' h ha; have := h.of_nil; subst this; exact ha
  | cons v l ih =>
    intro l' k a a' h ha
    obtain ⟨v', l'', rfl, hv, hl⟩ := h.of_cons
    simp only [List.zipIdx_cons, List.foldl_cons]
    exact ih l'' (k + 1) _ _ hl (ha.set _ hv)
def PR (σ : Inj) (ps ps' : List (Nat × Value)) : Prop := ps.length = ps'.length ∧ ∀ (i : Nat) (p p' : Nat × Value), ps[i]? = some p → ps'[i]? = some p' → p.1 = p'.1 ∧ VR σ p.2 p'.2
theorem PR.of_cons {σ : Inj} {p : Nat × Value} {l m : List (Nat × Value)} (h : PR σ (p :: l) m) : ∃ v' l', m = (p.1, v') :: l' ∧ VR σ p.2 v' ∧ PR σ l l' := by
  cases m with
  | nil => have := h.1; simp at this
  | cons q l' =>
    have h0 := h.2 0 p q (by simp) (by simp)
    refine ⟨q.2, l', ?_, h0.2, by have := h.1; simpa using this, fun i u u' a b => h.2 (i + 1) u u' (by simpa using a) (by simpa using b)⟩
    rw [h0.1]
theorem fill_rel {σ : Inj} (place : Nat → Option (Nat × Nat)) : ∀ (ps ps' : List (Nat × Value)) (a a' out : Array Value), PR σ ps ps' → AR σ a a' → Instr.fill place a ps = some out →
    ∃ out', Instr.fill place a' ps' = some out' ∧ AR σ out out' := by
  intro ps
  induction ps with
  | nil =>
    intro ps' a a' out h ha hf
    have : ps' = [] := by have := h.1; simp at this; exact List.eq_nil_of_length_eq_zero this.symm
    subst this
    simp only [Instr.fill] at hf ⊢
    injection hf with hf
    subst hf
    exact ⟨a', rfl, ha⟩
  | cons p ps ih =>
    intro ps' a a' out h ha hf
    obtain ⟨v', l', rfl, hv, hl⟩ := h.of_cons
    obtain ⟨i, v⟩ := p
    simp only [Instr.fill] at hf ⊢
    cases hp : place i with
    | none => rw [hp] at hf; cases hf
    | some os =>
      obtain ⟨off, size⟩ := os
      rw [hp] at hf
      simp only at hf ⊢
      have hcs : v.cells.size = v'.cells.size := by have := hv.cells.1; simpa using this
      rw [← hcs, ← ha.size]
      split at hf
      · cases hf
      · rename_i hcond
        rw [if_neg hcond]
        refine ih l' _ _ out hl ?_ hf
        have := fold_set off v.cells.toList v'.cells.toList 0 a a' hv.cells ha
        have e1 : ∀ (u : Value) (b : Array Value), Array.foldl (fun cs (x : Value × Nat) => cs.setIfInBounds (off + x.2) x.1) b u.cells.zipIdx = (u.cells.toList.zipIdx 0).foldl (fun cs p => cs.setIfInBounds (off + p.2) p.1) b := fun u b => by
          rw [← Array.foldl_toList, Array.toList_zipIdx]
        rw [← e1, ← e1] at this
        exact this

section
variable {P : Program} {σ : Inj} {W : AW} {w : World}

def tZero (P : Program) (t : TypeId) : Option Value := match (P.info? t).bind (·.zero) with | some z => if z.cells.toList.all scalar then some z else none | none => none
theorem tZero_run {t : TypeId} {z : Value} (h : tZero P t = some z) (w : World) : (zeroValue t).run P w = .ok z w ∧ z.cells.toList.all scalar = true := by
  unfold tZero at h
  split at h
  · rename_i z0 hz
    split at h
    · rename_i hs
      injection h with h
      subst h
      cases hi : P.info? t with
      | none => rw [hi] at hz; cases hz
      | some i =>
        rw [hi] at hz
        simp only [Option.bind_some] at hz
        exact ⟨by simp [zeroValue, typeInfo, hi, hz], hs⟩
    · cases h
  · cases h
theorem zero_AR {z : Value} (h : z.cells.toList.all scalar = true) : AR σ z.cells z.cells := LR.refl_of (fun _ => scalar_refl) h

noncomputable def parts (R : PlanTab.Fr) (ps : Array (Nat × Operand)) : List (Nat × Value) := ps.toList.map fun p => (p.1, aEval R p.2)
theorem parts_rel {R : PlanTab.Fr} {ρ : Operand → Value} (ps : Array (Nat × Operand)) (h : ∀ p ∈ ps.toList, VR σ (aEval R p.2) (ρ p.2)) :
    PR σ (parts R ps) (ps.map fun (i, x) => (i, ρ x)).toList := by
  refine ⟨by simp [parts], fun i p p' a b => ?_⟩
  simp only [parts, List.getElem?_map, Array.toList_map] at a b
  cases hq : ps.toList[i]? with
  | none => rw [hq] at a; cases a
  | some q =>
    rw [hq] at a b
    simp at a b
    subst a
    subst b
    exact ⟨rfl, h q (List.mem_of_getElem? hq)⟩
def placesOf (P : Program) : List Field → Option (List (Nat × Nat))
  | [] => some []
  | f :: fs => match tSz P f.type, placesOf P fs with
    | some n, some l => some ((f.offset, n) :: l)
    | _, _ => none
theorem placesOf_run : ∀ (fs : List Field) (l : List (Nat × Nat)), placesOf P fs = some l → ∀ w, ((fs.mapM fun f => do pure (f.offset, ← sizeOf f.type)) : Sem (List (Nat × Nat))).run P w = .ok l w := by
  intro fs
  induction fs with
  | nil => intro l h w; simp only [placesOf] at h; injection h with h; subst h; simp [List.mapM_nil]
  | cons f fs ih =>
    intro l h w
    simp only [placesOf] at h
    split at h
    · rename_i n m hn hm
      injection h with h
      subst h
      have h2 := ih m hm w
      simp only [List.mapM_cons, Sem.run_bind, run_sizeOf' hn, Result.andThen_ok, Sem.run_pure, h2]
    · cases h
/- filling, told quickly -/
noncomputable def lputU (vs : List Value) : List Value → Option (List Value) :=
  List.rec (motive := fun _ => List Value → Option (List Value)) (fun cs => some cs)
    (fun v _ ih cs => List.rec (motive := fun _ => Option (List Value)) none (fun _ t _ => Option.rec (motive := fun _ => Option (List Value)) none (fun r => some (v :: r)) (ih t)) cs) vs
theorem lputU_eq (vs : List Value) : ∀ cs, lputU vs cs = if vs.length ≤ cs.length then some (vs ++ cs.drop vs.length) else none := by
  induction vs with
  | nil => intro cs; simp [lputU]
  | cons v vs ih =>
    intro cs
    cases cs with
    | nil => simp [lputU]
    | cons c t =>
      show Option.rec (motive := fun _ => Option (List Value)) none (fun r => some (v :: r)) (lputU vs t) = _
      rw [ih t]
      by_cases h : vs.length ≤ t.length
      · rw [if_pos h, if_pos (by simp only [List.length_cons]; omega)]; simp
      · rw [if_neg h, if_neg (by simp only [List.length_cons]; omega)]
noncomputable def lwriteU (cs : List Value) : Nat → List Value → Option (List Value) :=
  List.rec (motive := fun _ => Nat → List Value → Option (List Value)) (fun n vs => Nat.rec (motive := fun _ => Option (List Value)) (lputU vs []) (fun _ _ => none) n)
    (fun c t ih n vs => Nat.rec (motive := fun _ => Option (List Value)) (lputU vs (c :: t)) (fun m _ => Option.rec (motive := fun _ => Option (List Value)) none (fun r => some (c :: r)) (ih m vs)) n) cs
theorem lwriteU_eq (cs : List Value) : ∀ (off : Nat) (vs : List Value), lwriteU cs off vs = if off + vs.length ≤ cs.length then some (setN cs off vs) else none := by
  induction cs with
  | nil =>
    intro off vs
    cases off with
    | zero => show lputU vs [] = _; rw [lputU_eq]; simp [setN]
    | succ n => show (none : Option (List Value)) = _; rw [if_neg (by simp)]
  | cons c t ih =>
    intro off vs
    cases off with
    | zero => show lputU vs (c :: t) = _; rw [lputU_eq]; simp [setN]
    | succ n =>
      show Option.rec (motive := fun _ => Option (List Value)) none (fun r => some (c :: r)) (lwriteU t n vs) = _
      rw [ih n vs]
      have e : n + 1 + vs.length = (n + vs.length) + 1 := by omega
      by_cases h : n + vs.length ≤ t.length
      · rw [if_pos h, if_pos (by simp only [List.length_cons]; omega)]
        simp [setN, e]
      · rw [if_neg h, if_neg (by simp only [List.length_cons]; omega)]
theorem setN_set (cs : List Value) (o : Nat) (v : Value) (vs : List Value) (h : o + (vs.length + 1) ≤ cs.length) : setN (cs.set o v) (o + 1) vs = setN cs o (v :: vs) := by
  unfold setN
  apply List.ext_getElem?
  intro i
  rw [list_seg _ _ _ (by rw [List.length_set]; omega), list_seg _ _ _ (by simp only [List.length_cons]; omega)]
  by_cases h1 : i = o
  · subst h1
    rw [if_neg (by omega), if_pos (by simp only [List.length_cons]; omega), List.getElem?_set]
    simp; omega
  · by_cases h2 : o + 1 ≤ i ∧ i < o + 1 + vs.length
    · rw [if_pos h2, if_pos (by simp only [List.length_cons]; omega)]
      obtain ⟨k, rfl⟩ : ∃ k, i = o + 1 + k := ⟨i - (o + 1), by omega⟩
      rw [show o + 1 + k - (o + 1) = k by omega, show o + 1 + k - o = k + 1 by omega, List.getElem?_cons_succ]
    · rw [if_neg h2, if_neg (by simp only [List.length_cons]; omega), List.getElem?_set, if_neg (fun e => h1 e.symm)]
theorem fold_setN (off : Nat) : ∀ (vs : List Value) (k : Nat) (cells : Array Value), off + k + vs.length ≤ cells.size →
    (List.foldl (fun (cs : Array Value) (p : Value × Nat) => cs.setIfInBounds (off + p.2) p.1) cells (vs.zipIdx k)).toList = setN cells.toList (off + k) vs
  | [], k, cells, _ => by simp [setN]
  | v :: vs, k, cells, h => by
    rw [List.zipIdx_cons, List.foldl_cons, fold_setN off vs (k + 1) _ (by simp only [Array.size_setIfInBounds]; simp only [List.length_cons] at h; omega)]
    rw [Array.toList_setIfInBounds]
    exact setN_set _ _ _ _ (by simp only [List.length_cons] at h; simp; omega)
noncomputable def fillF (place : Nat → Option (Nat × Nat)) : List (Nat × Value) → List Value → Option (List Value)
  | [], cells => some cells
  | (i, v) :: rest, cells => match place i with
    | none => none
    | some (off, size) => match Nat.beq v.cells.size size with
      | true => (match lwriteU cells off v.cells.toList with
        | some c => fillF place rest c
        | none => none)
      | false => none
noncomputable def fillQ (place : Nat → Option (Nat × Nat)) (cells : Array Value) (l : List (Nat × Value)) : Option (Array Value) := (fillF place l cells.toList).map List.toArray
theorem fillQ_eq (place : Nat → Option (Nat × Nat)) : ∀ (l : List (Nat × Value)) (cells : Array Value), fillQ place cells l = Instr.fill place cells l
  | [], cells => by simp [fillQ, fillF, Instr.fill]
  | (i, v) :: rest, cells => by
    unfold Instr.fill
    show (fillF place ((i, v) :: rest) cells.toList).map List.toArray = _
    unfold fillF
    cases place i with
    | none => rfl
    | some p =>
      obtain ⟨off, size⟩ := p
      simp only
      by_cases hs : v.cells.size = size
      · have hb : Nat.beq v.cells.size size = true := by rw [Nat.beq_eq]; exact hs
        rw [hb]
        simp only
        rw [lwriteU_eq]
        by_cases hl : off + v.cells.size ≤ cells.size
        · rw [if_pos (by simpa using hl), if_neg (by simp [hs]; omega)]
          simp only
          rw [← fillQ_eq place rest]
          show _ = (fillF place rest _).map List.toArray
          congr 2
          have hf := fold_setN off v.cells.toList 0 cells (by simpa using hl)
          rw [Nat.add_zero] at hf
          rw [← hf, ← Array.foldl_toList, Array.toList_zipIdx]
        · rw [if_neg (by simpa using hl), if_pos (by simp [hs]; omega)]
          rfl
      · have hb : Nat.beq v.cells.size size = false := by
          cases hq : Nat.beq v.cells.size size with
          | false => rfl
          | true => exact absurd (Nat.eq_of_beq_eq_true hq) hs
        rw [hb, if_pos (by simp [hs])]
        rfl
noncomputable def aBuild (P : Program) (R : PlanTab.Fr) (t : TypeId) (ps : Array (Nat × Operand)) : Option Value :=
  match tZero P t, P.underlying t with
  | some z, some (.struct fs) => match placesOf P fs.toList with
    | some pl => (fillQ (pl.toArray[·]?) z.cells (parts R ps)).map .agg
    | none => none
  | some z, some (.array _ e) => match tSz P e with
    | some n => (fillQ (fun i => some (i * n, n)) z.cells (parts R ps)).map .agg
    | none => none
  | _, _ => none
theorem aBuild_run {R : PlanTab.Fr} {ρ : Operand → Value} {t : TypeId} {ps : Array (Nat × Operand)} {v : Value} (h : aBuild P R t ps = some v)
    (hρ : ∀ p ∈ ps.toList, VR σ (aEval R p.2) (ρ p.2)) (w : World) :
    ∃ v', (Instr.build t (ps.map fun (i, x) => (i, ρ x))).run P w = .ok v' w ∧ VR σ v v' := by
  have hp := parts_rel (σ := σ) (R := R) (ρ := ρ) ps hρ
  unfold aBuild at h
  simp only [fillQ_eq] at h
  split at h
  · rename_i z fs hz hu
    obtain ⟨hz1, hz2⟩ := tZero_run hz w
    split at h
    · rename_i pl hpl
      cases hf : Instr.fill (pl.toArray[·]?) z.cells (parts R ps) with
      | none => rw [hf] at h; cases h
      | some out =>
        rw [hf] at h
        simp only [Option.map_some, Option.some.injEq] at h
        subst h
        obtain ⟨out', h1, h2⟩ := fill_rel _ _ _ _ _ _ hp (zero_AR hz2) hf
        have hm := placesOf_run fs.toList pl hpl w
        refine ⟨.agg out', ?_, VR.agg' h2⟩
        have hm' : ((fs.mapM fun f => do pure (f.offset, ← sizeOf f.type)) : Sem (Array (Nat × Nat))).run P w = .ok pl.toArray w := by
          rw [Array.mapM_eq_mapM_toList]
          simp only [Sem.run_map, hm, Result.andThen_ok]
        simp only [Instr.build, Sem.run_bind, hz1, Result.andThen_ok, run_underlying hu, hm', h1, Sem.run_pure]
    · cases h
  · rename_i z len e hz hu
    obtain ⟨hz1, hz2⟩ := tZero_run hz w
    split at h
    · rename_i n hn
      cases hf : Instr.fill (fun i => some (i * n, n)) z.cells (parts R ps) with
      | none => rw [hf] at h; cases h
      | some out =>
        rw [hf] at h
        simp only [Option.map_some, Option.some.injEq] at h
        subst h
        obtain ⟨out', h1, h2⟩ := fill_rel _ _ _ _ _ _ hp (zero_AR hz2) hf
        exact ⟨.agg out', by simp only [Instr.build, Sem.run_bind, hz1, Result.andThen_ok, run_underlying hu, run_sizeOf' hn, h1, Sem.run_pure], VR.agg' h2⟩
    · cases h
  · cases h

noncomputable def zrow (z : Value) (n : Nat) : Array Value := (Array.range n).map (z.cells[· % z.cells.size]!)
noncomputable def rowOf (z : Value) (n : Nat) : Array Value := if n = 0 then #[] else zrow z n
theorem rowOf_zero {z : Value} {n : Nat} (h : n = 0) : rowOf z n = #[] := if_pos h
theorem rowOf_pos {z : Value} {n : Nat} (h : n ≠ 0) : rowOf z n = zrow z n := if_neg h
noncomputable def aBuildSliceO (P : Program) (R : PlanTab.Fr) (W : AW) (t : TypeId) (len : Nat) (ps : Array (Nat × Operand)) : Option (Value × AW) :=
  match P.underlying t with
  | some (.slice e) => match tSz P e, tZero P e with
    | some n, some z =>
      if len * n ≤ 16777216 ∧ len < BIG ∧ (rowOf z (len * n)).toList.all scalar = true then
        match Instr.fill (fun i => some (i * n, n)) (rowOf z (len * n)) (parts R ps) with
        | some c => some (W.new (.cells c.toList) fun b W' => (Value.slice (some ⟨b, 0, none⟩) len len, W'))
        | none => none
      else none
    | _, _ => none
  | _ => none
noncomputable def rowL (cs : List Value) (len : Nat) : List Value := Nat.rec (motive := fun _ => List Value) [] (fun _ ih => cs ++ ih) len
theorem rowL_get (cs : List Value) : ∀ (len i : Nat), i < len * cs.length → (rowL cs len)[i]? = cs[i % cs.length]?
  | 0, i, h => by simp at h
  | len + 1, i, h => by
    show (cs ++ rowL cs len)[i]? = _
    by_cases hi : i < cs.length
    · rw [List.getElem?_append_left hi, Nat.mod_eq_of_lt hi]
    · have h1 : len * cs.length + cs.length = (len + 1) * cs.length := by rw [Nat.add_mul, Nat.one_mul]
      rw [List.getElem?_append_right (by omega), rowL_get cs len (i - cs.length) (by omega)]
      congr 1
      have h2 : i = (i - cs.length) + cs.length := by omega
      generalize i - cs.length = j at h2
      rw [h2, Nat.add_mod_right]
theorem rowL_length (cs : List Value) : ∀ len, (rowL cs len).length = len * cs.length
  | 0 => by show ([] : List Value).length = _; simp
  | len + 1 => by
    show (cs ++ rowL cs len).length = _
    rw [List.length_append, rowL_length cs len, Nat.add_mul, Nat.one_mul, Nat.add_comm]
theorem rowL_all (cs : List Value) (p : Value → Bool) (h : cs.all p = true) : ∀ len, (rowL cs len).all p = true
  | 0 => rfl
  | len + 1 => by
    show (cs ++ rowL cs len).all p = true
    rw [List.all_append, h, rowL_all cs p h len]; rfl
theorem rowOf_eq {z : Value} {len n : Nat} (hn : z.cells.size = n) : rowOf z (len * n) = (rowL z.cells.toList len).toArray := by
  have hl : z.cells.toList.length = n := by simpa using hn
  apply Array.ext'
  apply List.ext_getElem?
  intro i
  unfold rowOf
  split
  · rename_i h0
    have : (rowL z.cells.toList len).length = 0 := by rw [rowL_length, hl, h0]
    rw [List.length_eq_zero_iff.1 this]
  · rename_i h0
    by_cases hi : i < len * n
    · have e1 : (zrow z (len * n)).toList[i]? = some (z.cells[i % z.cells.size]!) := by
        simp [zrow, hi]
      have hpos : 0 < n := by
        rcases Nat.eq_zero_or_pos n with h | h
        · subst h; simp at h0
        · exact h
      have hm : i % n < z.cells.size := by rw [hn]; exact Nat.mod_lt _ hpos
      rw [e1, List.toList_toArray, rowL_get _ _ _ (by rw [hl]; exact hi), hl, hn]
      simp [hm]
    · rw [List.getElem?_eq_none (by simp [zrow]; omega), List.toList_toArray, List.getElem?_eq_none (by rw [rowL_length, hl]; omega)]
noncomputable def aBuildSlice (P : Program) (R : PlanTab.Fr) (W : AW) (t : TypeId) (len : Nat) (ps : Array (Nat × Operand)) : Option (Value × AW) :=
  match P.underlying t with
  | some (.slice e) => match tSz P e, tZero P e with
    | some n, some z =>
      if len * n ≤ 16777216 ∧ len < BIG ∧ (Nat.beq z.cells.size n && z.cells.toList.all scalar) = true then
        match fillQ (fun i => some (i * n, n)) (rowL z.cells.toList len).toArray (parts R ps) with
        | some c => some (W.new (.cells c.toList) fun b W' => (Value.slice (some ⟨b, 0, none⟩) len len, W'))
        | none => none
      else none
    | _, _ => none
  | _ => none
theorem aBuildSlice_imp {P : Program} {R : PlanTab.Fr} {W : AW} {t : TypeId} {len : Nat} {ps : Array (Nat × Operand)} {r : Value × AW} (h : aBuildSlice P R W t len ps = some r) : aBuildSliceO P R W t len ps = some r := by
  unfold aBuildSlice at h
  simp only [fillQ_eq] at h
  unfold aBuildSliceO
  revert h
  generalize P.underlying t = u
  intro h
  split at h
  · rename_i e
    revert h
    generalize tSz P e = x
    generalize tZero P e = y
    intro h
    split at h
    · rename_i n z
      split at h
      · rename_i hc
        obtain ⟨hc1, hc2, hc3⟩ := hc
        rw [Bool.and_eq_true, Nat.beq_eq] at hc3
        have hrow := rowOf_eq (len := len) hc3.1
        try simp only
        rw [hrow, if_pos ⟨hc1, hc2, by rw [List.toList_toArray]; exact rowL_all _ _ hc3.2 _⟩]
        exact h
      · cases h
    · cases h
  · cases h
theorem aBuildSlice_run (hW : WRel σ W w.heap) {R : PlanTab.Fr} {ρ : Operand → Value} {t : TypeId} {len : Nat} {ps : Array (Nat × Operand)} {v : Value} {W' : AW}
    (h : aBuildSlice P R W t len ps = some (v, W')) (hρ : ∀ p ∈ ps.toList, VR σ (aEval R p.2) (ρ p.2)) :
    ∃ σ' v' w', (Instr.buildSlice t len (ps.map fun (i, x) => (i, ρ x))).run P w = .ok v' w' ∧ VR σ' v v' ∧ WRel σ' W' w'.heap ∧ Ext σ W w σ' W' w' := by
  have hp := parts_rel (σ := σ) (R := R) (ρ := ρ) ps hρ
  replace h := aBuildSlice_imp h
  unfold aBuildSliceO at h
  split at h
  · rename_i e hu
    split at h
    · rename_i n z hn hz
      obtain ⟨hz1, hz2⟩ := tZero_run hz w
      split at h
      · rename_i hc
        obtain ⟨hc1, hc2, hc3⟩ := hc
        split at h
        · rename_i c hf
          injection h with h
          rw [AW.new_eq] at h
          injection h with hv hw
          obtain ⟨out', h1, h2⟩ := fill_rel _ _ _ _ _ _ hp (LR.refl_of (σ := σ) (fun _ => scalar_refl) hc3) hf
          have hnr := newRow_run (P := P) hW e (cs := c.toList) (cs' := out'.toList) h2
          refine ⟨_, .slice (some ⟨w.heap.size, 0, none⟩) len len, { w with heap := w.heap.push (.cells out'.toList.toArray e) }, ?_, ?_, by rw [← hw]; exact hnr.2.2.1, by rw [← hw]; exact hnr.2.2.2⟩
          · show (Instr.buildSlice t len _).run P w = .ok (.slice (some ⟨w.heap.size, 0, none⟩) len len) _
            have hlim : ¬ len * n > 2 ^ 24 := by omega
            have hnr1 := hnr.1
            simp only [Array.toArray_toList] at hnr1
            by_cases h0 : len * n = 0
            · rw [rowOf_zero h0] at h1
              simp only [Instr.buildSlice, Sem.run_bind, run_underlying hu, Result.andThen_ok, run_sizeOf' hn, if_neg hlim, Sem.run_pure, if_pos h0]
              rw [show (Array.map (fun x => (#[] : Array Value)[x % (#[] : Array Value).size]!) (Array.range (len * n))) = #[] by rw [h0]; simp, h1]
              simp [hnr1]
            · rw [rowOf_pos h0] at h1
              simp only [Instr.buildSlice, Sem.run_bind, run_underlying hu, Result.andThen_ok, run_sizeOf' hn, if_neg hlim, Sem.run_pure, if_neg h0, hz1]
              rw [show (Array.map (fun x => z.cells[x % z.cells.size]!) (Array.range (len * n))) = zrow z (len * n) from rfl, h1]
              simp [hnr1]
          · rw [← hv]
            have := VR.slice (σ := bind1 σ W.next ⟨w.heap.size, 0, c.toList.length⟩) ⟨W.next, 0, none⟩ len len len _ hnr.2.1 rfl (.known len hc2)
            simpa using this
        · cases h
      · cases h
    · cases h
  · cases h

noncomputable def aMakeSlice (P : Program) (W : AW) (t : TypeId) (l c : Value) : Option (Value × AW) :=
  match P.underlying t with
  | some (.slice e) => match tSz P e, tZero P e, (P.info? e).map (·.bytes), l, c with
    | some n, some z, some bytes, .int _ (.ofNat l), .int _ (.ofNat c) =>
      if l ≤ c ∧ c < 9223372036854775808 ∧ c * bytes ≤ 281474976710656 ∧ (rowOf z (c * n)).toList.all scalar = true then
        some (W.new (.cells (rowOf z (c * n)).toList) fun b W' => (Value.slice (some ⟨b, 0, none⟩) l c, W'))
      else none
    | _, _, _, _, _ => none
  | _ => none
theorem wrap_nat {n : Nat} (h : n < 9223372036854775808) : IntKind.i64.wrap (n : Int) = n := by
  have e1 : IntKind.i64.bits = 64 := rfl
  have e2 : IntKind.i64.signed = true := rfl
  simp only [IntKind.wrap, e1, e2]
  have : (n : Int) % (2 ^ 64 : Int) = n := by omega
  rw [this]
  simp
  omega
theorem aMakeSlice_run (hW : WRel σ W w.heap) {t : TypeId} {l l' c c' : Value} {v : Value} {W' : AW}
    (h : aMakeSlice P W t l c = some (v, W')) (hl : VR σ l l') (hc : VR σ c c') :
    ∃ σ' v' w', (Instr.makeSlice t l' c').run P w = .ok v' w' ∧ VR σ' v v' ∧ WRel σ' W' w'.heap ∧ Ext σ W w σ' W' w' := by
  unfold aMakeSlice at h
  split at h
  · rename_i e hu
    split at h
    · rename_i n z bytes kl l kc c hn hz hb
      cases hl
      cases hc
      obtain ⟨hz1, hz2⟩ := tZero_run hz w
      split at h
      · rename_i hcond
        obtain ⟨c1, c2, c3, c4⟩ := hcond
        injection h with h
        rw [AW.new_eq] at h
        injection h with hv hw
        have hi : ∃ i, P.info? e = some i ∧ i.bytes = bytes := by
          cases hi : P.info? e with
          | none => rw [hi] at hb; cases hb
          | some i => rw [hi] at hb; simp at hb; exact ⟨i, rfl, hb⟩
        obtain ⟨i, hi, hib⟩ := hi
        have hrow : LR σ (rowOf z (c * n)).toList (rowOf z (c * n)).toList :=
          LR.refl_of (fun _ => scalar_refl) c4
        have hnr := newRow_run (P := P) hW e hrow
        refine ⟨_, .slice (some ⟨w.heap.size, 0, none⟩) l c, { w with heap := w.heap.push (.cells (rowOf z (c * n)).toList.toArray e) }, ?_, ?_, by rw [← hw]; exact hnr.2.2.1, by rw [← hw]; exact hnr.2.2.2⟩
        · show (Instr.makeSlice t _ _).run P w = .ok (.slice (some ⟨w.heap.size, 0, none⟩) l c) _
          have hwl : IntKind.i64.wrap (Int.ofNat l) = (l : Int) := wrap_nat (by omega)
          have hwc : IntKind.i64.wrap (Int.ofNat c) = (c : Int) := wrap_nat c2
          have hinfo : (typeInfo e).run P w = .ok i w := by simp [typeInfo, hi]
          have hmul : (bytes : Int) * (c : Int) ≤ 281474976710656 := by
            have : ((c * bytes : Nat) : Int) ≤ 281474976710656 := by omega
            rw [Int.natCast_mul, Int.mul_comm] at this
            exact this
          have hnr1 := hnr.1
          simp only [Array.toArray_toList] at hnr1
          have hcond2 : ¬ (((decide ((c : Int) < 0) || decide ((i.bytes : Int) * (c : Int) > 2 ^ 48)) || decide ((l : Int) < 0) || decide ((l : Int) > (c : Int))) = true) := by
            rw [hib]
            simp
            omega
          simp only [Instr.makeSlice, Sem.run_bind, run_underlying hu, Result.andThen_ok, asInt, asIntOf, Sem.run_pure, hinfo, hwl, hwc]
          rw [if_neg (by simpa using hcond2)]
          by_cases h0 : c * n = 0
          · rw [rowOf_zero h0] at hnr1 ⊢
            simp only [Sem.run_bind, run_askRoom, Result.andThen_ok, Int.toNat_natCast, run_sizeOf' hn, if_pos h0, Sem.run_pure]
            rw [show (Array.map (fun x => (#[] : Array Value)[x % (#[] : Array Value).size]!) (Array.range (c * n))) = #[] by rw [h0]; simp, hnr1]
            simp
          · rw [rowOf_pos h0] at hnr1 ⊢
            simp only [Sem.run_bind, run_askRoom, Result.andThen_ok, Int.toNat_natCast, run_sizeOf' hn, if_neg h0, hz1, Sem.run_pure]
            rw [show (Array.map (fun x => z.cells[x % z.cells.size]!) (Array.range (c * n))) = zrow z (c * n) from rfl, hnr1]
            simp
        · rw [← hv]
          have := VR.slice (σ := bind1 σ W.next ⟨w.heap.size, 0, (rowOf z (c * n)).toList.length⟩) ⟨W.next, 0, none⟩ l c c _ hnr.2.1 rfl (.known c (by unfold BIG; omega))
          simpa using this
      · cases h
    · cases h
  · cases h
end
end
section
variable [PlanTab]

def OR (σ : Inj) : Option Value → Option Value → Prop
  | none, none => True
  | some v, some v' => VR σ v v'
  | _, _ => False
def natOf : Value → Option Nat
  | .int _ (.ofNat n) => some n
  | _ => none
def boundOf (v : Option Value) (d : Nat) : Option Nat := match v with | none => some d | some v => natOf v
theorem natOf_rel {σ : Inj} {v v' : Value} {n : Nat} (h : natOf v = some n) (hv : VR σ v v') : ∃ k, v' = .int k (n : Int) := by
  unfold natOf at h
  split at h
  · injection h with h; subst h; cases hv; exact ⟨_, rfl⟩
  · cases h

section
variable {P : Program} {σ : Inj} {W : AW} {w : World}

theorem sliceBound_run (k : IntKind) (n y : Nat) (code : BoundsCode) (h : n ≤ y) (w : World) : (Instr.sliceBound (.int k (n : Int)) y code).run P w = .ok n w := by
  have : 0 ≤ (n : Int) ∧ (n : Int) ≤ (y : Int) := by omega
  simp [Instr.sliceBound, asIntOf, this]

theorem sliceBounds_run (sl : Bool) (len cap : Nat) {lo hi mx lo' hi' mx' : Option Value} {l h m : Nat} (h1 : OR σ lo lo') (h2 : OR σ hi hi') (h3 : OR σ mx mx')
    (hl : boundOf lo 0 = some l) (hh : boundOf hi len = some h) (hm : boundOf mx cap = some m) (hmx : mx.isSome = true → hi.isSome = true)
    (a1 : l ≤ h) (a2 : hi.isSome = true → h ≤ m) (a3 : m ≤ cap) (w : World) : (Instr.sliceBounds sl len cap lo' hi' mx').run P w = .ok (l, h, m) w := by
  have one : ∀ {v v' : Option Value} {d n : Nat}, OR σ v v' → boundOf v d = some n → (v = none ∧ v' = none ∧ n = d) ∨ (v.isSome = true ∧ ∃ k, v' = some (.int k (n : Int))) := by
    intro v v' d n ho hb
    cases v with
    | none => cases v' with
      | none => simp only [boundOf] at hb; injection hb with hb; exact .inl ⟨rfl, rfl, hb.symm⟩
      | some v' => exact ho.elim
    | some v => cases v' with
      | none => exact ho.elim
      | some v' => obtain ⟨k, rfl⟩ := natOf_rel hb ho; exact .inr ⟨rfl, k, rfl⟩
  have hA : ∀ k code, (Instr.sliceBound (.int k (m : Int)) cap code).run P w = .ok m w := fun k code => sliceBound_run k m cap code a3 w
  have hC : ∀ k code, (Instr.sliceBound (.int k (l : Int)) h code).run P w = .ok l w := fun k code => sliceBound_run k l h code a1 w
  rcases one h3 hm with ⟨e1, rfl, e3⟩ | ⟨e1, k3, rfl⟩
  · subst e3
    rcases one h2 hh with ⟨f1, rfl, f3⟩ | ⟨f1, k2, rfl⟩
    · subst f3
      rcases one h1 hl with ⟨g1, rfl, g3⟩ | ⟨g1, k1, rfl⟩
      · subst g3; simp [Instr.sliceBounds]
      · simp [Instr.sliceBounds, hC]
    · have hB : ∀ code, (Instr.sliceBound (.int k2 (h : Int)) m code).run P w = .ok h w := fun code => sliceBound_run k2 h m code (a2 f1) w
      rcases one h1 hl with ⟨g1, rfl, g3⟩ | ⟨g1, k1, rfl⟩
      · subst g3; simp [Instr.sliceBounds, hB]
      · simp [Instr.sliceBounds, hB, hC]
  · rcases one h2 hh with ⟨f1, rfl, f3⟩ | ⟨f1, k2, rfl⟩
    · subst f1; exact absurd (hmx e1) (by simp)
    · have hB : ∀ code, (Instr.sliceBound (.int k2 (h : Int)) m code).run P w = .ok h w := fun code => sliceBound_run k2 h m code (a2 f1) w
      rcases one h1 hl with ⟨g1, rfl, g3⟩ | ⟨g1, k1, rfl⟩
      · subst g3; simp [Instr.sliceBounds, hA, hB]
      · simp [Instr.sliceBounds, hA, hB, hC]

noncomputable def aSlice (P : Program) (t : TypeId) (x : Value) (lo hi mx : Option Value) : Option Value :=
  match P.underlying t, x with
  | some (.slice e), .slice (some a) len cap =>
    match tSz P e, boundOf lo 0, boundOf hi len with
    | some z, some l, some h =>
      if l ≤ h then
        match mx with
        | none =>
          if cap = BIG + z ∧ 0 < z then (if h ≤ len then some (.slice (some (a.add (l * z))) (h - l) cap) else none)
          else if cap < BIG ∧ h ≤ cap then some (.slice (some (if cap = l then a else a.add (l * z))) (h - l) (cap - l)) else none
        | some mv => match boundOf (some mv) 0 with
          | some m => if hi.isSome = true ∧ h ≤ m ∧ m < BIG ∧ ((cap = BIG + z ∧ 0 < z ∧ m ≤ len) ∨ (cap < BIG ∧ m ≤ cap)) then some (.slice (some (if m = l then a else a.add (l * z))) (h - l) (m - l)) else none
          | none => none
      else none
    | _, _, _ => none
  | some (.slice e), .slice none len cap =>
    match tSz P e, boundOf lo 0, boundOf hi len, mx with
    | some _, some l, some h, none => if l ≤ h ∧ h ≤ cap then some (.slice none (h - l) (cap - l)) else none
    | _, _, _, _ => none
  | some (.array n e), .pointer (some a) =>
    match tSz P e, boundOf lo 0, boundOf hi n, mx with
    | some z, some l, some h, none => if l ≤ h ∧ h ≤ n ∧ n < BIG then some (.slice (some (if n = l then a else a.add (l * z))) (h - l) (n - l)) else none
    | _, _, _, _ => none
  | _, _ => none

theorem CapR.inv {g : Seg} {off l c c' : Nat} (h : CapR g off l c c') : (c < BIG ∧ c' = c) ∨ ∃ z, 0 < z ∧ c = BIG + z ∧ l ≤ c' ∧ g.s + off + c' * z = g.e := by
  cases h with
  | known _ h => exact .inl ⟨h, rfl⟩
  | open_ z _ hz hl h => exact .inr ⟨z, hz, rfl, hl, h⟩
theorem CapR.max {g : Seg} {off l c c' : Nat} (h : CapR g off l c c') : c' < BIG ∧ (BIG ≤ c → c' ≤ maxLen) := by
  cases h with
  | known _ h => exact ⟨h, fun x => absurd x (by omega)⟩
  | open_ z _ hz hl h hb => exact ⟨by unfold maxLen at hb; unfold BIG; omega, fun _ => hb⟩
theorem aSlice_run {t : TypeId} {x x' v : Value} {lo hi mx lo' hi' mx' : Option Value} (h : aSlice P t x lo hi mx = some v) (hx : VR σ x x')
    (h1 : OR σ lo lo') (h2 : OR σ hi hi') (h3 : OR σ mx mx') (w : World) : ∃ v', (Instr.sliceAt t x' lo' hi' mx').run P w = .ok v' w ∧ VR σ v v' := by
  unfold aSlice at h
  split at h
  · rename_i e a len cap hu
    split at h
    · rename_i z l hh hz hlo hhi
      split at h
      · rename_i hlh
        have run : ∀ (A' : Option Addr) (cap' m : Nat), boundOf mx cap' = some m → (mx.isSome = true → hi.isSome = true) → (hi.isSome = true → hh ≤ m) → m ≤ cap' →
            (Instr.sliceAt t (.slice A' len cap') lo' hi' mx').run P w = .ok (.slice (if m = l then A' else A'.map (·.add (l * z))) (hh - l) (m - l)) w := by
          intro A' cap' m b1 b2 b3 b4
          have hb := sliceBounds_run (P := P) true len cap' h1 h2 h3 hlo hhi b1 b2 hlh b3 b4 w
          simp only [Instr.sliceAt, Sem.run_bind, run_underlying hu, Result.andThen_ok, Instr.slice, hb, run_sizeOf' hz, Sem.run_pure]
        cases mx with
        | none =>
          simp only at h
          split at h
          · rename_i hop
            obtain ⟨rfl, hz0⟩ := hop
            split at h
            · rename_i hle
              injection h with h
              subst h
              cases hx with
              | slice _ _ _ c' g hg hs hc =>
                rcases hc.inv with ⟨hk, _⟩ | ⟨z', hz1, hzz, hlc, heq⟩
                · exact absurd hk (by omega)
                · refine ⟨_, run (some _) c' c' rfl (by simp) (fun _ => by omega) (Nat.le_refl _), ?_⟩
                  by_cases hcl : c' = l
                  · subst hcl
                    have : hh - c' = 0 := by omega
                    rw [this, Nat.sub_self, if_pos rfl]
                    exact .sliceE _ _ _ g (by simpa [add_block] using hg) (.inr (by omega))
                  · rw [if_neg hcl]
                    simp only [Option.map_some, addr_add]
                    have hzz2 : z = z' := by omega
                    subst hzz2
                    have := VR.slice (σ := σ) (a.add (l * z)) (hh - l) (BIG + z) (c' - l) g (by rw [add_block]; exact hg) (add_spot _ _ hs)
                      (by
                        rw [add_off]
                        refine .open_ z _ hz0 (by omega) ?_ (Nat.le_trans (Nat.sub_le _ _) (hc.max.2 (by omega)))
                        rw [Nat.sub_mul]
                        have : l * z ≤ c' * z := Nat.mul_le_mul_right _ (by omega)
                        omega)
                    rw [add_off] at this
                    simpa [Nat.add_assoc] using this
              | sliceE _ a' _ g hg hc =>
                have hl0 : hh = 0 := by omega
                have hl1 : l = 0 := by omega
                subst hl0
                subst hl1
                refine ⟨_, run (some a') 0 0 rfl (by simp) (fun _ => by omega) (Nat.le_refl _), ?_⟩
                simp only [if_true]
                exact .sliceE _ _ _ g (by simpa [add_block] using hg) (.inr (by omega))
            · cases h
          · split at h
            · rename_i hno hcap
              injection h with h
              subst h
              cases hx with
              | slice _ _ _ c' g hg hs hc =>
                rcases hc.inv with ⟨hk, rfl⟩ | ⟨z', hz1, hzz, hlc, heq⟩
                · refine ⟨_, run (some _) c' c' rfl (by simp) (fun _ => hcap.2) (Nat.le_refl _), ?_⟩
                  by_cases hcl : c' = l
                  · subst hcl
                    simp only [if_true]
                    exact .slice a _ _ _ g hg hs (.known _ (by omega))
                  · rw [if_neg hcl, if_neg hcl]
                    simp only [Option.map_some, addr_add]
                    have := VR.slice (σ := σ) (a.add (l * z)) (hh - l) (c' - l) (c' - l) g (by rw [add_block]; exact hg) (add_spot _ _ hs) (.known _ (by omega))
                    rw [add_off] at this
                    simpa [Nat.add_assoc] using this
                · exact absurd hcap.1 (by omega)
              | sliceE _ a' _ g hg hc =>
                have hc0 : cap = 0 := by omega
                subst hc0
                have hl0 : hh = 0 := by omega
                have hl1 : l = 0 := by omega
                subst hl0
                subst hl1
                refine ⟨_, run (some a') 0 0 rfl (by simp) (fun _ => by omega) (Nat.le_refl _), ?_⟩
                simp only [if_true]
                exact .sliceE _ _ _ g (by simpa [add_block] using hg) (.inl rfl)
            · cases h
        | some mv =>
          simp only at h
          split at h
          · rename_i m hm
            split at h
            · rename_i hcond
              obtain ⟨c1, c2, c3, c4⟩ := hcond
              injection h with h
              subst h
              cases hx with
              | slice _ _ _ c' g hg hs hc =>
                have hmc : m ≤ c' := by
                  rcases hc.inv with ⟨hk, _⟩ | ⟨z', hz1, hzz, hlc, heq⟩ <;> omega
                refine ⟨_, run (some _) c' m hm (fun _ => c1) (fun _ => c2) hmc, ?_⟩
                by_cases hcl : m = l
                · subst hcl
                  simp only [if_true]
                  exact .slice a _ _ _ g hg hs (.known _ (by omega))
                · rw [if_neg hcl, if_neg hcl]
                  simp only [Option.map_some, addr_add]
                  have := VR.slice (σ := σ) (a.add (l * z)) (hh - l) (m - l) (m - l) g (by rw [add_block]; exact hg) (add_spot _ _ hs) (.known _ (by omega))
                  rw [add_off] at this
                  simpa [Nat.add_assoc] using this
              | sliceE _ a' _ g hg hc =>
                have hm0 : m = 0 := by omega
                subst hm0
                have hl0 : hh = 0 := by omega
                have hl1 : l = 0 := by omega
                subst hl0
                subst hl1
                refine ⟨_, run (some a') 0 0 hm (fun _ => c1) (fun _ => by omega) (Nat.le_refl _), ?_⟩
                simp only [if_true]
                exact .sliceE _ _ _ g (by simpa [add_block] using hg) (.inl rfl)
            · cases h
          · cases h
      · cases h
    · cases h
  · rename_i e len cap hu
    split at h
    · rename_i z l hh hz hlo hhi
      split at h
      · rename_i hc
        injection h with h
        subst h
        cases hx
        have hb := sliceBounds_run (P := P) (mx := none) true len cap h1 h2 h3 hlo hhi rfl (by simp) hc.1 (fun _ => hc.2) (Nat.le_refl _) w
        refine ⟨.slice none (hh - l) (cap - l), ?_, .snil _ _⟩
        simp only [Instr.sliceAt, Sem.run_bind, run_underlying hu, Result.andThen_ok, Instr.slice, hb, run_sizeOf' hz, Sem.run_pure]
        simp
      · cases h
    · cases h
  · rename_i n e a hu
    split at h
    · rename_i z l hh hz hlo hhi
      split at h
      · rename_i hc
        injection h with h
        subst h
        cases hx with
        | ptr _ g hg hs =>
          have hb := sliceBounds_run (P := P) (mx := none) false n n h1 h2 h3 hlo hhi rfl (by simp) hc.1 (fun _ => hc.2.1) (Nat.le_refl _) w
          refine ⟨.slice (some (if n = l then ⟨g.B, g.s + a.off, none⟩ else (⟨g.B, g.s + a.off, none⟩ : Addr).add (l * z))) (hh - l) (n - l), ?_, ?_⟩
          · simp only [Instr.sliceAt, Sem.run_bind, run_underlying hu, Result.andThen_ok, Instr.sureAddr, Sem.run_pure, hb, run_sizeOf' hz]
          · by_cases hcl : n = l
            · subst hcl
              simp only [if_true]
              exact .slice a _ _ _ g hg hs (.known _ (by omega))
            · rw [if_neg hcl, if_neg hcl]
              simp only [addr_add]
              have := VR.slice (σ := σ) (a.add (l * z)) (hh - l) (n - l) (n - l) g (by rw [add_block]; exact hg) (add_spot _ _ hs) (.known _ (by omega))
              rw [add_off] at this
              simpa [Nat.add_assoc] using this
      · cases h
    · cases h
  · cases h
end
end
section
variable [PlanTab]

section
variable {P : Program} {σ : Inj} {W : AW} {w w' : World}

theorem WRel.reseatO (h : WRel σ W w.heap) {b off : Nat} {o o' : AObj} {g : Seg} (hb : W.get b = some o) (hro : ∀ cs, o ≠ .ro cs) (hg : σ b = some g)
    (hsz : w'.heap.size = w.heap.size) (hos : w'.os = w.os) (htp : w'.tape = w.tape) (hout : w'.output = w.output)
    (hother : ∀ B, B ≠ g.B → w'.heap[B]? = w.heap[B]?)
    {c c' : Array Value} {t : TypeId} (hc : w.heap[g.B]? = some (.cells c t (0, 0))) (hc' : w'.heap[g.B]? = some (.cells c' t (0, 0))) (hcs : c'.size = c.size)
    (hout' : ∀ i, i < g.s + off ∨ g.e ≤ i → c'[i]? = c[i]?)
    (hnew : ORel (bind1 σ W.next ⟨g.B, g.s + off, g.e⟩) w'.heap ⟨g.B, g.s + off, g.e⟩ o') :
    WRel (bind1 σ W.next ⟨g.B, g.s + off, g.e⟩) ((W.kill b).add o') w'.heap ∧ Ext σ W w (bind1 σ W.next ⟨g.B, g.s + off, g.e⟩) ((W.kill b).add o') w' := by
  have hfr := h.fresh
  have hs : Sub σ (bind1 σ W.next ⟨g.B, g.s + off, g.e⟩) := bind1_sub hfr
  have hbn := h.dom b g hg
  have hk : ∀ c o, c ≠ W.next → ((W.kill b).add o').get c = some o → c ≠ b ∧ W.get c = some o := fun c o hcn hx => by
    rw [AW.get_add_ne _ _ (by rw [AW.kill_next]; exact Ne.symm hcn)] at hx
    by_cases hcb : c = b
    · subst hcb; rw [AW.get_kill] at hx; cases hx
    · rw [AW.get_kill_ne _ (Ne.symm hcb)] at hx; exact ⟨hcb, hx⟩
  have hknew : ((W.kill b).add o').get W.next = some o' := AW.get_add (W.kill b) _
  have hinv : ∀ c k, bind1 σ W.next ⟨g.B, g.s + off, g.e⟩ c = some k → (c = W.next ∧ k = ⟨g.B, g.s + off, g.e⟩) ∨ (c ≠ W.next ∧ σ c = some k) := fun c k hx => by
    unfold bind1 at hx
    split at hx
    · rename_i he; injection hx with hx; exact .inl ⟨he, hx.symm⟩
    · rename_i he; exact .inr ⟨he, hx⟩
  have hbro : ∀ cs, W.get b ≠ some (.ro cs) := fun cs hx => by rw [hb] at hx; injection hx with hx; exact hro cs hx
  refine ⟨⟨?_, ?_, ?_, ?_⟩, ⟨hs, ?_, ?_, hos, htp, hout, ?_, ?_, ?_⟩⟩
  · intro x hx
    have hx' : W.next + 1 ≤ x := hx
    cases hy : ((W.kill b).add o').get x with
    | none => rfl
    | some o =>
      have := (hk x o (by omega) hy).2
      rw [h.free x (by omega)] at this
      cases this
  · intro x k hx
    rcases hinv x k hx with ⟨rfl, rfl⟩ | ⟨_, h2⟩
    · exact ⟨Nat.lt_succ_self _, by rw [hsz]; exact hbn.2⟩
    · have := h.dom x k h2
      exact ⟨Nat.lt_succ_of_lt this.1, by rw [hsz]; exact this.2⟩
  · intro x o2 k hx hy
    rcases hinv x k hy with ⟨rfl, rfl⟩ | ⟨h1, h2⟩
    · rw [hknew] at hx
      injection hx with hx
      subst hx
      exact hnew
    · obtain ⟨hxb, hxg⟩ := hk x o2 h1 hx
      refine ORel.mono hs ?_
      have hold := h.obj x o2 k hxg h2
      by_cases hB : k.B = g.B
      · have hd := h.disj x b o2 _ k g hxb hxg hb h2 hg (rwR hro)
        have hd' : k.e ≤ g.s ∨ g.e ≤ k.s := hd.resolve_left (fun hne => hne hB)
        cases o2 with
        | cells cs2 =>
          obtain ⟨c0, t0, fr0, e1, e0, e2, e3, e4⟩ := hold
          rw [hB, hc] at e1
          injection e1 with e1
          injection e1 with e1 e1'
          subst e1
          refine ⟨c', t, (0, 0), by rw [hB]; exact hc', fun _ => rfl, e2, by omega, fun i v hv => ?_⟩
          obtain ⟨v', f1, f2⟩ := e4 i v hv
          have hi : i < cs2.length := (List.getElem?_eq_some_iff.1 hv).1
          exact ⟨v', by rw [hout' _ (by omega)]; exact f1, f2⟩
        | ro cs2 =>
          obtain ⟨c0, t0, fr, e1, e2, e3⟩ := hold
          rw [hB, hc] at e1
          injection e1 with e1
          injection e1 with e1 e1'
          subst e1
          refine ⟨c', t, (0, 0), by rw [hB]; exact hc', e2, fun i v hv => ?_⟩
          have hi : i < cs2.length := (List.getElem?_eq_some_iff.1 hv).1
          obtain ⟨v', f1, f2⟩ := e3 i v hv
          exact ⟨v', by rw [hout' _ (by omega)]; exact f1, f2⟩
        | map es clock => obtain ⟨_, _, es', e1, _⟩ := hold; rw [hB, hc] at e1; cases e1
        | loop st pend R nt ps as bd => obtain ⟨_, _, r, e1, _⟩ := hold; rw [hB, hc] at e1; cases e1
        | siter s pos => obtain ⟨_, _, e1⟩ := hold; rw [hB, hc] at e1; cases e1
        | tc t2 cs2 =>
          obtain ⟨a1, a2, a3, c0, e1, e2, e3, e4⟩ := hold
          rw [hB, hc] at e1
          injection e1 with e1
          injection e1 with e1 e1'
          subst e1
          subst e1'
          refine ⟨a1, a2, a3, c', by rw [hB]; exact hc', e2, by omega, fun i v hv => ?_⟩
          obtain ⟨v', f1, f2⟩ := e4 i v hv
          have hi : i < cs2.length := (List.getElem?_eq_some_iff.1 hv).1
          exact ⟨v', by rw [hout' _ (by omega)]; exact f1, f2⟩
      · exact hold.same (hother _ hB)
  · intro b1 b2 o1 o2 g1 g2 hne h1 h2 k1 k2 hr
    have sub : ∀ x o2 k, x ≠ W.next → ((W.kill b).add o').get x = some o2 → σ x = some k → g.B ≠ k.B ∨ g.e ≤ k.s ∨ k.e ≤ g.s + off := fun x o2 k hxn hx hxk => by
      obtain ⟨hxb, hxg⟩ := hk x o2 hxn hx
      rcases h.disj b x _ o2 g k (Ne.symm hxb) hb hxg hg hxk (rwL hro) with r | r | r
      · exact .inl r
      · exact .inr (.inl r)
      · exact .inr (.inr (by omega))
    rcases hinv b1 g1 k1 with ⟨rfl, rfl⟩ | ⟨x1, y1⟩
    · rcases hinv b2 g2 k2 with ⟨rfl, rfl⟩ | ⟨x2, y2⟩
      · exact absurd rfl hne
      · exact sub b2 o2 g2 x2 h2 y2
    · rcases hinv b2 g2 k2 with ⟨rfl, rfl⟩ | ⟨x2, y2⟩
      · rcases sub b1 o1 g1 x1 h1 y1 with r | r | r
        · exact .inl (Ne.symm r)
        · exact .inr (.inr r)
        · exact .inr (.inl r)
      · exact h.disj _ _ _ _ _ _ hne (hk _ _ x1 h1).2 (hk _ _ x2 h2).2 y1 y2 hr
  · intro x cs0 hx
    have hxb : x ≠ b := fun e => by subst e; exact hbro cs0 hx
    have hxn : W.next ≠ x := fun e => by subst e; rw [h.free _ (Nat.le_refl _)] at hx; cases hx
    rw [AW.get_add_ne _ _ (by rw [AW.kill_next]; exact hxn), AW.get_kill_ne _ (Ne.symm hxb)]
    exact hx
  · rw [hsz]; exact Nat.le_refl _
  · intro B hB hm
    exact hother B (fun e => by subst e; exact hm ⟨b, g, hg, rfl, hbro⟩)
  · intro x o2 hx hxk
    have hxb : x ≠ b := fun e => by subst e; rw [hg] at hxk; cases hxk
    have hxn : W.next ≠ x := fun e => by subst e; rw [h.free _ (Nat.le_refl _)] at hx; cases hx
    refine ⟨by rw [AW.get_add_ne _ _ (by rw [AW.kill_next]; exact hxn), AW.get_kill_ne _ (Ne.symm hxb)]; exact hx, ?_⟩
    unfold bind1
    rw [if_neg (Ne.symm hxn)]
    exact hxk
  · intro x k hk' hB
    rcases hinv x k hk' with ⟨rfl, rfl⟩ | ⟨h1, h2⟩
    · exact .inr ⟨b, g, hg, rfl, hbro⟩
    · exact .inl h2
theorem WRel.reseat (h : WRel σ W w.heap) {b off : Nat} {cs cs' : List Value} {g : Seg} (hb : W.get b = some (.cells cs)) (hg : σ b = some g)
    (hsz : w'.heap.size = w.heap.size) (hos : w'.os = w.os) (htp : w'.tape = w.tape) (hout : w'.output = w.output)
    (hother : ∀ B, B ≠ g.B → w'.heap[B]? = w.heap[B]?)
    {c c' : Array Value} {t : TypeId} (hc : w.heap[g.B]? = some (.cells c t (0, 0))) (hc' : w'.heap[g.B]? = some (.cells c' t (0, 0))) (hcs : c'.size = c.size)
    (hout' : ∀ i, i < g.s + off ∨ g.e ≤ i → c'[i]? = c[i]?) (hlen : g.s + off + cs'.length ≤ g.e)
    (hin : ∀ (i : Nat) (v : Value), cs'[i]? = some v → ∃ v', c'[g.s + off + i]? = some v' ∧ VR σ v v') :
    WRel (bind1 σ W.next ⟨g.B, g.s + off, g.e⟩) ((W.kill b).add (.cells cs')) w'.heap ∧ Ext σ W w (bind1 σ W.next ⟨g.B, g.s + off, g.e⟩) ((W.kill b).add (.cells cs')) w' := by
  obtain ⟨c0, t0, fr0, q1, q0, q2, q3, q4⟩ := h.obj b _ g hb hg
  rw [hc] at q1
  injection q1 with q1
  injection q1 with q1 q1'
  subst q1
  refine h.reseatO hb (fun _ => by simp) hg hsz hos htp hout hother hc hc' hcs hout' ⟨c', t, (0, 0), hc', fun _ => rfl, hlen, by simp only; omega, fun i v hv => ?_⟩
  obtain ⟨v', f1, f2⟩ := hin i v hv
  exact ⟨v', f1, f2.mono (bind1_sub h.fresh)⟩

noncomputable def readSlice (W : AW) (x : Value) (m : Nat) : Option (List Value) :=
  match x with
  | .slice none _ _ => if m = 0 then some [] else none
  | .slice (some a) len _ => if m = 0 then some [] else if len = 0 then none else readN W a.block a.off m
  | _ => none
theorem readSlice_run (h : WRel σ W w.heap) {x x' : Value} {n z : Nat} {l : List Value} (hr : readSlice W x (n * z) = some l) (hx : VR σ x x') :
    ∃ l', LR σ l l' ∧ l.length = n * z ∧ (Builtin.firstCells z n x').run P w = .ok l'.toArray w := by
  have h0 : ∀ (a' : Addr), (loadCells a' 0).run P w = .ok #[] w := fun a' => by simp [loadCells, loadCellsFrom]
  unfold readSlice at hr
  split at hr
  · split at hr
    · rename_i hm
      injection hr with hr; subst hr
      cases hx
      exact ⟨[], .nil, by simp [hm], by simp [Builtin.firstCells]⟩
    · cases hr
  · rename_i a _ _
    split at hr
    · rename_i hm
      injection hr with hr; subst hr
      cases hx
      · exact ⟨[], .nil, by simp [hm], by simp [Builtin.firstCells, hm, h0]⟩
      · exact ⟨[], .nil, by simp [hm], by simp [Builtin.firstCells, hm, h0]⟩
    · rename_i hm
      split at hr
      · cases hr
      · rename_i hl0
        cases hx with
        | slice _ _ _ c' g hg hs hc =>
          obtain ⟨l', h1, h2, _, h4⟩ := readN_run (P := P) h hr hg
          exact ⟨l', h1, h2, by simp [Builtin.firstCells, h4]⟩
        | sliceE _ a' _ g hg hc => exact absurd rfl hl0
  · cases hr

theorem growBy_le (need : Nat) : ∀ (r c : Nat), c ≤ 2 * need + 192 → Builtin.growBy need r c ≤ 2 * need + 192 := by
  intro r
  induction r with
  | zero => intro c h; exact h
  | succ r ih =>
    intro c h
    simp only [Builtin.growBy]
    split
    · exact h
    · exact ih _ (by omega)
theorem nextcap_le {need c : Nat} (h : c < need) : Builtin.nextslicecap need c ≤ 2 * need + 192 := by
  unfold Builtin.nextslicecap
  split
  · omega
  · split
    · omega
    · exact growBy_le need 4 c (by omega)

def sliceElem (P : Program) (t : TypeId) : Option TypeId := match P.underlying t with | some (.slice e) => some e | _ => none
theorem sliceElem_eq {t e : TypeId} (h : sliceElem P t = some e) : P.underlying t = some (.slice e) := by
  unfold sliceElem at h
  split at h
  · rename_i e' hu; injection h with h; subst h; exact hu
  · cases h

noncomputable def aAppend (P : Program) (W : AW) (argTypes : Array TypeId) (s x : Value) : Option (Value × AW) :=
  match argTypes.toList with
  | [t0, t1] => if t0 = t1 then
    match sliceElem P t0, s, x with
    | some e, .slice base sLen sCap, .slice xb n xc => match tSz P e, (P.info? e).map (fun i => (i.zero, i.bytes)) with
      | some z, some (some zv, bytes) =>
        if 0 < z ∧ zv.cells.size = z ∧ sLen + n < 1099511627776 ∧ (2 * (sLen + n) + 192) * bytes ≤ 281474976710656 then
          if n = 0 then (if sLen ≤ sCap then some (s, W) else none)
          else match readSlice W (.slice xb n xc) (n * z), readSlice W s (sLen * z) with
            | some new, some old =>
              if new.all one = true then
                if sCap = BIG + z then
                  match base with
                  | some a => match W.get a.block with
                    | some (.cells _) => some ((W.kill a.block).new (.cells (old ++ new)) fun b W' => (Value.slice (some ⟨b, 0, none⟩) (sLen + n) (BIG + z), W'))
                    | some (.tc e' cs) => if e = e' ∧ z = 1 ∧ a.off = 0 ∧ cs.length = sLen ∧ sLen ≠ 0 ∧ PlanTab.ex e = false then some ((W.kill a.block).new (.tc e (cs ++ new)) fun b W' => (Value.slice (some ⟨b, 0, none⟩) (sLen + n) (BIG + 1), W')) else none
                    | _ => none
                  | none => none
                else if sCap < BIG then
                  match base with
                  | some a =>
                    if sLen + n ≤ sCap then (writeN W a.block (a.off + sLen * z) new).map fun W' => (Value.slice (some a) (sLen + n) sCap, W')
                    else some (W.new (.cells (old ++ new)) fun b W' => (Value.slice (some ⟨b, 0, none⟩) (sLen + n) (BIG + z), W'))
                  | none => if sLen = 0 ∧ sCap = 0 then some (W.new (.cells (old ++ new)) fun b W' => (Value.slice (some ⟨b, 0, none⟩) (sLen + n) (BIG + z), W')) else none
                else none
              else none
            | _, _ => none
        else none
      | _, _ => none
    | _, _, _ => none
    else none
  | _ => none

theorem zeroCells_size (zero : Array Value) (n : Nat) : (Builtin.zeroCells zero n).size = n * zero.size := by simp [Builtin.zeroCells]

theorem grow_rel (hW : WRel σ W w.heap) (e : TypeId) {z : Nat} {zv : Value} {old new old' new' : List Value} {k : Nat} (cap : Nat)
    (h1 : LR σ old old') (h2 : LR σ new new') (hz : zv.cells.size = z) (hz0 : 0 < z) (hlen : old.length + new.length = k * z) (hcap : k ≤ cap ∧ cap ≤ maxLen) :
    VR (bind1 σ W.next ⟨w.heap.size, 0, cap * z⟩) (.slice (some ⟨W.next, 0, none⟩) k (BIG + z)) (.slice (some ⟨w.heap.size, 0, none⟩) k cap) ∧
      WRel (bind1 σ W.next ⟨w.heap.size, 0, cap * z⟩) (W.add (.cells (old ++ new))) ((w.drew.alloc (.cells (old'.toArray ++ new'.toArray ++ Builtin.zeroCells zv.cells (cap - k)) e)).heap) ∧
      Ext σ W w (bind1 σ W.next ⟨w.heap.size, 0, cap * z⟩) (W.add (.cells (old ++ new))) (w.drew.alloc (.cells (old'.toArray ++ new'.toArray ++ Builtin.zeroCells zv.cells (cap - k)) e)) := by
  have hsz : (old'.toArray ++ new'.toArray ++ Builtin.zeroCells zv.cells (cap - k)).size = cap * z := by
    have hcap1 := hcap.1
    simp only [Array.size_append, List.size_toArray, zeroCells_size, hz, ← h1.1, ← h2.1]
    rw [hlen, ← Nat.add_mul]
    congr 1
    omega
  have := hW.alloc (o := .cells (old ++ new)) (x := .cells (old'.toArray ++ new'.toArray ++ Builtin.zeroCells zv.cells (cap - k)) e) (e := cap * z) (by
    refine ⟨old'.toArray ++ new'.toArray ++ Builtin.zeroCells zv.cells (cap - k), e, (0, 0), by rw [Array.getElem?_push]; simp, fun _ => rfl, ?_, by rw [hsz]; exact Nat.le_refl _, fun i v hv => ?_⟩
    · simp only [List.length_append, hlen, Nat.zero_add]
      exact Nat.mul_le_mul_right _ hcap.1
    · obtain ⟨v', a, b⟩ := (h1.append h2).get hv
      refine ⟨v', ?_, b.mono (bind1_sub hW.fresh)⟩
      have hi : i < (old' ++ new').length := (List.getElem?_eq_some_iff.1 a).1
      rw [Nat.zero_add, Array.getElem?_append]
      rw [if_pos (by simpa using hi)]
      simpa using a)
  have hv := VR.slice (σ := bind1 σ W.next ⟨w.heap.size, 0, cap * z⟩) ⟨W.next, 0, none⟩ k (BIG + z) cap ⟨w.heap.size, 0, cap * z⟩ bind1_same rfl (.open_ z cap hz0 hcap.1 (by simp) hcap.2)
  exact ⟨by simpa using hv, this.1, ⟨this.2.sub, this.2.ro, this.2.size, rfl, rfl, rfl, this.2.keep, this.2.ghost, this.2.grow⟩⟩

theorem append_none (P : Program) (w : World) (t ty e : TypeId) (z : Nat) (base : Option Addr) (sLen c' xc : Nat) (xb : Option Addr)
    (hu : P.underlying t = some (.slice e)) (hz : tSz P e = some z) (hle : sLen ≤ c') :
    (Builtin.append_ #[t, t] ty #[.slice base sLen c', .slice xb 0 xc]).run P w = .ok (.slice base sLen c') w := by
  have h0 : ∀ (a' : Addr), (loadCells a' 0).run P w = .ok #[] w := fun a' => by simp [loadCells, loadCellsFrom]
  cases base <;> cases xb <;> simp [Builtin.append_, run_underlying hu, run_sizeOf' hz, Builtin.lenOf, hle, Builtin.firstCells, h0, storeCells]

theorem append_fits (P : Program) (w w2 : World) (t ty e : TypeId) (z : Nat) (b off sLen c' n xc : Nat) (xb : Option Addr) (new' : List Value)
    (hu : P.underlying t = some (.slice e)) (hz : tSz P e = some z)
    (hnew : (Builtin.firstCells z n (.slice xb n xc)).run P w = .ok new'.toArray w) (hle : sLen + n ≤ c') (hst : (storeCells ⟨b, off + sLen * z, none⟩ new').run P w = .ok () w2) :
    (Builtin.append_ #[t, t] ty #[.slice (some ⟨b, off, none⟩) sLen c', .slice xb n xc]).run P w = .ok (.slice (some ⟨b, off, none⟩) (sLen + n) c') w2 := by
  simp [Builtin.append_, run_underlying hu, run_sizeOf' hz, Builtin.lenOf, hle, hnew, addr_add, hst]

theorem info_zero {e : TypeId} {zo : Option Value} {bytes z : Nat} (h : (P.info? e).map (fun i => (i.zero, i.bytes)) = some (zo, bytes)) (hz : tSz P e = some z) :
    ∃ i, P.info? e = some i ∧ i.zero = zo ∧ i.bytes = bytes ∧ i.size = z := by
  obtain ⟨i, hi, h1, _⟩ := tSz_cells hz
  rw [hi] at h
  simp at h
  exact ⟨i, hi, h.1, h.2, h1⟩

theorem readSlice_cells (h : WRel σ W w.heap) {A : Option Addr} {n c z : Nat} {x' : Value} {l : List Value} (hr : readSlice W (.slice A n c) (n * z) = some l) (hx : VR σ (.slice A n c) x') (hn : 0 < n * z) :
    ∃ a' c' l', x' = .slice (some a') n c' ∧ LR σ l l' ∧ l.length = n * z ∧ (∀ j v, l'[j]? = some v → w.cell? (a'.add j) = some v) := by
  unfold readSlice at hr
  split at hr
  · rw [if_neg (by omega)] at hr; cases hr
  · rename_i a len cc heq
    injection heq with e1 e2 e3
    rw [if_neg (by omega)] at hr
    split at hr
    · cases hr
    · rename_i hl0
      subst e1
      subst e2
      cases hx with
      | slice _ _ _ c' g hg hs hc =>
        obtain ⟨l', h1, h2, h3, _⟩ := readN_run (P := (default : Program)) h hr hg
        exact ⟨_, c', l', rfl, h1, h2, fun j v hj => by rw [addr_add]; exact h3 j v hj⟩
      | sliceE _ a' _ g hg hc => exact absurd rfl hl0
  · cases hr

theorem cut_cap (need old : Nat) (e : TypeId) (t : Nat) : need ≤ (Question.appendCap need old e).cut t := by
  simp only [Question.cut]; omega
theorem grow_tc (hW : WRel σ W w.heap) (e : TypeId) {cs cs' : List Value} {zs : Array Value} {cap : Nat} (h1 : LR σ cs cs') (hcap : cs.length + zs.size = cap) (h0 : 0 < cs.length) (hm : cap ≤ maxLen) (hex : PlanTab.ex e = false) {c : Array Value} (hc : c = cs'.toArray ++ zs) :
    VR (bind1 σ W.next ⟨w.heap.size, 0, cap⟩) (.slice (some ⟨W.next, 0, none⟩) cs.length (BIG + 1)) (.slice (some ⟨w.heap.size, 0, none⟩) cs.length cap) ∧
      WRel (bind1 σ W.next ⟨w.heap.size, 0, cap⟩) (W.add (.tc e cs)) ((w.drew.alloc (.cells c e)).heap) ∧
      Ext σ W w (bind1 σ W.next ⟨w.heap.size, 0, cap⟩) (W.add (.tc e cs)) (w.drew.alloc (.cells c e)) := by
  subst hc
  have hl := h1.1
  have hsz : (cs'.toArray ++ zs).size = cap := by
    simp only [Array.size_append, List.size_toArray]
    omega
  have := hW.alloc (o := .tc e cs) (x := .cells (cs'.toArray ++ zs) e) (e := cap) (by
    refine ⟨rfl, by simp only; omega, ⟨hm, fun hx => by rw [hex] at hx; cases hx⟩, cs'.toArray ++ zs, by rw [Array.getElem?_push]; simp, by simp only; omega, by simp only; omega, fun i v hv => ?_⟩
    obtain ⟨v', a, b⟩ := h1.get hv
    refine ⟨v', ?_, b.mono (bind1_sub hW.fresh)⟩
    have hi : i < cs'.length := (List.getElem?_eq_some_iff.1 a).1
    rw [Array.getElem?_append, if_pos (by simpa using hi)]
    simpa using a)
  have hv := VR.slice (σ := bind1 σ W.next ⟨w.heap.size, 0, cap⟩) ⟨W.next, 0, none⟩ cs.length (BIG + 1) cap ⟨w.heap.size, 0, cap⟩ bind1_same rfl (.open_ 1 cap (by omega) (by omega) (by simp) hm)
  exact ⟨by simpa using hv, this.1, ⟨this.2.sub, this.2.ro, this.2.size, rfl, rfl, rfl, this.2.keep, this.2.ghost, this.2.grow⟩⟩
theorem aAppend_run (hW : WRel σ W w.heap) {argTypes : Array TypeId} {ty : TypeId} {s x s' x' v : Value} {W' : AW} (h : aAppend P W argTypes s x = some (v, W')) (hs : VR σ s s') (hx : VR σ x x') :
    ∃ σ' v' w', (Builtin.append_ argTypes ty #[s', x']).run P w = .ok v' w' ∧ VR σ' v v' ∧ WRel σ' W' w'.heap ∧ Ext σ W w σ' W' w' := by
  unfold aAppend at h
  split at h
  · rename_i t0 t1 hat
    have hat' : argTypes = #[t0, t1] := by rw [← Array.toArray_toList (xs := argTypes), hat]
    split at h
    · rename_i ht
      subst ht
      subst hat'
      split at h
      · rename_i e base sLen sCap xb n xc he
        have hu := sliceElem_eq he
        split at h
        · rename_i z zv bytes hz hinfo
          obtain ⟨i, hi, hiz, hib, his⟩ := info_zero hinfo hz
          split at h
          · rename_i hc
            obtain ⟨hz0, hzs, hsm, hby⟩ := hc
            split at h
            · rename_i hn0
              subst hn0
              split at h
              · rename_i hle
                injection h with h
                injection h with hv hw
                subst hv
                subst hw
                have fin : ∀ (c' : Nat) (B : Option Addr) (xb' : Option Addr) (xc' : Nat), x' = .slice xb' 0 xc' → s' = .slice B sLen c' → sLen ≤ c' →
                    ∃ σ' v' w', (Builtin.append_ #[t0, t0] ty #[s', x']).run P w = .ok v' w' ∧ VR σ' (.slice base sLen sCap) v' ∧ WRel σ' W w'.heap ∧ Ext σ W w σ' W w' := by
                  intro c' B xb' xc' e1 e2 e3
                  subst e1
                  subst e2
                  exact ⟨σ, _, w, append_none P w t0 ty e z B sLen c' xc' xb' hu hz e3, hs, hW, Ext.refl _ _ _⟩
                have hxf : ∃ xb' xc', x' = .slice xb' 0 xc' := by cases hx <;> exact ⟨_, _, rfl⟩
                obtain ⟨xb', xc', rfl⟩ := hxf
                cases hs with
                | snil l c => exact fin _ _ xb' xc' rfl rfl hle
                | slice a l c c' g hg hsp hcc => exact fin _ _ xb' xc' rfl rfl (by rcases hcc.inv with ⟨_, h2⟩ | ⟨_, _, _, h2, _⟩ <;> omega)
                | sliceE a a' c g hg hcc => exact fin _ _ xb' xc' rfl rfl (by omega)
              · cases h
            · rename_i hn0
              split at h
              · rename_i new old hnew hold
                split at h
                · rename_i hone
                  have hnz : 0 < n * z := Nat.mul_pos (by omega) hz0
                  obtain ⟨xa, xc', new', rfl, hnr, hnl, hnc⟩ := readSlice_cells hW hnew hx hnz
                  obtain ⟨old', hor, hol, hof⟩ := readSlice_run (P := P) hW hold hs
                  have hnf : (Builtin.firstCells z n (.slice (some xa) n xc')).run P w = .ok new'.toArray w := by
                    have hl : new'.length = n * z := by rw [← hnr.1]; exact hnl
                    have := run_loadCells_list (P := P) w xa new' hnc
                    rw [hl] at this
                    simpa [Builtin.firstCells] using this
                  have hlen : old.length + new.length = (sLen + n) * z := by rw [hol, hnl, Nat.add_mul]
                  have grow : ∀ (a' : Addr) (c' : Nat), s' = .slice (some a') sLen c' → (0 < sLen → ∀ j u, old'[j]? = some u → w.cell? (a'.add j) = some u) → c' < sLen + n →
                      ∃ cap, (sLen + n ≤ cap ∧ cap ≤ maxLen) ∧ (Builtin.append_ #[t0, t0] ty #[s', .slice (some xa) n xc']).run P w =
                        .ok (.slice (some ⟨w.heap.size, 0, none⟩) (sLen + n) cap) (w.drew.alloc (.cells (old'.toArray ++ new'.toArray ++ Builtin.zeroCells zv.cells (cap - (sLen + n))) e)) := by
                    intro a' c' e1 e2 e3
                    subst e1
                    have hcap := nextcap_le e3
                    have hfit : Builtin.nextslicecap (sLen + n) c' * i.bytes ≤ 281474976710656 := by
                      have := Nat.mul_le_mul_right i.bytes hcap
                      rw [hib] at this ⊢
                      omega
                    refine ⟨_, ⟨cut_cap _ _ _ _, grownCap_le_maxLen w (sLen + n) c' e (by unfold maxLen; omega)⟩, run_append_grow (P := P) w t0 ty e i zv hu hi hiz a' sLen c' old' (by rw [← hor.1, hol, his]) (fun j u hj => ?_) xa n xc' new' (by rw [← hnr.1, hnl, his]) hnc e3 (by omega) hfit⟩
                    refine e2 ?_ j u hj
                    rcases Nat.eq_zero_or_pos sLen with h0 | h0
                    · have h1 := hol
                      rw [h0, Nat.zero_mul, hor.1] at h1
                      have := (List.getElem?_eq_some_iff.1 hj).1
                      omega
                    · exact h0
                  have growR := fun (cap : Nat) (hcap : sLen + n ≤ cap ∧ cap ≤ maxLen) => grow_rel (w := w) hW e cap hor hnr hzs hz0 hlen hcap
                  split at h
                  · rename_i hop
                    split at h
                    · rename_i a
                      split at h
                      · rename_i cs hget
                        injection h with h
                        rw [AW.new_eq] at h
                        injection h with hv hw
                        have hro : ∀ cs, W.get a.block ≠ some (.ro cs) := fun cs hx => by rw [hget] at hx; cases hx
                        have hmp : ∃ g0, σ a.block = some g0 := by cases hs with | slice _ _ _ c' g hg hsp hcc => exact ⟨g, hg⟩ | sliceE _ a' _ g hg hcc => exact ⟨g, hg⟩
                        obtain ⟨g0, hg0⟩ := hmp
                        obtain ⟨hWk, hEk⟩ := hW.kill hro hg0
                        have kgrow : ∀ (cap : Nat), (sLen + n ≤ cap ∧ cap ≤ maxLen) → (Builtin.append_ #[t0, t0] ty #[s', .slice (some xa) n xc']).run P w =
                            .ok (.slice (some ⟨w.heap.size, 0, none⟩) (sLen + n) cap) (w.drew.alloc (.cells (old'.toArray ++ new'.toArray ++ Builtin.zeroCells zv.cells (cap - (sLen + n))) e)) →
                            ∃ σ' v' w', (Builtin.append_ #[t0, t0] ty #[s', .slice (some xa) n xc']).run P w = .ok v' w' ∧ VR σ' v v' ∧ WRel σ' W' w'.heap ∧ Ext σ W w σ' W' w' := by
                          intro cap hcap hrun
                          obtain ⟨g1, g2, g3⟩ := grow_rel (w := w) hWk e cap hor hnr hzs hz0 hlen hcap
                          exact ⟨_, _, _, hrun, by rw [← hv]; exact g1, by rw [← hw]; exact g2, by rw [← hw]; exact hEk.trans g3⟩
                        cases hs with
                        | sliceE _ a' _ g hg hcc =>
                          obtain ⟨cap, h1, h2⟩ := grow a' 0 rfl (fun hx => absurd hx (by omega)) (by omega)
                          exact kgrow cap h1 h2
                        | slice _ _ _ c' g hg hsp hcc =>
                          rcases hcc.inv with ⟨hk, _⟩ | ⟨z', hz1, hzz, hlc, heq⟩
                          · exact absurd hk (by omega)
                          · have hz2 : z' = z := by omega
                            subst hz2
                            obtain ⟨c0, ct, fr0, q1, q0, q2, q3, q4⟩ := hW.obj a.block _ g hget hg
                            by_cases hfit : sLen + n ≤ c'
                            · have hcz : 0 < c' * z' := Nat.mul_pos (by omega) hz0
                              obtain rfl := q0 (by omega)
                              have hmul : (sLen + n) * z' ≤ c' * z' := Nat.mul_le_mul_right _ hfit
                              have hml : sLen * z' + n * z' = (sLen + n) * z' := (Nat.add_mul _ _ _).symm
                              have hst := run_storeCells_at (P := P) g.B (g.s + a.off + sLen * z') ct new' 0 c0 w q1 (by rw [← hnr.1, hnl]; omega) (one_all hnr hone)
                              simp only [Nat.add_zero] at hst
                              have hrun := append_fits P w _ t0 ty e z' g.B (g.s + a.off) sLen c' n xc' (some xa) new' hu hz hnf hfit hst
                              have hnl' : new'.length = n * z' := by rw [← hnr.1]; exact hnl
                              have hol' : old'.length = sLen * z' := by rw [← hor.1]; exact hol
                              have hseg := list_seg c0.toList (g.s + a.off + sLen * z') new' (by simp; omega)
                              have hold2 : ∀ j u, old[j]? = some u → ∃ u', c0[g.s + a.off + j]? = some u' ∧ VR σ u u' := by
                                intro j u hj
                                have hj2 : j < sLen * z' := by rw [← hol]; exact (List.getElem?_eq_some_iff.1 hj).1
                                have hs0 : 0 < sLen * z' := by omega
                                obtain ⟨a2, c2, l2, e2, l2r, l2l, l2c⟩ := readSlice_cells hW hold (VR.slice a sLen _ c' g hg hsp hcc) hs0
                                injection e2 with e2 _ _
                                injection e2 with e2
                                subst e2
                                obtain ⟨u', f1, f2⟩ := l2r.get hj
                                have := l2c j u' f1
                                rw [addr_add] at this
                                simp only [World.cell?, q1, Option.isSome_none, Bool.false_eq_true, if_false] at this
                                exact ⟨u', this, f2⟩
                              have hre := hW.reseat (w' := w.setRow g.B (c0.toList.take (g.s + a.off + sLen * z') ++ new' ++ c0.toList.drop (g.s + a.off + sLen * z' + new'.length)).toArray)
                                (b := a.block) (off := a.off) (cs' := old ++ new) hget hg (by simp [World.setRow]) rfl rfl rfl (fun B hB => setRow_getElem w g.B B _ hB) q1 (setRow_heap w g.B c0 _ ct _ q1) (by simp; omega)
                                (by
                                  intro j hj
                                  have := hseg j
                                  rw [if_neg (by omega)] at this
                                  simpa using this)
                                (by rw [List.length_append, hlen]; omega)
                                (by
                                  intro j u hj
                                  have h2 := hseg (g.s + a.off + j)
                                  rw [List.getElem?_append] at hj
                                  split at hj
                                  · rename_i hjl
                                    rw [if_neg (by omega)] at h2
                                    obtain ⟨u', f1, f2⟩ := hold2 j u hj
                                    exact ⟨u', by rw [← f1]; simpa using h2, f2⟩
                                  · rename_i hjl
                                    have hjn := (List.getElem?_eq_some_iff.1 hj).1
                                    rw [if_pos (by omega)] at h2
                                    obtain ⟨u', f1, f2⟩ := hnr.get hj
                                    rw [show g.s + a.off + j - (g.s + a.off + sLen * z') = j - old.length by omega, f1] at h2
                                    exact ⟨u', by simpa using h2, f2⟩)
                              have hvr := VR.slice (σ := bind1 σ W.next ⟨g.B, g.s + a.off, g.e⟩) ⟨W.next, 0, none⟩ (sLen + n) (BIG + z') c' ⟨g.B, g.s + a.off, g.e⟩ bind1_same rfl (.open_ z' c' hz0 hfit (by simp only [Nat.add_zero]; exact heq) (hcc.max.2 (by omega)))
                              simp only [Nat.add_zero] at hvr
                              exact ⟨_, _, _, hrun, by rw [← hv]; exact hvr, by rw [← hw]; exact hre.1, by rw [← hw]; exact hre.2⟩
                            · obtain ⟨cap, h1, h2⟩ := grow _ c' rfl (fun hs0 j u hj => by
                                have hs1 : 0 < sLen * z' := Nat.mul_pos hs0 hz0
                                obtain ⟨a2, c2, l2, e2, l2r, l2l, l2c⟩ := readSlice_cells hW hold (VR.slice a sLen _ c' g hg hsp hcc) hs1
                                injection e2 with e2 _ _
                                injection e2 with e2
                                subst e2
                                have hof2 : (Builtin.firstCells z' sLen (.slice (some ⟨g.B, g.s + a.off, none⟩) sLen c')).run P w = .ok l2.toArray w := by
                                  have := run_loadCells_list (P := P) w ⟨g.B, g.s + a.off, none⟩ l2 l2c
                                  rw [← l2r.1, l2l] at this
                                  simpa [Builtin.firstCells] using this
                                rw [hof] at hof2
                                injection hof2 with hof2 _
                                have : old' = l2 := by simpa using hof2
                                rw [this] at hj
                                exact l2c j u hj) (by omega)
                              exact kgrow cap h1 h2
                      · rename_i e' cs hget
                        split at h
                        case isFalse => cases h
                        rename_i hc3
                        obtain ⟨rfl, rfl, hoff, hcl, hs0, hexx⟩ := hc3
                        injection h with h
                        rw [AW.new_eq] at h
                        injection h with hv hw
                        have hro : ∀ cs, W.get a.block ≠ some (.ro cs) := fun cs hx => by rw [hget] at hx; cases hx
                        have hnl' : new'.length = n := by rw [← hnr.1, hnl, Nat.mul_one]
                        have hnl0 : new.length = n := by rw [hnl, Nat.mul_one]
                        cases hs with
                        | sliceE _ a' _ g hg hcc => exact absurd rfl hs0
                        | slice _ _ _ c' g hg hsp hcc =>
                          rcases hcc.inv with ⟨hk, _⟩ | ⟨z', hz1, hzz, hlc, heq⟩
                          · unfold BIG at hk hop; omega
                          · have hz2 : z' = 1 := by omega
                            subst hz2
                            obtain ⟨a1, a2, a3, c, q1, q2, q3, q4⟩ := hW.obj a.block _ g hget hg
                            have hcc' : c' = c.size := by omega
                            have hgs : (⟨g.B, g.s + a.off, none⟩ : Addr) = ⟨g.B, 0, none⟩ := by rw [a1, hoff]
                            rw [hgs]
                            have hex : ∃ old' : List Value, LR σ cs old' ∧ ∀ (j : Nat) (u : Value), old'[j]? = some u → c[j]? = some u := by
                              have hlt : ∀ j, j < cs.length → j < c.size := fun j hj => by omega
                              refine ⟨c.toList.take cs.length, ⟨by rw [List.length_take]; simp; omega, fun j u u' h1 h2 => ?_⟩, fun j u hj => ?_⟩
                              · obtain ⟨v', f1, f2⟩ := q4 j u h1
                                rw [List.getElem?_take] at h2
                                split at h2
                                · rw [Array.getElem?_toList, f1] at h2
                                  injection h2 with h2
                                  subst h2
                                  exact f2
                                · cases h2
                              · rw [List.getElem?_take] at hj
                                split at hj
                                · simpa using hj
                                · cases hj
                            obtain ⟨old2, hor2, hoc⟩ := hex
                            have hol2 := hor2.1
                            have hap := hor2.append hnr
                            by_cases hfit : sLen + n ≤ c'
                            · have hst := run_storeCells_at (P := P) g.B (0 + sLen * 1) e new' 0 c w q1 (by omega) (one_all hnr hone)
                              simp only [Nat.add_zero] at hst
                              have hrun := append_fits P w _ t0 ty e 1 g.B 0 sLen c' n xc' (some xa) new' hu hz hnf hfit hst
                              have hseg := list_seg c.toList (0 + sLen * 1) new' (by simp; omega)
                              have hre := hW.reseatO (w' := w.setRow g.B (c.toList.take (0 + sLen * 1) ++ new' ++ c.toList.drop (0 + sLen * 1 + new'.length)).toArray) (b := a.block) (off := 0) (o' := .tc e (cs ++ new))
                                (c' := (c.toList.take (0 + sLen * 1) ++ new' ++ c.toList.drop (0 + sLen * 1 + new'.length)).toArray) hget (fun _ => by simp) hg (by simp [World.setRow]) rfl rfl rfl (fun B hB => setRow_getElem w g.B B _ hB) q1 (setRow_heap w g.B c _ e _ q1) (by simp; omega)
                                (fun j hj => by
                                  rw [Array.getElem?_eq_none (by simp; omega), Array.getElem?_eq_none (by omega)])
                                ⟨by simp only; omega, a2, ⟨a3.1, fun hx => by rw [hexx] at hx; cases hx⟩, _, setRow_heap w g.B c _ e _ q1, by simp only [List.length_append]; omega, by simp; omega, fun j u hj => by
                                  have h2 := hseg j
                                  rw [List.getElem?_append] at hj
                                  split at hj
                                  · rename_i hjl
                                    rw [if_neg (by omega)] at h2
                                    obtain ⟨u', f1, f2⟩ := q4 j u hj
                                    exact ⟨u', by rw [← f1]; simpa using h2, f2.mono (bind1_sub hW.fresh)⟩
                                  · rename_i hjl
                                    have hjn := (List.getElem?_eq_some_iff.1 hj).1
                                    rw [if_pos (by omega)] at h2
                                    obtain ⟨u', f1, f2⟩ := hnr.get hj
                                    rw [show j - (0 + sLen * 1) = j - cs.length by omega, f1] at h2
                                    exact ⟨u', by simpa using h2, f2.mono (bind1_sub hW.fresh)⟩⟩
                              have hvr := VR.slice (σ := bind1 σ W.next ⟨g.B, g.s + 0, g.e⟩) ⟨W.next, 0, none⟩ (sLen + n) (BIG + 1) c' ⟨g.B, g.s + 0, g.e⟩ bind1_same rfl (.open_ 1 c' (by omega) hfit (by simp only; omega) (hcc.max.2 (by omega)))
                              simp only [a1, Nat.add_zero] at hvr
                              refine ⟨_, _, _, hrun, by rw [← hv]; exact hvr, ?_, ?_⟩
                              · rw [← hw]; simpa only [a1, Nat.add_zero] using hre.1
                              · rw [← hw]; simpa only [a1, Nat.add_zero] using hre.2
                            · have hcap := nextcap_le (show c' < sLen + n by omega)
                              have hfit2 : Builtin.nextslicecap (sLen + n) c' * i.bytes ≤ 281474976710656 := by
                                have := Nat.mul_le_mul_right i.bytes hcap
                                rw [hib] at this ⊢
                                omega
                              have hrun := run_append_grow (P := P) w t0 ty e i zv hu hi hiz ⟨g.B, 0, none⟩ sLen c' old2 (by rw [← hol2, his]; omega) (fun j u hj => by
                                have := hoc j u hj
                                rw [addr_add]
                                simp [World.cell?, q1, this]) xa n xc' new' (by rw [his]; omega) hnc (by omega) (by omega) hfit2
                              obtain ⟨hWk, hEk⟩ := hW.kill hro hg
                              have hge := grownCap_ge w (sLen + n) c' e
                              obtain ⟨g1, g2, g3⟩ := grow_tc (w := w) hWk e (cs := cs ++ new) (cs' := old2 ++ new') (zs := Builtin.zeroCells zv.cells (grownCap w (sLen + n) c' e - (sLen + n))) (cap := grownCap w (sLen + n) c' e) hap
                                (by rw [List.length_append, zeroCells_size, hzs]; omega) (by rw [List.length_append]; omega) (grownCap_le_maxLen w (sLen + n) c' e (by unfold maxLen; omega)) hexx
                                (c := old2.toArray ++ new'.toArray ++ Builtin.zeroCells zv.cells (grownCap w (sLen + n) c' e - (sLen + n))) (by simp)
                              rw [List.length_append, hnl0, hcl] at g1
                              exact ⟨_, _, _, hrun, by rw [← hv]; exact g1, by rw [← hw]; exact g2, by rw [← hw]; exact hEk.trans g3⟩
                      · cases h
                    · cases h
                  · split at h
                    · rename_i hno hbig
                      split at h
                      · rename_i a
                        have oldc : ∀ (g : Seg) (c' : Nat), σ a.block = some g → a.spot = none → CapR g a.off sLen sCap c' → s' = .slice (some ⟨g.B, g.s + a.off, none⟩) sLen c' → 0 < sLen → ∀ j u, old'[j]? = some u → w.cell? ((⟨g.B, g.s + a.off, none⟩ : Addr).add j) = some u := by
                          intro g c' hg hsp hcc hse hs0 j u hj
                          have hs1 : 0 < sLen * z := Nat.mul_pos hs0 hz0
                          obtain ⟨a2, c2, l2, e2, l2r, l2l, l2c⟩ := readSlice_cells hW hold (VR.slice a sLen _ c' g hg hsp hcc) hs1
                          injection e2 with e2 _ _
                          injection e2 with e2
                          subst e2
                          have hof2 : (Builtin.firstCells z sLen (.slice (some ⟨g.B, g.s + a.off, none⟩) sLen c')).run P w = .ok l2.toArray w := by
                            have := run_loadCells_list (P := P) w ⟨g.B, g.s + a.off, none⟩ l2 l2c
                            rw [← l2r.1, l2l] at this
                            simpa [Builtin.firstCells] using this
                          rw [← hse, hof] at hof2
                          injection hof2 with hof2 _
                          have : old' = l2 := by simpa using hof2
                          rw [this] at hj
                          exact l2c j u hj
                        split at h
                        · rename_i hfit
                          cases hwn : writeN W a.block (a.off + sLen * z) new with
                          | none => rw [hwn] at h; cases h
                          | some W2 =>
                            rw [hwn] at h
                            simp only [Option.map_some, Option.some.injEq, Prod.mk.injEq] at h
                            obtain ⟨hv, hw⟩ := h
                            subst hw
                            cases hs with
                            | sliceE _ a' _ g hg hcc => omega
                            | slice _ _ _ c' g hg hsp hcc =>
                              rcases hcc.inv with ⟨hk, rfl⟩ | ⟨z', hz1, hzz, hlc, heq⟩
                              · obtain ⟨w2, k1, k2, k3⟩ := writeN_run (P := P) hW hwn hg hnr
                                have hrun := append_fits P w w2 t0 ty e z g.B (g.s + a.off) sLen c' n xc' (some xa) new' hu hz hnf hfit (by rw [Nat.add_assoc]; exact k1)
                                refine ⟨σ, _, w2, hrun, ?_, k2, k3⟩
                                rw [← hv]
                                exact .slice a _ _ _ g hg hsp (.known _ hk)
                              · omega
                        · rename_i hfit
                          injection h with h
                          rw [AW.new_eq] at h
                          injection h with hv hw
                          have fin : ∀ (cap : Nat), (sLen + n ≤ cap ∧ cap ≤ maxLen) → (Builtin.append_ #[t0, t0] ty #[s', .slice (some xa) n xc']).run P w =
                            .ok (.slice (some ⟨w.heap.size, 0, none⟩) (sLen + n) cap) (w.drew.alloc (.cells (old'.toArray ++ new'.toArray ++ Builtin.zeroCells zv.cells (cap - (sLen + n))) e)) →
                            ∃ σ' v' w', (Builtin.append_ #[t0, t0] ty #[s', .slice (some xa) n xc']).run P w = .ok v' w' ∧ VR σ' v v' ∧ WRel σ' W' w'.heap ∧ Ext σ W w σ' W' w' := by
                            intro cap hcap hrun
                            obtain ⟨g1, g2, g3⟩ := growR cap hcap
                            exact ⟨_, _, _, hrun, by rw [← hv]; exact g1, by rw [← hw]; exact g2, by rw [← hw]; exact g3⟩
                          cases hs with
                          | sliceE _ a' _ g hg hcc =>
                            obtain ⟨cap, h1, h2⟩ := grow a' 0 rfl (fun hx => absurd hx (by omega)) (by omega)
                            exact fin cap h1 h2
                          | slice _ _ _ c' g hg hsp hcc =>
                            have hcl : c' < sLen + n := by rcases hcc.inv with ⟨_, h2⟩ | ⟨_, _, h2, _, _⟩ <;> omega
                            obtain ⟨cap, h1, h2⟩ := grow _ c' rfl (oldc g c' hg hsp hcc rfl) hcl
                            exact fin cap h1 h2
                      · split at h
                        · rename_i h00
                          obtain ⟨rfl, rfl, hexx⟩ := h00
                          injection h with h
                          rw [AW.new_eq] at h
                          injection h with hv hw
                          cases hs
                          have hold0 : old' = [] := by
                            have := hor.1
                            rw [hol, Nat.zero_mul] at this
                            exact List.eq_nil_of_length_eq_zero this.symm
                          subst hold0
                          have hfit : n * i.bytes ≤ 281474976710656 := by
                            have := Nat.mul_le_mul_right i.bytes (show n ≤ 2 * (0 + n) + 192 by omega)
                            rw [hib] at this ⊢
                            omega
                          have hrun := run_append_nil (P := P) w t0 ty e i zv hu hi hiz xa n xc' new' (by rw [← hnr.1, hnl, his]) hnc (by omega) (by omega) hfit
                          obtain ⟨g1, g2, g3⟩ := growR _ ⟨cut_cap (0 + n) 0 e (w.tape w.drawn (.appendCap n 0 e)), by simpa [grownCap] using grownCap_le_maxLen w n 0 e (by unfold maxLen; omega)⟩
                          simp only [Nat.zero_add] at g1 g2 g3 hv
                          refine ⟨_, _, _, hrun, by rw [← hv]; exact g1, ?_, ?_⟩
                          · rw [← hw]; simpa [grownCap] using g2
                          · rw [← hw]; simpa [grownCap] using g3
                        · cases h
                    · cases h
                · cases h
              · cases h
          · cases h
        · cases h
      · cases h
    · cases h
  · cases h
noncomputable def aAppendS (P : Program) (W : AW) (argTypes : Array TypeId) (s x : Value) : Option (Value × AW) :=
  match argTypes.toList with
  | [t0, t1] => match P.underlying t1 with
    | some .string => match sliceElem P t0, s, x with
      | some e, .slice base sLen sCap, .string str => match tSz P e, (P.info? e).map (fun i => (i.zero, i.bytes)) with
        | some 1, some (some (Value.int IntKind.u8 (.ofNat 0)), 1) =>
          if sLen + str.size < 1099511627776 then
            if str.size = 0 then (if sLen ≤ sCap then some (s, W) else none)
            else match base with
              | some a => if sCap = BIG + 1 ∧ a.off = 0 then match W.get a.block with
                | some (.tc e' cs) => if e = e' ∧ cs.length = sLen ∧ sLen ≠ 0 ∧ PlanTab.ex e = false then some ((W.kill a.block).new (.tc e (cs ++ Lib.strCells str)) fun b W' => (Value.slice (some ⟨b, 0, none⟩) (sLen + str.size) (BIG + 1), W')) else none
                | _ => none
                else none
              | none => if sLen = 0 ∧ sCap = 0 ∧ PlanTab.ex e = false then some (W.new (.tc e (Lib.strCells str)) fun b W' => (Value.slice (some ⟨b, 0, none⟩) (0 + str.size) (BIG + 1), W')) else none
          else none
        | _, _ => none
      | _, _, _ => none
    | _ => none
  | _ => none
theorem strCells_LR (σ : Inj) (s : ByteArray) : LR σ (Lib.strCells s) (Lib.strCells s) := by
  refine ⟨rfl, fun i v v' h1 h2 => ?_⟩
  rw [h1] at h2
  injection h2 with h2
  subst h2
  unfold Lib.strCells at h1
  rw [List.getElem?_map] at h1
  cases hx : s.data.toList[i]? with
  | none => rw [hx] at h1; cases h1
  | some b => rw [hx] at h1; injection h1 with h1; subst h1; exact .int _ _
theorem aAppendS_run (hW : WRel σ W w.heap) {argTypes : Array TypeId} {ty : TypeId} {s x s' x' v : Value} {W' : AW} (h : aAppendS P W argTypes s x = some (v, W')) (hs : VR σ s s') (hx : VR σ x x') :
    ∃ σ' v' w', (Builtin.append_ argTypes ty #[s', x']).run P w = .ok v' w' ∧ VR σ' v v' ∧ WRel σ' W' w'.heap ∧ Ext σ W w σ' W' w' := by
  unfold aAppendS at h
  split at h
  · rename_i t0 t1 hat
    have hat' : argTypes = #[t0, t1] := by rw [← Array.toArray_toList (xs := argTypes), hat]
    subst hat'
    split at h
    · rename_i hstr
      split at h
      · rename_i e base sLen sCap str he
        have hu := sliceElem_eq he
        cases hx
        split at h
        · rename_i hz hinfo
          obtain ⟨i, hi, hiz, hib, his⟩ := info_zero hinfo hz
          split at h
          · rename_i hsm
            have hmx : ∀ n sc, n ≤ maxLen → grownCap w n sc e ≤ maxLen := fun n sc hn => grownCap_le_maxLen w n sc e hn
            have hml : sLen + str.size ≤ maxLen := by unfold maxLen; omega
            split at h
            · rename_i hn0
              split at h
              · rename_i hle
                injection h with h
                injection h with hv hw
                subst hv
                subst hw
                have h00 : ∀ (a' : Addr), (loadCells a' 0).run P w = .ok #[] w := fun a' => by simp [loadCells, loadCellsFrom]
                have fin : ∀ (c' : Nat) (B : Option Addr), s' = .slice B sLen c' → sLen ≤ c' → ∃ σ' v' w', (Builtin.append_ #[t0, t1] ty #[s', .string str]).run P w = .ok v' w' ∧ VR σ' (.slice base sLen sCap) v' ∧ WRel σ' W w'.heap ∧ Ext σ W w σ' W w' := by
                  intro c' B e2 e3
                  subst e2
                  have hf := Lib.run_firstCells_string (P := P) w 1 str
                  rw [hn0] at hf
                  have hsc : Lib.strCells str = [] := List.eq_nil_of_length_eq_zero (by rw [Lib.strCells_length]; exact hn0)
                  rw [hsc] at hf
                  refine ⟨σ, _, w, ?_, hs, hW, Ext.refl _ _ _⟩
                  cases B <;> simp [Builtin.append_, run_underlying hu, run_underlying hstr, run_sizeOf' hz, Builtin.lenOf, hn0, e3, hf, storeCells]
                cases hs with
                | snil l c => exact fin _ _ rfl hle
                | slice a l c c' g hg hsp hcc => exact fin _ _ rfl (by rcases hcc.inv with ⟨_, h2⟩ | ⟨_, _, _, h2, _⟩ <;> omega)
                | sliceE a a' c g hg hcc => exact fin _ _ rfl (by omega)
              · cases h
            · rename_i hn0
              split at h
              · rename_i a
                split at h
                · rename_i hcond
                  obtain ⟨hop, hoff⟩ := hcond
                  split at h
                  · rename_i e' cs hget
                    split at h
                    · rename_i hc3
                      obtain ⟨rfl, hcl, hs0, hexx⟩ := hc3
                      injection h with h
                      rw [AW.new_eq] at h
                      injection h with hv hw
                      have hro : ∀ cs, W.get a.block ≠ some (.ro cs) := fun cs hx => by rw [hget] at hx; cases hx
                      cases hs with
                      | sliceE _ a' _ g hg hcc => exact absurd rfl hs0
                      | slice _ _ _ c' g hg hsp hcc =>
                        rcases hcc.inv with ⟨hk, _⟩ | ⟨z', hz1, hzz, hlc, heq⟩
                        · unfold BIG at hk hop; omega
                        · have hz2 : z' = 1 := by omega
                          subst hz2
                          obtain ⟨a1, a2, a3, c, q1, q2, q3, q4⟩ := hW.obj a.block _ g hget hg
                          have hcc' : c' = c.size := by omega
                          have hgs : (⟨g.B, g.s + a.off, none⟩ : Addr) = ⟨g.B, 0, none⟩ := by rw [a1, hoff]
                          rw [hgs]
                          have hex : ∃ old' : List Value, LR σ cs old' ∧ ∀ (j : Nat) (u : Value), old'[j]? = some u → c[j]? = some u := by
                            have hlt : ∀ j, j < cs.length → j < c.size := fun j hj => by omega
                            refine ⟨c.toList.take cs.length, ⟨by rw [List.length_take]; simp; omega, fun j u u' h1 h2 => ?_⟩, fun j u hj => ?_⟩
                            · obtain ⟨v', f1, f2⟩ := q4 j u h1
                              rw [List.getElem?_take] at h2
                              split at h2
                              · rw [Array.getElem?_toList, f1] at h2
                                injection h2 with h2
                                subst h2
                                exact f2
                              · cases h2
                            · rw [List.getElem?_take] at hj
                              split at hj
                              · simpa using hj
                              · cases hj
                          obtain ⟨old', hor, hoc⟩ := hex
                          have hol := hor.1
                          have hap := hor.append (strCells_LR σ str)
                          by_cases hfit : sLen + str.size ≤ c'
                          · have hrun := Lib.run_append_room_string (P := P) w t0 t1 ty e i hu hstr hi his g.B sLen c' c q1 str hfit (by omega)
                            have hseg := list_seg c.toList sLen (Lib.strCells str) (by rw [Lib.strCells_length]; simp; omega)
                            rw [Lib.strCells_length] at hseg
                            have hre := hW.reseatO (w' := w.setRow g.B (c.toList.take sLen ++ Lib.strCells str ++ c.toList.drop (sLen + str.size)).toArray) (b := a.block) (off := 0) (o' := .tc e (cs ++ Lib.strCells str))
                              (c' := (c.toList.take sLen ++ Lib.strCells str ++ c.toList.drop (sLen + str.size)).toArray) hget (fun _ => by simp) hg (by simp [World.setRow]) rfl rfl rfl (fun B hB => setRow_getElem w g.B B _ hB) q1 (setRow_heap w g.B c _ e _ q1) (by simp [Lib.strCells_length]; omega)
                              (fun j hj => by
                                rw [Array.getElem?_eq_none (by simp [Lib.strCells_length]; omega), Array.getElem?_eq_none (by omega)])
                              ⟨by simp only; omega, a2, ⟨a3.1, fun hx => by rw [hexx] at hx; cases hx⟩, _, setRow_heap w g.B c _ e _ q1, by simp only [List.length_append, Lib.strCells_length]; omega, by simp [Lib.strCells_length]; omega, fun j u hj => by
                                have h2 := hseg j
                                rw [List.getElem?_append] at hj
                                split at hj
                                · rename_i hjl
                                  rw [if_neg (by omega)] at h2
                                  obtain ⟨u', f1, f2⟩ := q4 j u hj
                                  exact ⟨u', by rw [← f1]; simpa using h2, f2.mono (bind1_sub hW.fresh)⟩
                                · rename_i hjl
                                  have hjn := (List.getElem?_eq_some_iff.1 hj).1
                                  rw [Lib.strCells_length] at hjn
                                  rw [if_pos (by omega)] at h2
                                  obtain ⟨u', f1, f2⟩ := (strCells_LR σ str).get hj
                                  rw [hcl] at f1
                                  rw [f1] at h2
                                  exact ⟨u', by simpa using h2, f2.mono (bind1_sub hW.fresh)⟩⟩
                            have hvr := VR.slice (σ := bind1 σ W.next ⟨g.B, g.s + 0, g.e⟩) ⟨W.next, 0, none⟩ (sLen + str.size) (BIG + 1) c' ⟨g.B, g.s + 0, g.e⟩ bind1_same rfl (.open_ 1 c' (by omega) hfit (by simp only; omega) (hcc.max.2 (by omega)))
                            simp only [a1, Nat.add_zero] at hvr
                            refine ⟨_, _, _, hrun, by rw [← hv]; exact hvr, ?_, ?_⟩
                            · rw [← hw]; simpa only [a1, Nat.add_zero] using hre.1
                            · rw [← hw]; simpa only [a1, Nat.add_zero] using hre.2
                          · have hcap := nextcap_le (show c' < sLen + str.size by omega)
                            have hrun := Lib.run_append_grow_string (P := P) w t0 t1 ty e i (.int .u8 0) hu hstr hi hiz ⟨g.B, 0, none⟩ sLen c' old' (by rw [← hol, his]; omega) (fun j u hj => by
                              have := hoc j u hj
                              rw [addr_add]
                              simp [World.cell?, q1, this]) str (by omega) (by omega) (by rw [hib]; omega)
                            obtain ⟨hWk, hEk⟩ := hW.kill hro hg
                            have hge := grownCap_ge w (sLen + str.size) c' e
                            obtain ⟨g1, g2, g3⟩ := grow_tc (w := w) hWk e (cs := cs ++ Lib.strCells str) (cs' := old' ++ Lib.strCells str) (zs := Builtin.zeroCells (Value.int .u8 0).cells (grownCap w (sLen + str.size) c' e - (sLen + str.size))) (cap := grownCap w (sLen + str.size) c' e) hap
                              (by rw [List.length_append, Lib.strCells_length, zeroCells_size, show (Value.int IntKind.u8 0).cells.size = 1 from rfl]; omega) (by rw [List.length_append, Lib.strCells_length]; omega) (hmx _ _ hml) hexx
                              (c := old'.toArray ++ (Lib.strCells str).toArray ++ Builtin.zeroCells (Value.int .u8 0).cells (grownCap w (sLen + str.size) c' e - (sLen + str.size))) (by simp)
                            rw [List.length_append, Lib.strCells_length, hcl] at g1
                            exact ⟨_, _, _, hrun, by rw [← hv]; exact g1, by rw [← hw]; exact g2, by rw [← hw]; exact hEk.trans g3⟩
                    · cases h
                  · cases h
                · cases h
              · split at h
                · rename_i h00
                  obtain ⟨rfl, rfl, hexx⟩ := h00
                  injection h with h
                  rw [AW.new_eq] at h
                  injection h with hv hw
                  cases hs
                  have hfit : str.size * i.bytes ≤ 281474976710656 := by rw [hib]; omega
                  have hrun := run_append_nil_string (P := P) w t0 t1 ty e i (.int .u8 0) hu hstr hi hiz str (by omega) (by omega) hfit
                  have hge := grownCap_ge w str.size 0 e
                  obtain ⟨g1, g2, g3⟩ := grow_tc (w := w) hW e (cs := Lib.strCells str) (cs' := Lib.strCells str) (zs := Builtin.zeroCells (Value.int .u8 0).cells (grownCap w str.size 0 e - str.size)) (cap := grownCap w str.size 0 e) (strCells_LR σ str)
                    (by rw [Lib.strCells_length, zeroCells_size, show (Value.int IntKind.u8 0).cells.size = 1 from rfl]; omega) (by rw [Lib.strCells_length]; omega) (hmx _ _ (by omega)) hexx
                    (c := str.data.map (fun b => Value.int .u8 b.toNat) ++ Builtin.zeroCells (Value.int .u8 0).cells (grownCap w str.size 0 e - str.size)) (by
                      congr 1
                      apply Array.ext'
                      simp [Lib.strCells])
                  rw [Lib.strCells_length] at g1
                  exact ⟨_, _, _, hrun, by rw [← hv, Nat.zero_add]; exact g1, by rw [← hw]; exact g2, by rw [← hw]; exact g3⟩
                · cases h
          · cases h
        · cases h
      · cases h
    · cases h
  · cases h
noncomputable def aAppend2 (P : Program) (W : AW) (argTypes : Array TypeId) (s x : Value) : Option (Value × AW) :=
  match argTypes.toList with
  | [t0, t1] => if t0 = t1 then aAppend P W argTypes s x else aAppendS P W argTypes s x
  | _ => none
theorem aAppend2_run (hW : WRel σ W w.heap) {argTypes : Array TypeId} {ty : TypeId} {s x s' x' v : Value} {W' : AW} (h : aAppend2 P W argTypes s x = some (v, W')) (hs : VR σ s s') (hx : VR σ x x') :
    ∃ σ' v' w', (Builtin.append_ argTypes ty #[s', x']).run P w = .ok v' w' ∧ VR σ' v v' ∧ WRel σ' W' w'.heap ∧ Ext σ W w σ' W' w' := by
  unfold aAppend2 at h
  split at h
  · split at h
    · exact aAppend_run hW h hs hx
    · exact aAppendS_run hW h hs hx
  · cases h
noncomputable def aSliceData (x : Value) : Option Value := match x with
  | .slice none _ _ => some (.pointer none)
  | .slice (some a) l c => if l ≠ 0 ∧ c ≠ 0 then some (.pointer (some a)) else none
  | _ => none
theorem aSliceData_run {x x' v : Value} {ts : Array TypeId} {ty : TypeId} (h : aSliceData x = some v) (hx : VR σ x x') : ∃ v', (Builtin.unsafeSliceData_ ts ty #[x']).run P w = .ok v' w ∧ VR σ v v' := by
  unfold aSliceData at h
  split at h
  · injection h with h
    subst h
    cases hx
    exact ⟨_, Lib.run_unsafeSliceData_nil _ _ _ _ _, .pnil⟩
  · split at h
    · rename_i a l c hc
      injection h with h
      subst h
      cases hx with
      | slice _ _ _ c' g hg hs hcc =>
        exact ⟨_, Lib.run_unsafeSliceData_row _ _ _ _ _ _ (by rcases hcc.inv with ⟨_, h2⟩ | ⟨_, _, _, h2, _⟩ <;> omega), .ptr a g hg hs⟩
      | sliceE _ a' _ g hg hcc => exact absurd rfl hc.1
    · cases h
  · cases h
noncomputable def byteOf (v : Value) : Option UInt8 := match v with
  | .int .u8 (.ofNat n) => if n < 256 then some (UInt8.ofNat n) else none
  | _ => none
theorem byteOf_eq {v : Value} {x : UInt8} (h : byteOf v = some x) : v = .int .u8 x.toNat := by
  unfold byteOf at h
  split at h
  · rename_i n
    split at h
    · rename_i hn
      injection h with h
      subst h
      have : (UInt8.ofNat n).toNat = n := by simp; omega
      rw [this]
      rfl
    · cases h
  · cases h
noncomputable def bytesOf : List Value → Option (List UInt8) := List.rec (motive := fun _ => Option (List UInt8)) (some []) (fun v _ ih => match byteOf v with
  | some b => ih.map (fun l => b :: l)
  | none => none)
theorem bytesOf_get : ∀ {cs : List Value} {l : List UInt8}, bytesOf cs = some l → cs.length = l.length ∧ ∀ (j : Nat) (x : UInt8), l[j]? = some x → cs[j]? = some (.int .u8 x.toNat)
  | [], l, h => by injection h with h; subst h; exact ⟨rfl, fun j x hj => by simp at hj⟩
  | v :: cs, l, h => by
    have h' : (match byteOf v with
      | some b => (bytesOf cs).map (fun l => b :: l)
      | none => none) = some l := h
    cases hv : byteOf v with
    | none => rw [hv] at h'; cases h'
    | some b0 =>
      rw [hv] at h'
      cases hb : bytesOf cs with
      | none => rw [hb] at h'; cases h'
      | some l0 =>
        rw [hb] at h'
        injection h' with h'
        subst h'
        obtain ⟨h1, h2⟩ := bytesOf_get hb
        refine ⟨by simp [h1], fun j x hj => ?_⟩
        cases j with
        | zero =>
          simp only [List.getElem?_cons_zero, Option.some.injEq] at hj ⊢
          subst hj
          exact byteOf_eq hv
        | succ j => simpa using h2 j x (by simpa using hj)
theorem freeze_at (w : World) (a : Addr) (m : Nat) {c : Array Value} {t : TypeId} {fr : Nat × Nat} (h : w.heap[a.block]? = some (.cells c t fr)) : ∃ fr', (w.freeze a m).heap[a.block]? = some (.cells c t fr') := by
  unfold World.freeze
  split
  · exact ⟨fr, h⟩
  · obtain ⟨lo, hi⟩ := fr
    simp only [Array.getElem?_modify, if_pos, h, Option.map_some]
    exact ⟨_, rfl⟩
theorem freeze_ne (w : World) (a : Addr) (m : Nat) {B : Nat} (h : B ≠ a.block) : (w.freeze a m).heap[B]? = w.heap[B]? := by
  unfold World.freeze
  split
  · rfl
  · simp only [Array.getElem?_modify]
    rw [if_neg (Ne.symm h)]
theorem freeze_size (w : World) (a : Addr) (m : Nat) : (w.freeze a m).heap.size = w.heap.size := by
  unfold World.freeze
  split
  · rfl
  · simp
theorem freeze_os (w : World) (a : Addr) (m : Nat) : (w.freeze a m).os = w.os ∧ (w.freeze a m).tape = w.tape ∧ (w.freeze a m).output = w.output := by
  unfold World.freeze
  split <;> exact ⟨rfl, rfl, rfl⟩
theorem WRel.freezeT (h : WRel σ W w.heap) {b : Nat} {t : TypeId} {cs : List Value} {g : Seg} (hb : W.get b = some (.tc t cs)) (hg : σ b = some g) (m : Nat) :
    WRel σ (W.kill b) (w.freeze ⟨g.B, 0, none⟩ m).heap ∧ Ext σ W w σ (W.kill b) (w.freeze ⟨g.B, 0, none⟩ m) := by
  have hro : ∀ cs, W.get b ≠ some (.ro cs) := fun cs hx => by rw [hb] at hx; cases hx
  have hk : ∀ c o, (W.kill b).get c = some o → c ≠ b ∧ W.get c = some o := fun c o hc => by
    by_cases hx : c = b
    · subst hx; rw [AW.get_kill] at hc; cases hc
    · rw [AW.get_kill_ne _ (Ne.symm hx)] at hc; exact ⟨hx, hc⟩
  obtain ⟨a1, a2, a3, c, q1, q2, q3, q4⟩ := h.obj b _ g hb hg
  obtain ⟨fr', hat⟩ := freeze_at w ⟨g.B, 0, none⟩ m q1
  have hsz := freeze_size w ⟨g.B, 0, none⟩ m
  obtain ⟨os1, os2, os3⟩ := freeze_os w ⟨g.B, 0, none⟩ m
  have hother : ∀ B, B ≠ g.B → (w.freeze ⟨g.B, 0, none⟩ m).heap[B]? = w.heap[B]? := fun B hB => freeze_ne w ⟨g.B, 0, none⟩ m hB
  obtain ⟨k1, k2⟩ := h.kill hro hg
  refine ⟨⟨k1.free, fun b2 g2 h2 => by rw [hsz]; exact h.dom b2 g2 h2, fun x o2 g2 hx hy => ?_, k1.disj⟩, ⟨.refl _, k2.ro, by rw [hsz]; exact Nat.le_refl _, os1, os2, os3, fun B hB hm => ?_, k2.ghost, fun x g2 hx _ => .inl hx⟩⟩
  · obtain ⟨hxb, hxg⟩ := hk x o2 hx
    have hold := h.obj x o2 g2 hxg hy
    by_cases hB : g2.B = g.B
    · have hd : g2.e ≤ g.s ∨ g.e ≤ g2.s := (h.disj x b o2 _ g2 g hxb hxg hb hy hg (rwR (fun _ hx => by cases hx))).resolve_left (fun hne => hne hB)
      cases o2 with
      | cells cs2 =>
        obtain ⟨c0, t0, fr0, e1, e0, e2, e3, e4⟩ := hold
        rw [hB, q1] at e1
        injection e1 with e1
        injection e1 with e1 e1' e1''
        subst e1
        exact ⟨c, t, fr', by rw [hB]; exact hat, fun hlt => by omega, e2, e3, e4⟩
      | ro cs2 =>
        obtain ⟨c0, t0, fr0, e1, e2, e3⟩ := hold
        rw [hB, q1] at e1
        injection e1 with e1
        injection e1 with e1 e1' e1''
        subst e1
        exact ⟨c, t, fr', by rw [hB]; exact hat, e2, e3⟩
      | map es clock => obtain ⟨_, _, es', e1, _⟩ := hold; rw [hB, q1] at e1; cases e1
      | loop st pend R nt ps as bd => obtain ⟨_, _, r, e1, _⟩ := hold; rw [hB, q1] at e1; cases e1
      | siter s pos => obtain ⟨_, _, e1⟩ := hold; rw [hB, q1] at e1; cases e1
      | tc t2 cs2 => obtain ⟨b1, b2, b3, _⟩ := hold; omega
    · exact hold.same (hother _ hB)
  · exact hother B (fun e => by subst e; exact hm ⟨b, g, hg, rfl, hro⟩)
noncomputable def aUnsafeString (P : Program) (W : AW) (argTypes : Array TypeId) (p n : Value) : Option (Value × AW) := match argTypes.toList with
  | [pt, _] => match p, n with
    | .pointer q, .int .i64 (.ofNat m) => if m = 0 then some (.string .empty, W) else match q with
      | some a => match P.underlying pt, W.get a.block with
        | some (.pointer e), some (.tc e' cs) => if e = e' ∧ a.off = 0 ∧ m ≤ cs.length ∧ m < 1099511627776 then match tSz P e, bytesOf (cs.take m) with
          | some 1, some l => some (.string ⟨l.toArray⟩, W.kill a.block)
          | _, _ => none
          else none
        | _, _ => none
      | none => none
    | _, _ => none
  | _ => none
theorem aUnsafeString_run (hW : WRel σ W w.heap) {argTypes : Array TypeId} {ty : TypeId} {p n p' n' v : Value} {W' : AW} (h : aUnsafeString P W argTypes p n = some (v, W')) (hp : VR σ p p') (hn : VR σ n n') :
    ∃ σ' v' w', (Builtin.unsafeString_ argTypes ty #[p', n']).run P w = .ok v' w' ∧ VR σ' v v' ∧ WRel σ' W' w'.heap ∧ Ext σ W w σ' W' w' := by
  unfold aUnsafeString at h
  split at h
  · rename_i pt it hat
    have hat' : argTypes = #[pt, it] := by rw [← Array.toArray_toList (xs := argTypes), hat]
    subst hat'
    split at h
    · rename_i q m
      cases hn
      split at h
      · rename_i hm0
        injection h with h
        injection h with h1 h2
        subst h1; subst h2; subst hm0
        obtain ⟨q', rfl⟩ : ∃ q', p' = .pointer q' := by cases hp <;> exact ⟨_, rfl⟩
        exact ⟨σ, _, w, Lib.run_unsafeString_none w pt it ty q', .string _, hW, Ext.refl _ _ _⟩
      · rename_i hm0
        split at h
        · rename_i a
          split at h
          · rename_i e e' cs hu hget
            split at h
            · rename_i hc
              obtain ⟨rfl, hoff, hmc, hmb⟩ := hc
              split at h
              · rename_i l hz hl
                injection h with h
                injection h with h1 h2
                subst h1; subst h2
                cases hp with
                | ptr _ g hg hs =>
                  obtain ⟨a1, a2, a3, c, q1, q2, q3, q4⟩ := hW.obj a.block _ g hget hg
                  obtain ⟨b1, b2⟩ := bytesOf_get hl
                  obtain ⟨_, _, _, hcz⟩ := tSz_cells hz
                  have hlen : m = l.length := by rw [← b1, List.length_take]; omega
                  have hgs : (⟨g.B, g.s + a.off, none⟩ : Addr) = ⟨g.B, 0, none⟩ := by rw [a1, hoff]
                  obtain ⟨f1, f2⟩ := hW.freezeT hget hg m
                  refine ⟨σ, _, _, ?_, .string _, f1, f2⟩
                  rw [hgs, hlen]
                  refine Lib.run_unsafeString_row w pt it ty e hu hcz g.B c.size (by simp [World.shape?, q1]) l (fun e => by subst e; simp at hlen; omega) (by omega) (by omega) ?_
                  intro j x hj
                  have h3 := b2 j x hj
                  rw [List.getElem?_take] at h3
                  split at h3
                  · obtain ⟨v', g1, g2⟩ := q4 j _ h3
                    cases g2
                    rw [addr_add]
                    simp [World.cell?, q1, g1]
                  · cases h3
              · cases h
            · cases h
          · cases h
        · cases h
    · cases h
  · cases h
noncomputable def aBytesStr (P : Program) (W : AW) (s d : TypeId) (x : Value) : Option Value := match x with
  | .slice (some a) n c => (match P.underlying s, P.underlying d with
    | some (.slice e), some .string => (match P.underlying e with
      | some (.int .u8) => (match readSlice W (.slice (some a) n c) n with
        | some cs => (match bytesOf cs with
          | some l => some (.string ⟨l.toArray⟩)
          | none => none)
        | none => none)
      | _ => none)
    | _, _ => none)
  | _ => none
noncomputable def aConv (P : Program) (W : AW) (s d : TypeId) (x : Value) (alt : Option Value) : Option Value := match x with
  | .slice (some a) n c => aBytesStr P W s d (.slice (some a) n c)
  | _ => alt
theorem aBytesStr_run (hW : WRel σ W w.heap) {s d : TypeId} {x x' v : Value} (h : aBytesStr P W s d x = some v) (hx : VR σ x x') : ∃ v', (convert s d x').run P w = .ok v' w ∧ VR σ v v' := by
  unfold aBytesStr at h
  split at h
  case h_2 => cases h
  rename_i a n c
  split at h
  case h_2 => cases h
  rename_i e hs hd
  split at h
  case h_2 => cases h
  rename_i he
  split at h
  case h_2 => cases h
  rename_i cs hcs
  split at h
  case h_2 => cases h
  rename_i l hl
  injection h with h
  subst h
  obtain ⟨b1, b2⟩ := bytesOf_get hl
  rcases Nat.eq_zero_or_pos n with rfl | hn
  · obtain rfl : cs = [] := by
      unfold readSlice at hcs
      simp only [if_pos] at hcs
      injection hcs with hcs
      exact hcs.symm
    obtain rfl : l = [] := List.length_eq_zero_iff.1 (by rw [← b1]; rfl)
    obtain ⟨a', c', rfl⟩ : ∃ a' c', x' = .slice (some a') 0 c' := by cases hx <;> exact ⟨_, _, rfl⟩
    refine ⟨.string ByteArray.empty, ?_, .string _⟩
    rw [run_convert_bytes_string w s d e _ 0 c' hs he hd, run_bytesToString w _ 0 c' [] (by simp [loadCells, loadCellsFrom])]
    rfl
  · obtain ⟨a', c', l', rfl, h1, h2, h3⟩ := readSlice_cells (z := 1) hW (by rw [Nat.mul_one]; exact hcs) hx (by omega)
    refine ⟨_, ?_, .string _⟩
    rw [Nat.mul_one] at h2
    have hln : l.length = n := by rw [← b1, h2]
    rw [run_convert_bytes_string w s d e _ n c' hs he hd, run_bytesToString w _ n c' (l.map fun b => (b.toNat : Int)) ?_]
    · rw [foldl_push_bytes]
      congr 2
      have : ((fun n : Int => UInt8.ofNat n.toNat) ∘ fun b : UInt8 => (b.toNat : Int)) = id := by funext b; simp
      simp [ByteArray.empty, ByteArray.emptyWithCapacity, this]
      rfl
    · have := run_loadCells_list (P := P) w a' (l.map fun b => Value.int .u8 (b.toNat : Int)) (fun j u hj => by
        rw [List.getElem?_map] at hj
        cases hlj : l[j]? with
        | none => rw [hlj] at hj; cases hj
        | some y =>
          rw [hlj] at hj
          injection hj with hj
          subst hj
          obtain ⟨u', g1, g2⟩ := h1.get (b2 j y hlj)
          have := h3 j u' g1
          cases g2
          exact this)
      simp only [List.length_map, hln] at this
      rw [this, List.map_map]
      rfl
end
end
section
variable [PlanTab]

section
variable {P : Program} {σ : Inj} {W : AW} {w : World}

noncomputable def aCopy (P : Program) (W : AW) (argTypes : Array TypeId) (d x : Value) : Option (Value × AW) :=
  match argTypes.toList with
  | t0 :: _ => match sliceElem P t0, d, x with
    | some e, .slice base dl _, .slice xb sl xc => match tSz P e with
      | some z =>
        if Nat.min sl dl = 0 then some (goInt 0, W)
        else if z = 0 then none
        else match readSlice W (.slice xb sl xc) (Nat.min sl dl * z), base with
          | some new, some a => (writeN W a.block a.off new).map fun W' => (goInt (Nat.min sl dl), W')
          | _, _ => none
      | none => none
    | _, _, _ => none
  | [] => none
theorem aCopy_run (hW : WRel σ W w.heap) {argTypes : Array TypeId} {ty : TypeId} {d x d' x' v : Value} {W' : AW} (h : aCopy P W argTypes d x = some (v, W')) (hd : VR σ d d') (hx : VR σ x x') :
    ∃ v' w', (Builtin.copy_ argTypes ty #[d', x']).run P w = .ok v' w' ∧ VR σ v v' ∧ WRel σ W' w'.heap ∧ Ext σ W w σ W' w' := by
  have h0 : ∀ (a' : Addr), (loadCells a' 0).run P w = .ok #[] w := fun a' => by simp [loadCells, loadCellsFrom]
  unfold aCopy at h
  split at h
  · rename_i t0 rest hat
    have hat' : argTypes = (t0 :: rest).toArray := by rw [← hat]
    subst hat'
    split at h
    · rename_i e base dl dc xb sl xc he
      have hu := sliceElem_eq he
      split at h
      · rename_i z hz
        have hxs : ∃ xb' xc', x' = .slice xb' sl xc' := by cases hx <;> exact ⟨_, _, rfl⟩
        obtain ⟨xb', xc', rfl⟩ := hxs
        have hds : ∃ b' c', d' = .slice b' dl c' := by cases hd <;> exact ⟨_, _, rfl⟩
        obtain ⟨db', dc', rfl⟩ := hds
        split at h
        · rename_i hn
          injection h with h
          injection h with hv hw
          subst hv
          subst hw
          refine ⟨goInt 0, w, ?_, .int _ _, hW, Ext.refl _ _ _⟩
          have hf : (Builtin.firstCells z 0 (.slice xb' sl xc')).run P w = .ok #[] w := by
            cases xb' <;> simp [Builtin.firstCells, h0]
          have hn' : min sl dl = 0 := hn
          cases db' <;> simp [Builtin.copy_, run_underlying hu, Builtin.lenOf, run_sizeOf' hz, hf, storeCells, hn, goInt]
        · rename_i hn
          split at h
          · cases h
          · rename_i hz0
            split at h
            · rename_i new a hr
              cases hwn : writeN W a.block a.off new with
              | none => rw [hwn] at h; cases h
              | some W2 =>
                rw [hwn] at h
                simp only [Option.map_some, Option.some.injEq, Prod.mk.injEq] at h
                obtain ⟨hv, hw⟩ := h
                subst hw
                subst hv
                obtain ⟨new', h1, h2, h3⟩ := readSlice_run (P := P) hW hr hx
                cases hd with
                | sliceE _ a' _ g hg hcc => exact absurd (Nat.min_zero _) hn
                | slice _ _ _ c' g hg hsp hcc =>
                  obtain ⟨w2, k1, k2, k3⟩ := writeN_run (P := P) hW hwn hg h1
                  refine ⟨goInt (Nat.min sl dl), w2, ?_, .int _ _, k2, k3⟩
                  have hn' : Nat.min sl dl = min sl dl := rfl
                  rw [hn'] at h3
                  simp [Builtin.copy_, run_underlying hu, Builtin.lenOf, run_sizeOf' hz, h3, k1, goInt]
            · cases h
      · cases h
    · cases h
  · cases h

noncomputable def aClear (P : Program) (W : AW) (argTypes : Array TypeId) (x : Value) : Option AW :=
  match argTypes.toList with
  | t0 :: _ => match sliceElem P t0, x with
    | some e, .slice base n _ => match tSz P e, tZero P e with
      | some z, some zv =>
        if n = 0 then some W
        else match base with
          | none => none
          | some a => if (Builtin.zeroCells zv.cells n).toList.all scalar = true ∧ 0 < z then writeN W a.block a.off (Builtin.zeroCells zv.cells n).toList else none
      | _, _ => none
    | _, _ => none
  | [] => none
theorem aClear_run (hW : WRel σ W w.heap) {argTypes : Array TypeId} {ty : TypeId} {x x' : Value} {W' : AW} (h : aClear P W argTypes x = some W') (hx : VR σ x x') :
    ∃ w', (Builtin.clear_ argTypes ty #[x']).run P w = .ok (.tuple #[]) w' ∧ WRel σ W' w'.heap ∧ Ext σ W w σ W' w' := by
  unfold aClear at h
  split at h
  · rename_i t0 rest hat
    have hat' : argTypes = (t0 :: rest).toArray := by rw [← hat]
    subst hat'
    split at h
    · rename_i e base n c he
      have hu := sliceElem_eq he
      split at h
      · rename_i z zv hz hzv
        obtain ⟨hz1, hz2⟩ := tZero_run hzv w
        split at h
        · rename_i hn
          subst hn
          injection h with h
          subst h
          refine ⟨w, ?_, hW, Ext.refl _ _ _⟩
          cases hx <;> simp [Builtin.clear_, run_underlying hu]
        · rename_i hn
          split at h
          · cases h
          · rename_i a
            split at h
            · rename_i hc
              cases hx with
              | sliceE _ a' _ g hg hcc => exact absurd rfl hn
              | slice _ _ _ c' g hg hsp hcc =>
                obtain ⟨w2, k1, k2, k3⟩ := writeN_run (P := P) hW h hg (LR.refl_of (σ := σ) (fun _ => scalar_refl) hc.1)
                refine ⟨w2, ?_, k2, k3⟩
                obtain ⟨m, rfl⟩ : ∃ m, n = m + 1 := ⟨n - 1, by omega⟩
                simp [Builtin.clear_, run_underlying hu, hz1, k1]
            · cases h
      · cases h
    · cases h
  · cases h

theorem wrap_in (k : IntKind) (n : Int) (h : k.min ≤ n ∧ n ≤ k.max) : k.wrap n = n := by
  obtain ⟨h1, h2⟩ := h
  cases k <;> simp [IntKind.wrap, IntKind.min, IntKind.max, IntKind.signed, IntKind.bits] at * <;> omega
noncomputable def wrapF (k : IntKind) (n : Int) : Int := if k.min ≤ n ∧ n ≤ k.max then n else k.wrap n
theorem wrapF_eq (k : IntKind) (n : Int) : wrapF k n = k.wrap n := by
  unfold wrapF
  split
  · rename_i h; exact (wrap_in k n h).symm
  · rfl
noncomputable def forceI (k : IntKind) (n : Int) : Value :=
  Int.rec (motive := fun _ => Value) (fun a => Nat.rec (motive := fun _ => Value) (.int k (.ofNat 0)) (fun m _ => .int k (.ofNat (Nat.succ m))) a)
    (fun a => Nat.rec (motive := fun _ => Value) (.int k (.negSucc 0)) (fun m _ => .int k (.negSucc (Nat.succ m))) a) n
theorem forceI_eq (k : IntKind) (n : Int) : forceI k n = .int k n := by
  cases n with
  | ofNat a => cases a <;> rfl
  | negSucc a => cases a <;> rfl
noncomputable def aInt (op : BinOp) (k : IntKind) (a b : Int) : Option Value :=
  match op with
  | .add => some (forceI k (wrapF k (a + b)))
  | .sub => some (forceI k (wrapF k (a - b)))
  | .mul => some (forceI k (wrapF k (a * b)))
  | .eql => some (.bool (decide (a = b)))
  | .neq => some (.bool (!decide (a = b)))
  | .lss => some (.bool (decide (a < b)))
  | .leq => some (.bool (decide (a ≤ b)))
  | .gtr => some (.bool (decide (b < a)))
  | .geq => some (.bool (decide (b ≤ a)))
  | _ => none

noncomputable def aEql (P : Program) (W : AW) (t : TypeId) (x y : Value) : Option Bool :=
  match P.underlying t, x, y with
  | some (.pointer _), .pointer none, .pointer b => some b.isNone
  | some (.pointer _), .pointer (some _), .pointer none => some false
  | some (.pointer e), .pointer (some a), .pointer (some b) => match tSz P e with
    | some (_ + 1) => match W.get a.block, W.get b.block with
      | some (.cells ca), some (.cells cb) => if a.block = b.block then some (decide (a.off = b.off)) else if a.off < ca.length ∧ b.off < cb.length then some false else none
      | _, _ => none
    | _ => none
  | some (.slice _), .slice none _ _, .slice b _ _ => some b.isNone
  | some (.slice _), .slice (some _) _ _, .slice none _ _ => some false
  | some (.map _ _), .map none, .map b => some b.isNone
  | some (.map _ _), .map (some _), .map none => some false
  | some (.func _ _ _), .nilFunc, .nilFunc => some true
  | some (.func _ _ _), .nilFunc, .func _ _ _ => some false
  | some (.func _ _ _), .func _ _ _, .nilFunc => some false
  | _, _, _ => none
theorem aEql_run (hW : WRel σ W w.heap) {t : TypeId} {x y x' y' : Value} {b : Bool} (h : aEql P W t x y = some b) (hx : VR σ x x') (hy : VR σ y y') (d : Nat) :
    (Op.equalIn (d + 1) t x' y').run P w = .ok b w := by
  unfold aEql at h
  split at h
  · rename_i e b0 hu
    injection h with h; subst h; cases hx; cases hy <;> simp [Op.equalIn, run_underlying hu]
  · rename_i e a0 hu
    injection h with h; subst h; cases hx; cases hy; simp [Op.equalIn, run_underlying hu]
  · rename_i e a0 b0 hu
    split at h
    · rename_i n hn
      split at h
      · split at h
        · rename_i hab
          injection h with h
          subst h
          cases hx with
          | ptr _ g hg hs =>
            cases hy with
            | ptr _ g2 hg2 hs2 =>
              rw [← hab, hg] at hg2
              injection hg2 with hg2
              subst hg2
              have hbeq : ((⟨g.B, g.s + a0.off, none⟩ : Addr) == ⟨g.B, g.s + b0.off, none⟩) = decide (a0.off = b0.off) := by
                rw [Bool.eq_iff_iff]
                simp
              simp [Op.equalIn, run_underlying hu, run_sizeOf' hn, sameAddr, hbeq]
        · rename_i ca cb hca hcb hab
          split at h
          · rename_i hin
            injection h with h
            subst h
            cases hx with
            | ptr _ g hg hs =>
              cases hy with
              | ptr _ g2 hg2 hs2 =>
                obtain ⟨c1, t1, fr1, p1, p0, p2, p3, _⟩ := hW.obj _ _ g hca hg
                obtain rfl := p0 (by omega)
                obtain ⟨c2, t2, fr2, q1, q0, q2, q3, _⟩ := hW.obj _ _ g2 hcb hg2
                obtain rfl := q0 (by omega)
                have hd := hW.disj _ _ _ _ g g2 hab hca hcb hg hg2 rfl
                have hne : (⟨g.B, g.s + a0.off, none⟩ : Addr) ≠ ⟨g2.B, g2.s + b0.off, none⟩ := by
                  intro he
                  injection he with e1 e2 _
                  rcases hd with r | r | r
                  · exact r e1
                  · omega
                  · omega
                simp [Op.equalIn, run_underlying hu, run_sizeOf' hn, run_sameAddr_other w hne p1 q1]
          · cases h
      · cases h
    · cases h
  · rename_i e _ _ b0 _ _ hu
    injection h with h; subst h; cases hx; cases hy <;> simp [Op.equalIn, run_underlying hu]
  · rename_i e a0 _ _ _ _ hu
    injection h with h; subst h; cases hx <;> cases hy <;> simp [Op.equalIn, run_underlying hu]
  · rename_i k e b0 hu
    injection h with h; subst h; cases hx; cases hy <;> simp [Op.equalIn, run_underlying hu]
  · rename_i k e a0 hu
    injection h with h; subst h; cases hx; cases hy; simp [Op.equalIn, run_underlying hu]
  · rename_i ps rs vv hu
    injection h with h; subst h; cases hx; cases hy; simp [Op.equalIn, run_underlying hu]
  · rename_i ps rs vv _ _ _ hu
    injection h with h; subst h; cases hx; cases hy; simp [Op.equalIn, run_underlying hu]
  · rename_i ps rs vv _ _ _ hu
    injection h with h; subst h; cases hx; cases hy; simp [Op.equalIn, run_underlying hu]
  · cases h
end
end
section
variable [PlanTab]

section
variable {P : Program} {σ : Inj} {W : AW} {w : World}

def FR (σ : Inj) : Option (Nat × Value) → Option (Nat × Value) → Prop
  | none, none => True
  | some (i, v), some (j, v') => i = j ∧ VR σ v v'
  | _, _ => False
theorem ER.of_cons {e : MapEntry} {l m : List MapEntry} (h : ER σ (e :: l) m) : ∃ e' l', m = e' :: l' ∧ VR σ e.key e'.key ∧ VR σ e.val e'.val ∧ e.born = e'.born ∧ ER σ l l' := by
  cases m with
  | nil => have := h.1; simp at this
  | cons e' l' =>
    have h0 := h.2 0 e e' (by simp) (by simp)
    exact ⟨e', l', rfl, h0.1, h0.2.1, h0.2.2, by have := h.1; simpa using this, fun i u u' a b => h.2 (i + 1) u u' (by simpa using a) (by simpa using b)⟩
theorem ER.of_nil {m : List MapEntry} (h : ER σ [] m) : m = [] := by
  have := h.1; simp at this; exact List.eq_nil_of_length_eq_zero this.symm
theorem ER.nil : ER σ [] [] := ⟨rfl, fun i e e' a => by simp at a⟩

def keysPlain (es : List MapEntry) : Bool := es.all fun e => plain e.key
theorem findNow_rel (kind : TypeDesc) (k : Value) : ∀ (es es' : List MapEntry) (i : Nat) (r : Option (Nat × Value)), ER σ es es' → keysPlain es = true → Instr.findNow kind k es i = some r →
    ∃ r', Instr.findNow kind k es' i = some r' ∧ FR σ r r' := by
  intro es
  induction es with
  | nil => intro es' i r h _ hf; have := h.of_nil; subst this; simp only [Instr.findNow] at hf ⊢; injection hf with hf; subst hf; exact ⟨none, rfl, trivial⟩
  | cons e es ih =>
    intro es' i r h hp hf
    obtain ⟨e', l', rfl, hk, hv, _, hl⟩ := h.of_cons
    simp only [keysPlain, List.all_cons, Bool.and_eq_true] at hp
    have hke := plain_eq hp.1 hk
    simp only [Instr.findNow] at hf ⊢
    rw [hke]
    cases hs : Instr.sameNow kind k e.key with
    | none => rw [hs] at hf; cases hf
    | some b =>
      rw [hs] at hf
      cases b with
      | true => simp only at hf ⊢; injection hf with hf; subst hf; exact ⟨_, rfl, rfl, hv⟩
      | false => simp only at hf ⊢; exact ih l' (i + 1) r hl hp.2 hf
noncomputable def aAsk (P : Program) (kt : TypeId) (k : Value) : List MapEntry → Nat → Option (Option (Nat × Value))
  | [], _ => some none
  | e :: es, i => match pureRun P (Op.equal kt k e.key) with
    | some true => some (some (i, e.val))
    | some false => aAsk P kt k es (i + 1)
    | none => none
theorem findAsking_rel (kt : TypeId) (k : Value) : ∀ (es es' : List MapEntry) (i : Nat) (r : Option (Nat × Value)), ER σ es es' → keysPlain es = true → aAsk P kt k es i = some r →
    ∃ r', (Instr.findAsking kt k es' i).run P w = .ok r' w ∧ FR σ r r' := by
  intro es
  induction es with
  | nil => intro es' i r h _ hf; have := h.of_nil; subst this; simp only [aAsk] at hf; injection hf with hf; subst hf; exact ⟨none, rfl, trivial⟩
  | cons e es ih =>
    intro es' i r h hp hf
    obtain ⟨e', l', rfl, hk, hv, _, hl⟩ := h.of_cons
    simp only [keysPlain, List.all_cons, Bool.and_eq_true] at hp
    have hke := plain_eq hp.1 hk
    simp only [aAsk] at hf
    cases hs : pureRun P (Op.equal kt k e.key) with
    | none => rw [hs] at hf; cases hf
    | some b =>
      rw [hs] at hf
      have hr := pureRun_run _ hs w
      rw [← hke] at hr
      cases b with
      | true => simp only at hf; injection hf with hf; subst hf; exact ⟨some (i, e'.val), by simp [Instr.findAsking, hr], rfl, hv⟩
      | false =>
        simp only at hf
        obtain ⟨r', h1, h2⟩ := ih l' (i + 1) r hl hp.2 hf
        exact ⟨r', by simp [Instr.findAsking, hr, h1], h2⟩
noncomputable def aFind (P : Program) (kt : TypeId) (k : Value) (es : List MapEntry) : Option (Option (Nat × Value)) :=
  if plain k = true ∧ keysPlain es = true then
    match P.underlying kt with
    | some kind => match Instr.findNow kind k es 0 with
      | some r => some r
      | none => none
    | none => none
  else none
noncomputable def aFind2 (P : Program) (kt : TypeId) (k : Value) (es : List MapEntry) : Option (Option (Nat × Value)) :=
  match aFind P kt k es with
  | some r => some r
  | none => if plain k = true ∧ keysPlain es = true then
      match P.underlying kt with
      | some (.array n e) => (match Instr.findNow (.array n e) k es 0 with | some _ => none | none => aAsk P kt k es 0)
      | some (.struct fs) => (match Instr.findNow (.struct fs) k es 0 with | some _ => none | none => aAsk P kt k es 0)
      | _ => none
    else none
theorem findNow_none (kind : TypeDesc) (k : Value) : ∀ (es es' : List MapEntry) (i : Nat), ER σ es es' → keysPlain es = true → Instr.findNow kind k es i = none → Instr.findNow kind k es' i = none := by
  intro es
  induction es with
  | nil => intro es' i h _ hf; simp [Instr.findNow] at hf
  | cons e es ih =>
    intro es' i h hp hf
    obtain ⟨e', l', rfl, hk, hv, _, hl⟩ := h.of_cons
    simp only [keysPlain, List.all_cons, Bool.and_eq_true] at hp
    have hke := plain_eq hp.1 hk
    simp only [Instr.findNow] at hf ⊢
    rw [hke]
    cases hs : Instr.sameNow kind k e.key with
    | none => rfl
    | some b =>
      rw [hs] at hf
      cases b with
      | true => simp at hf
      | false => simp only at hf ⊢; exact ih l' (i + 1) hl hp.2 hf
theorem aFind_run {kt : TypeId} {k k' : Value} {es es' : List MapEntry} {r : Option (Nat × Value)} (h : aFind2 P kt k es = some r) (hk : VR σ k k') (he : ER σ es es') :
    ∃ r', (Instr.findKey kt k' es').run P w = .ok r' w ∧ FR σ r r' ∧ k' = k := by
  unfold aFind2 at h
  split at h
  · rename_i r0 h0
    injection h with h
    subst h
    unfold aFind at h0
    split at h0
    · rename_i hc
      have hke := plain_eq hc.1 hk
      subst hke
      split at h0
      · rename_i kind hu
        split at h0
        · rename_i r1 h1
          injection h0 with h0
          subst h0
          obtain ⟨r', a, b⟩ := findNow_rel kind k' es es' 0 r1 he hc.2 h1
          exact ⟨r', by simp [Instr.findKey, run_underlying hu, a], b, rfl⟩
        · cases h0
      · cases h0
    · cases h0
  · split at h
    · rename_i hc
      have hke := plain_eq hc.1 hk
      subst hke
      split at h
      · rename_i n e hu
        split at h
        · cases h
        · rename_i h1
          obtain ⟨r', a, b⟩ := findAsking_rel (P := P) (w := w) kt k' es es' 0 r he hc.2 h
          exact ⟨r', by simp [Instr.findKey, run_underlying hu, findNow_none _ _ es es' 0 he hc.2 h1, a], b, rfl⟩
      · rename_i fs hu
        split at h
        · cases h
        · rename_i h1
          obtain ⟨r', a, b⟩ := findAsking_rel (P := P) (w := w) kt k' es es' 0 r he hc.2 h
          exact ⟨r', by simp [Instr.findKey, run_underlying hu, findNow_none _ _ es es' 0 he hc.2 h1, a], b, rfl⟩
      · cases h
    · cases h

noncomputable def keyOk (P : Program) (empty : Bool) (kt : TypeId) (k : Value) : Bool :=
  plain k && (pureRun P (Instr.checkKey empty 10000 kt k)).isSome
theorem keyOk_run {empty : Bool} {kt : TypeId} {k k' : Value} (h : keyOk P empty kt k = true) (hk : VR σ k k') (w : World) : (Instr.checkKey empty 10000 kt k').run P w = .ok () w := by
  simp only [keyOk, Bool.and_eq_true] at h
  rw [plain_eq h.1 hk]
  cases hp : pureRun P (Instr.checkKey empty 10000 kt k) with
  | none => rw [hp] at h; simp at h
  | some u => exact pureRun_run _ hp w

theorem zero_VR {z : Value} (h : z.cells.toList.all scalar = true) : VR σ z z := by
  cases z with
  | agg cs => exact VR.agg' (LR.refl_of (fun _ => scalar_refl) h)
  | _ => exact scalar_refl (by simpa [Value.cells] using h)
theorem map_obj (hW : WRel σ W w.heap) {r : Nat} {g : Seg} {es : List MapEntry} {c : Nat} (hr : W.get r = some (.map es c)) (hg : σ r = some g) :
    g.s = 0 ∧ g.e = 1 ∧ ∃ es' : Array MapEntry, w.heap[g.B]? = some (.map es' c) ∧ ER σ es es'.toList := hW.obj r _ g hr hg
theorem run_getObj_map {B : Nat} {es : Array MapEntry} {c : Nat} (h : w.heap[B]? = some (.map es c)) : (getObj B).run P w = .ok (.map es c) w := by simp [getObj, Sem.run, h]
theorem run_setObj_map {B : Nat} {es : Array MapEntry} {c : Nat} (o : Obj) (h : w.heap[B]? = some (.map es c)) : (setObj B o).run P w = .ok () { w with heap := w.heap.setIfInBounds B o } := by simp [setObj, Sem.run, h]

noncomputable def aFound (P : Program) (e : TypeId) (ok : Bool) (r : Option (Nat × Value)) : Option Value :=
  match r with
  | some (_, v) => some (if ok then .tuple #[v, .bool true] else v)
  | none => match tZero P e with
    | some z => some (if ok then .tuple #[z, .bool false] else z)
    | none => none
noncomputable def aLookup (P : Program) (W : AW) (t : TypeId) (m k : Value) (ok : Bool) : Option Value :=
  match P.underlying t, m with
  | some (.map kt e), .map none => if keyOk P true kt k then aFound P e ok none else none
  | some (.map kt e), .map (some r) => match W.get r with
    | some (.map es _) => if keyOk P es.isEmpty kt k then match aFind2 P kt k es with
        | some r => aFound P e ok r
        | none => none
      else none
    | _ => none
  | _, _ => none
theorem two_VR {a b a' b' : Value} (h1 : VR σ a a') (h2 : VR σ b b') : VR σ (.tuple #[a, b]) (.tuple #[a', b']) := VR.tuple' (by simpa using LR.cons h1 (.cons h2 .nil))
theorem findKey_nil (kt : TypeId) (d : TypeDesc) (hu : P.underlying kt = some d) (k : Value) : (Instr.findKey kt k []).run P w = .ok none w := by
  simp [Instr.findKey, run_underlying hu, Instr.findNow]
theorem checkKey_none {kt : TypeId} (h : P.underlying kt = none) (empty : Bool) (d : Nat) (k : Value) : (Instr.checkKey empty (d + 1) kt k).run P w = .halt (.stuck "no such type") w := by
  simp [Instr.checkKey, underlying, h]
theorem keyOk_under {empty : Bool} {kt : TypeId} {k : Value} (h : keyOk P empty kt k = true) : ∃ d, P.underlying kt = some d := by
  simp only [keyOk, Bool.and_eq_true] at h
  cases hp : pureRun P (Instr.checkKey empty 10000 kt k) with
  | none => rw [hp] at h; simp at h
  | some u =>
    have hr := pureRun_run (P := P) _ hp default
    cases hd : P.underlying kt with
    | some d => exact ⟨d, rfl⟩
    | none =>
      exfalso
      have h1 : (Instr.checkKey empty 10000 kt k).run P default = .halt (.stuck "no such type") default := checkKey_none hd empty 9999 k
      rw [h1] at hr
      cases hr
theorem isEmpty_rel {es : List MapEntry} {es' : Array MapEntry} (h : ER σ es es'.toList) : es'.isEmpty = es.isEmpty := by
  obtain ⟨l⟩ := es'
  have h1 := h.1
  cases es <;> cases l <;> first | rfl | (simp at h1; done) | simp
theorem eraseIdx_rel (es' : Array MapEntry) (i : Nat) : (es'.eraseIdxIfInBounds i).toList = es'.toList.eraseIdx i := by
  unfold Array.eraseIdxIfInBounds
  split
  · simp
  · rename_i hi; rw [List.eraseIdx_of_length_le]; simp; omega
theorem modify_eq (es' : Array MapEntry) (i : Nat) (hi : i < es'.size) (k v : Value) : es'.modify i (fun e => { e with key := k, val := v }) = es'.setIfInBounds i { es'[i] with key := k, val := v } := by
  apply Array.ext_getElem?
  intro n
  rw [Array.getElem?_modify, Array.getElem?_setIfInBounds]
  by_cases hn : i = n
  · subst hn; simp [hi]
  · simp [hn]
theorem aLookup_run (hW : WRel σ W w.heap) {t : TypeId} {m k m' k' v : Value} {ok : Bool} (h : aLookup P W t m k ok = some v) (hm : VR σ m m') (hk : VR σ k k') :
    ∃ v', (Instr.lookup t m' k' ok).run P w = .ok v' w ∧ VR σ v v' := by
  unfold aLookup at h
  split at h
  · rename_i kt e hu
    split at h
    · rename_i hko
      cases hm
      obtain ⟨d, hd⟩ := keyOk_under hko
      simp only [aFound] at h
      split at h
      · rename_i z hz
        injection h with h
        subst h
        obtain ⟨hz1, hz2⟩ := tZero_run hz w
        refine ⟨if ok then .tuple #[z, .bool false] else z, ?_, ?_⟩
        · simp [Instr.lookup, run_underlying hu, keyOk_run hko hk w, findKey_nil kt d hd, hz1]
        · cases ok
          · exact zero_VR hz2
          · exact two_VR (zero_VR hz2) (.bool false)
      · cases h
    · cases h
  · rename_i kt e r hu
    split at h
    · rename_i es c hr
      split at h
      · rename_i hko
        split at h
        · rename_i fr hf
          cases hm with
          | map _ g hg =>
            obtain ⟨g1, g2, es', g3, g4⟩ := map_obj hW hr hg
            obtain ⟨r', f1, f2, f3⟩ := aFind_run (w := w) hf hk g4
            have hemp := isEmpty_rel g4
            cases fr with
            | some p =>
              cases r' with
              | none => exact f2.elim
              | some p' =>
                simp only [aFound] at h
                injection h with h
                subst h
                refine ⟨if ok then .tuple #[p'.2, .bool true] else p'.2, ?_, ?_⟩
                · simp only [Instr.lookup, Sem.run_bind, run_underlying hu, Result.andThen_ok, run_getObj_map g3, Sem.run_pure, hemp, keyOk_run hko hk w, f1]
                · cases ok
                  · exact f2.2
                  · exact two_VR f2.2 (.bool true)
            | none =>
              cases r' with
              | some p' => exact f2.elim
              | none =>
                simp only [aFound] at h
                split at h
                · rename_i z hz
                  injection h with h
                  subst h
                  obtain ⟨hz1, hz2⟩ := tZero_run hz w
                  refine ⟨if ok then .tuple #[z, .bool false] else z, ?_, ?_⟩
                  · simp only [Instr.lookup, Sem.run_bind, run_underlying hu, Result.andThen_ok, run_getObj_map g3, Sem.run_pure, hemp, keyOk_run hko hk w, f1, hz1]
                  · cases ok
                    · exact zero_VR hz2
                    · exact two_VR (zero_VR hz2) (.bool false)
                · cases h
        · cases h
      · cases h
    · cases h
  · cases h

noncomputable def aMapUpdate (P : Program) (W : AW) (t : TypeId) (m k v : Value) : Option AW :=
  match P.underlying t, m with
  | some (.map kt _), .map (some r) => match W.get r with
    | some (.map es c) => if keyOk P false kt k then match aFind2 P kt k es with
        | some (some (i, _)) => match es[i]? with
          | some e => if Instr.sameBits 10000 e.key k = true ∧ plain e.key = true then some (W.put r (.map (es.set i { e with key := k, val := v }) c)) else none
          | none => none
        | some none => some (W.put r (.map (es ++ [{ key := k, val := v, born := c }]) (c + 1)))
        | none => none
      else none
    | _ => none
  | _, _ => none
theorem ER.set {es es' : List MapEntry} (h : ER σ es es') (i : Nat) {e e' : MapEntry} (hk : VR σ e.key e'.key) (hv : VR σ e.val e'.val) (hb : e.born = e'.born) : ER σ (es.set i e) (es'.set i e') := by
  refine ⟨by simp [h.1], fun j a b x y => ?_⟩
  rw [List.getElem?_set] at x y
  by_cases hn : i = j
  · subst hn
    simp only [if_true] at x y
    split at x
    · split at y
      · simp at x y; subst x; subst y; exact ⟨hk, hv, hb⟩
      · cases y
    · cases x
  · rw [if_neg hn] at x y; exact h.2 j a b x y
theorem ER.snoc {es es' : List MapEntry} (h : ER σ es es') {e e' : MapEntry} (hk : VR σ e.key e'.key) (hv : VR σ e.val e'.val) (hb : e.born = e'.born) : ER σ (es ++ [e]) (es' ++ [e']) := by
  refine ⟨by simp [h.1], fun j a b x y => ?_⟩
  rw [List.getElem?_append] at x y
  rw [← h.1] at y
  split at x
  · rename_i hj; rw [if_pos hj] at y; exact h.2 j a b x y
  · rename_i hj
    rw [if_neg hj] at y
    cases hjj : j - es.length with
    | zero => rw [hjj] at x y; simp at x y; subst x; subst y; exact ⟨hk, hv, hb⟩
    | succ n => rw [hjj] at x; simp at x
theorem ER.erase {es es' : List MapEntry} (h : ER σ es es') (i : Nat) : ER σ (es.eraseIdx i) (es'.eraseIdx i) := by
  refine ⟨by simp [List.length_eraseIdx, h.1], fun j a b x y => ?_⟩
  rw [List.getElem?_eraseIdx] at x y
  split at x
  · rename_i hj; rw [if_pos hj] at y; exact h.2 _ a b x y
  · rename_i hj; rw [if_neg hj] at y; exact h.2 _ a b x y
theorem map_put (hW : WRel σ W w.heap) {r : Nat} {g : Seg} {es es2 : List MapEntry} {es' : Array MapEntry} {c c2 : Nat} (hr : W.get r = some (.map es c)) (hg : σ r = some g) (h1 : g.s = 0) (h2 : g.e = 1) (h3 : w.heap[g.B]? = some (.map es' c))
    (es2' : Array MapEntry) (he : ER σ es2 es2'.toList) :
    WRel σ (W.put r (.map es2 c2)) (w.heap.setIfInBounds g.B (.map es2' c2)) ∧ Ext σ W w σ (W.put r (.map es2 c2)) { w with heap := w.heap.setIfInBounds g.B (.map es2' c2) } := by
  have hlt : g.B < w.heap.size := (Array.getElem?_eq_some_iff.1 h3).1
  exact hW.setObj hr (fun _ hx => by cases hx) hg ⟨h1, h2⟩ (fun c t fr hx => by rw [h3] at hx; cases hx)
    ⟨h1, h2, es2', by simp [hlt], he⟩
theorem aMapUpdate_run (hW : WRel σ W w.heap) {t : TypeId} {m k v m' k' v' : Value} {W' : AW} (h : aMapUpdate P W t m k v = some W') (hm : VR σ m m') (hk : VR σ k k') (hv : VR σ v v') :
    ∃ w', (Instr.mapUpdate t m' k' v').run P w = .ok () w' ∧ WRel σ W' w'.heap ∧ Ext σ W w σ W' w' := by
  unfold aMapUpdate at h
  split at h
  · rename_i kt e r hu
    split at h
    · rename_i es c hr
      split at h
      · rename_i hko
        cases hm with
        | map _ g hg =>
          obtain ⟨g1, g2, es', g3, g4⟩ := map_obj hW hr hg
          split at h
          · rename_i i u hf
            obtain ⟨r', f1, f2, f3⟩ := aFind_run (w := w) hf hk g4
            subst f3
            split at h
            · rename_i en hen
              split at h
              · rename_i hsb
                injection h with h
                subst h
                cases r' with
                | none => exact f2.elim
                | some p =>
                  obtain ⟨j, u'⟩ := p
                  obtain ⟨rfl, _⟩ := f2
                  have hi' : i < es'.size := by
                    have h0 := (List.getElem?_eq_some_iff.1 hen).1
                    have := g4.1
                    simp at this
                    omega
                  have hen' : es'[i]? = some es'[i] := Array.getElem?_eq_getElem hi'
                  have hee := g4.2 i en es'[i] hen (by simp [hi'])
                  have hkeq : es'[i].key = en.key := plain_eq hsb.2 hee.1
                  obtain ⟨q1, q2⟩ := map_put (c2 := c) hW hr hg g1 g2 g3 (es'.setIfInBounds i { es'[i] with key := k', val := v' }) (es2 := es.set i { en with key := k', val := v })
                    (by rw [Array.toList_setIfInBounds]; exact g4.set i (e := { en with key := k', val := v }) (e' := { es'[i] with key := k', val := v' }) hk hv hee.2.2)
                  refine ⟨_, ?_, q1, q2⟩
                  have hmod := modify_eq es' i hi' k' v'
                  have hks : (Instr.keyThatStays (((es'[i]?).map (·.key)).getD k') k').run P w = .ok k' w := by
                    rw [hen']
                    simp only [Option.map_some, Option.getD_some, hkeq, Instr.keyThatStays]
                    rw [if_pos hsb.1]
                    rfl
                  simp only [Instr.mapUpdate, Sem.run_bind, run_underlying hu, Result.andThen_ok, run_getObj_map g3, keyOk_run hko hk w, f1, hks, hmod]
                  exact run_setObj_map _ g3
              · cases h
            · cases h
          · rename_i hf
            obtain ⟨r', f1, f2, f3⟩ := aFind_run (w := w) hf hk g4
            subst f3
            injection h with h
            subst h
            cases r' with
            | some p => exact f2.elim
            | none =>
              obtain ⟨q1, q2⟩ := map_put (c2 := c + 1) hW hr hg g1 g2 g3 (es'.push { key := k', val := v', born := c }) (es2 := es ++ [{ key := k', val := v, born := c }])
                (by rw [Array.toList_push]; exact g4.snoc (e := { key := k', val := v, born := c }) (e' := { key := k', val := v', born := c }) hk hv rfl)
              refine ⟨_, ?_, q1, q2⟩
              simp only [Instr.mapUpdate, Sem.run_bind, run_underlying hu, Result.andThen_ok, run_getObj_map g3, keyOk_run hko hk w, f1]
              exact run_setObj_map _ g3
          · cases h
      · cases h
    · cases h
  · cases h

noncomputable def aDelete (P : Program) (W : AW) (argTypes : Array TypeId) (m k : Value) : Option AW :=
  match argTypes.toList with
  | t :: _ => match P.underlying t, m with
    | some (.map kt _), .map none => if keyOk P true kt k then some W else none
    | some (.map kt _), .map (some r) => match W.get r with
      | some (.map es c) => if keyOk P es.isEmpty kt k then match aFind2 P kt k es with
          | some (some (i, _)) => some (W.put r (.map (es.eraseIdx i) c))
          | some none => some (W.put r (.map es c))
          | none => none
        else none
      | _ => none
    | _, _ => none
  | [] => none
theorem aDelete_run (hW : WRel σ W w.heap) {argTypes : Array TypeId} {ty : TypeId} {m k m' k' : Value} {W' : AW} (h : aDelete P W argTypes m k = some W') (hm : VR σ m m') (hk : VR σ k k') :
    ∃ w', (Builtin.delete_ argTypes ty #[m', k']).run P w = .ok (.tuple #[]) w' ∧ WRel σ W' w'.heap ∧ Ext σ W w σ W' w' := by
  unfold aDelete at h
  split at h
  · rename_i t rest hat
    have hat' : argTypes = (t :: rest).toArray := by rw [← hat]
    subst hat'
    split at h
    · rename_i kt e hu
      split at h
      · rename_i hko
        injection h with h
        subst h
        cases hm
        refine ⟨w, ?_, hW, Ext.refl _ _ _⟩
        simp [Builtin.delete_, run_underlying hu, keyOk_run hko hk w]
      · cases h
    · rename_i kt e r hu
      split at h
      · rename_i es c hr
        split at h
        · rename_i hko
          cases hm with
          | map _ g hg =>
            obtain ⟨g1, g2, es', g3, g4⟩ := map_obj hW hr hg
            have hemp := isEmpty_rel g4
            split at h
            · rename_i i u hf
              obtain ⟨r', f1, f2, f3⟩ := aFind_run (w := w) hf hk g4
              subst f3
              injection h with h
              subst h
              cases r' with
              | none => exact f2.elim
              | some p =>
                obtain ⟨j, u'⟩ := p
                obtain ⟨rfl, _⟩ := f2
                obtain ⟨q1, q2⟩ := map_put (c2 := c) hW hr hg g1 g2 g3 (es'.eraseIdxIfInBounds i) (es2 := es.eraseIdx i)
                  (by rw [eraseIdx_rel]; exact g4.erase i)
                refine ⟨_, ?_, q1, q2⟩
                have hso := run_setObj_map (P := P) (.map (es'.eraseIdxIfInBounds i) c) g3
                simp [Builtin.delete_, run_underlying hu, run_getObj_map g3, hemp, keyOk_run hko hk w, f1, hso]
            · rename_i hf
              obtain ⟨r', f1, f2, f3⟩ := aFind_run (w := w) hf hk g4
              subst f3
              injection h with h
              subst h
              cases r' with
              | some p => exact f2.elim
              | none =>
                obtain ⟨q1, q2⟩ := map_put (c2 := c) hW hr hg g1 g2 g3 es' (es2 := es) g4
                refine ⟨_, ?_, q1, q2⟩
                have hso := run_setObj_map (P := P) (.map es' c) g3
                simp [Builtin.delete_, run_underlying hu, run_getObj_map g3, hemp, keyOk_run hko hk w, f1, hso]
            · cases h
        · cases h
      · cases h
    · cases h
  · cases h
end
end
section
variable [PlanTab]

noncomputable def aPart (P : Program) (t : TypeId) (cs : Array Value) (off : Nat) : Option Value :=
  match tAgg P t with
  | some true => match tSz P t with
    | some n => some (.agg (cs.extract off (off + n)))
    | none => none
  | some false => cs[off]?
  | none => none
noncomputable def aEqFs (P : Program) (g : TypeId → Value → Value → Option Bool) (xs ys : Array Value) : List Field → Option Bool
  | [] => some true
  | f :: fs => if f.name = "_" then none else match aPart P f.type xs f.offset, aPart P f.type ys f.offset with
    | some a, some b => (match g f.type a b with
      | some true => aEqFs P g xs ys fs
      | some false => some false
      | none => none)
    | _, _ => none
noncomputable def aEqS (P : Program) : Nat → TypeId → Value → Value → Option Bool
  | 0, _, _, _ => none
  | n + 1, t, x, y => match P.underlying t with
    | some (.int _) => (match x, y with
      | .int k a, .int k' b => if k = k' then some (a == b) else none
      | _, _ => none)
    | some .bool => (match x, y with
      | .bool a, .bool b => some (a == b)
      | _, _ => none)
    | some (.struct fs) => (match x, y with
      | .agg xs, .agg ys => if P.stoodInHeld t = true then none else aEqFs P (aEqS P n) xs ys fs.toList
      | _, _ => none)
    | _ => none
noncomputable def aEqT (P : Program) (t : TypeId) (x y : Value) : Option Bool := match x, y with
  | .agg _, .agg _ => if P.eqGuardType P.depth t = true then none else aEqS P 8 t x y
  | _, _ => none
noncomputable def aBin (P : Program) (W : AW) (op : BinOp) (t : TypeId) (x y : Value) : Option Value :=
  match x, y with
  | .int k a, .int k' b => if k = k' then aInt op k a b else none
  | _, _ => match op with
    | .eql => (match aEql P W t x y with
      | some b => some (.bool b)
      | none => (aEqT P t x y).map .bool)
    | .neq => (match aEql P W t x y with
      | some b => some (.bool !b)
      | none => (aEqT P t x y).map fun b => .bool !b)
    | _ => none
noncomputable def rowObj (t : TypeId) (cs : List Value) : AObj := match cs with
  | [.pointer none, .slice none 0 0] => .tc t [.pointer none, .slice none 0 0]
  | cs => .cells cs
noncomputable def aOp (P : Program) (o : Oper) (R : PlanTab.Fr) (W : AW) : Option (Value × AW) :=
  match o.op with
  | .move x | .assign x => some (aEval R x, W)
  | .pick c a b => match aEval R c with
    | .bool true => some (aEval R a, W)
    | .bool false => some (aEval R b, W)
    | _ => none
  | .alloc t => match tZero P t with
    | some z => some (W.new (rowObj t z.cells.toList) fun b W' => (Value.pointer (some ⟨b, 0, none⟩), W'))
    | none => none
  | .box _ x => some (W.new (.cells (aEval R x).cells.toList) fun b W' => (Value.pointer (some ⟨b, 0, none⟩), W'))
  | .build t ps => (aBuild P R t ps).map fun v => (v, W)
  | .buildSlice t len ps => aBuildSlice P R W t len ps
  | .load t a => (aLoad P W t (aEval R a)).map fun v => (v, W)
  | .store t a x => (aStore P W t (aEval R a) (aEval R x)).map fun W' => (undef, W')
  | .nilCheck x => match aEval R x with
    | .pointer (some a) => some (.pointer (some a), W)
    | .func (.func f) a b => some (.func (.func f) a b, W)
    | .func (.yield l) a b => some (.func (.yield l) a b, W)
    | .iface t v => some (.iface t v, W)
    | _ => none
  | .binOp op t x y _ => match aBin P W op t (aEval R x) (aEval R y) with
    | some v => some (v, W)
    | none => (aPure P R o).map fun v => (v, W)
  | .unOp .. => (aPure P R o).map fun v => (v, W)
  | .convert s d x => (aConv P W s d (aEval R x) (aPure P R o)).map fun v => (v, W)
  | .makeInterface t x => match P.underlying t with
    | some (.interface _) => none
    | some _ => some (.iface t (aEval R x), W)
    | none => none
  | .makeFunc (.func f) first captured => some (.func (.func f) (first.map (aEval R)) (captured.map (aEval R)), W)
  | .makeMap t r => match r with
    | none => some (W.new (.map [] 0) fun b W' => (Value.map (some b), W'))
    | some h => match P.underlying t, aEval R h with
      | some (.map _ _), .int _ _ => some (W.new (.map [] 0) fun b W' => (Value.map (some b), W'))
      | _, _ => none
  | .makeSlice t l c => aMakeSlice P W t (aEval R l) (aEval R c)
  | .slice t x lo hi mx => match aSlice P t (aEval R x) (lo.map (aEval R)) (hi.map (aEval R)) (mx.map (aEval R)) with
    | some v => some (v, W)
    | none => (aPure P R o).map fun v => (v, W)
  | .fieldAddr s x f => match P.underlying s, aEval R x with
    | some (.struct fs), .pointer (some a) => match fs[f]? with
      | some fl => match tSz P fl.type with
        | some (_ + 1) => some (.pointer (some (a.add fl.offset)), W)
        | _ => none
      | none => none
    | _, _ => none
  | .field t x f => match P.underlying t, aEval R x with
    | some (.struct fs), .agg cs => match fs[f]? with
      | some fl => (aPart P fl.type cs fl.offset).map fun v => (v, W)
      | none => none
    | _, _ => none
  | .indexAddr t x i => match P.underlying t, aEval R x, natOf (aEval R i) with
    | some (.slice e), .slice (some a) len _, some n => match tSz P e with
      | some z => if n < len then some (.pointer (some (a.add (n * z))), W) else none
      | none => none
    | some (.array len e), .pointer (some a), some n => match tSz P e with
      | some z => if n < len then some (.pointer (some (a.add (n * z))), W) else none
      | none => none
    | _, _, _ => none
  | .index t x i => match P.underlying t, aEval R x, natOf (aEval R i) with
    | some (.array len e), .agg cs, some n => match tSz P e with
      | some z => if n < len then (aPart P e cs (n * z)).map fun v => (v, W) else none
      | none => none
    | _, _, _ => (aPure P R o).map fun v => (v, W)
  | .lookup t m k ok => (aLookup P W t (aEval R m) (aEval R k) ok).map fun v => (v, W)
  | .mapUpdate t m k v => (aMapUpdate P W t (aEval R m) (aEval R k) (aEval R v)).map fun W' => (undef, W')
  | .extract x i => match aEval R x with
    | .tuple vs => (vs[i]?).map fun v => (v, W)
    | _ => none
  | .typeAssert x _ t ok => match P.underlying t, aEval R x with
    | some (.interface _), _ => none
    | some _, .iface u v => if u = t then some (if ok then .tuple #[v, .bool true] else v, W) else none
    | _, _ => none
  | .range t x => match P.underlying t, aEval R x with
    | some .string, .string s => some (W.new (.siter s 0) fun b W' => (Value.pointer (some ⟨b, 0, none⟩), W'))
    | _, _ => none
  | .next it true => match aEval R it with
    | .pointer (some ⟨b, 0, _⟩) => match W.get b with
      | some (.siter s pos) => if pos < s.size then some (.tuple #[.bool true, goInt pos, .int .i32 (Utf8.decode s pos).1], W.put b (.siter s (pos + (Utf8.decode s pos).2))) else some (.tuple #[.bool false], W)
      | _ => none
    | _ => none
  | _ => none

section
variable {P : Program} {σ : Inj} {W : AW} {w : World}

theorem VR.bool_inv {b : Bool} {v : Value} (h : VR σ (.bool b) v) : v = .bool b := by cases h; rfl
theorem VR.string_inv {b : ByteArray} {v : Value} (h : VR σ (.string b) v) : v = .string b := by cases h; rfl
theorem VR.ptr_inv {a : Addr} {v : Value} (h : VR σ (.pointer (some a)) v) : ∃ g, σ a.block = some g ∧ a.spot = none ∧ v = .pointer (some ⟨g.B, g.s + a.off, none⟩) := by
  cases h with
  | ptr a g h hs => exact ⟨g, h, hs, rfl⟩
theorem VR.slice_inv {a : Addr} {l c : Nat} {v : Value} (h : VR σ (.slice (some a) l c) v) : (∃ g c', σ a.block = some g ∧ a.spot = none ∧ CapR g a.off l c c' ∧ v = .slice (some ⟨g.B, g.s + a.off, none⟩) l c') ∨ (l = 0 ∧ ∃ a', v = .slice (some a') 0 0) := by
  cases h with
  | slice a l c c' g h hs hc => exact .inl ⟨g, c', h, hs, hc, rfl⟩
  | sliceE a a' c g h hc => exact .inr ⟨rfl, a', rfl⟩
theorem VR.iface_inv {t : TypeId} {u v : Value} (h : VR σ (.iface t u) v) : ∃ u', VR σ u u' ∧ v = .iface t u' := by
  cases h with
  | iface t u u' h => exact ⟨u', h, rfl⟩
theorem VR.agg_inv {cs : Array Value} {v : Value} (h : VR σ (.agg cs) v) : ∃ cs', LR σ cs.toList cs'.toList ∧ v = .agg cs' := by
  cases h with
  | agg cs cs' h1 h2 => exact ⟨cs', .of_arr h1 h2, rfl⟩
theorem VR.tuple_inv {cs : Array Value} {v : Value} (h : VR σ (.tuple cs) v) : ∃ cs', LR σ cs.toList cs'.toList ∧ v = .tuple cs' := by
  cases h with
  | tuple cs cs' h1 h2 => exact ⟨cs', .of_arr h1 h2, rfl⟩
theorem VR.func_inv {fn : Fn} {fs cs : Array Value} {v : Value} (h : VR σ (.func fn fs cs) v) : ∃ fn' fs' cs', FnR σ fn fn' ∧ LR σ fs.toList fs'.toList ∧ LR σ cs.toList cs'.toList ∧ v = .func fn' fs' cs' := by
  cases h with
  | func fn fn' fs fs' cs cs' hf h1 h2 h3 h4 => exact ⟨fn', fs', cs', hf, .of_arr h1 h2, .of_arr h3 h4, rfl⟩
theorem VR.int_inv {k : IntKind} {n : Int} {v : Value} (h : VR σ (.int k n) v) : v = .int k n := by cases h; rfl
theorem aPart_run {t : TypeId} {cs cs' : Array Value} {off : Nat} {v : Value} (h : aPart P t cs off = some v) (hc : LR σ cs.toList cs'.toList) (w : World) :
    ∃ v', (part t cs' off).run P w = .ok v' w ∧ VR σ v v' := by
  unfold aPart at h
  split at h
  · rename_i ha
    split at h
    · rename_i n hn
      injection h with h
      subst h
      refine ⟨.agg (cs'.extract off (off + n)), by simp [part, run_isAgg' ha, run_sizeOf' hn], VR.agg' ?_⟩
      simp only [Array.toList_extract, List.extract_eq_take_drop]
      exact (hc.drop off).take _
    · cases h
  · rename_i ha
    obtain ⟨v', h1, h2⟩ := hc.get (i := off) (v := v) (by simpa using h)
    refine ⟨v', ?_, h2⟩
    have h1' : cs'[off]? = some v' := by simpa using h1
    simp [part, run_isAgg' ha, h1']
  · cases h

theorem VR.agg_back {xs : Array Value} {v : Value} (h : VR σ (.agg xs) v) : ∃ ys, v = .agg ys ∧ LR σ xs.toList ys.toList := by
  cases h with
  | agg _ cs' h1 h2 => exact ⟨cs', rfl, by simpa using h1, fun i v v' a b => h2 i v v' (by simpa using a) (by simpa using b)⟩
theorem aEqS_run : ∀ (n : Nat) {t : TypeId} {x y x' y' : Value} {b : Bool}, aEqS P n t x y = some b → VR σ x x' → VR σ y y' → ∀ d, (Op.equalIn (n + d) t x' y').run P w = .ok b w := by
  intro n
  induction n with
  | zero => intro t x y x' y' b h; cases h
  | succ n ih =>
    intro t x y x' y' b h hx hy d
    rw [show n + 1 + d = (n + d) + 1 by omega]
    unfold aEqS at h
    split at h
    · rename_i k0 hu
      split at h
      · rename_i k a k' c
        split at h
        · rename_i hk
          subst hk
          injection h with h
          subst h
          rw [hx.int_inv, hy.int_inv]
          exact run_equalIn_int w _ t k k0 a c hu
        · cases h
      · cases h
    · rename_i hu
      split at h
      · rename_i a c
        injection h with h
        subst h
        rw [hx.bool_inv, hy.bool_inv]
        exact run_equalIn_bool' w _ t a c hu
      · cases h
    · rename_i fs hu
      split at h
      · rename_i xs ys
        split at h
        · cases h
        rename_i hst
        obtain ⟨xs', rfl, hxs⟩ := hx.agg_back
        obtain ⟨ys', rfl, hys⟩ := hy.agg_back
        have hfo : P.fieldsOf t = fs := by unfold Program.fieldsOf; rw [hu]
        rw [run_equalIn_struct w (n + d) t xs' ys' (by rw [hfo]; exact hu) (by simpa using hst), hfo]
        generalize fs.toList = l at h
        induction l with
        | nil => injection h with h; subst h; simp [Op.eqFields]
        | cons f l ihl =>
          unfold aEqFs at h
          split at h
          · cases h
          rename_i hname
          split at h
          · rename_i a c ha hc
            obtain ⟨a', ra, va⟩ := aPart_run (P := P) ha hxs w
            obtain ⟨c', rc, vc⟩ := aPart_run (P := P) hc hys w
            unfold Op.eqFields
            rw [if_pos hname, Sem.run_bind, ra, Result.andThen_ok, Sem.run_bind, rc, Result.andThen_ok, Sem.run_bind]
            split at h
            · rename_i he
              rw [ih he va vc d, Result.andThen_ok]
              simpa using ihl h
            · rename_i he
              injection h with h
              subst h
              rw [ih he va vc d, Result.andThen_ok]
              simp
            · cases h
          · cases h
      · cases h
    · cases h
theorem aEql_agg (P : Program) (W : AW) (t : TypeId) (a b : Array Value) : aEql P W t (.agg a) (.agg b) = none := by
  unfold aEql
  cases P.underlying t with
  | none => rfl
  | some d => cases d <;> rfl
theorem aEqT_none {P : Program} {t : TypeId} {x y : Value} {b : Bool} (h : aEqT P t x y = some b) (W : AW) : aEql P W t x y = none := by
  unfold aEqT at h
  split at h
  · exact aEql_agg P W t _ _
  · cases h
theorem aEqT_run {t : TypeId} {x y x' y' : Value} {b : Bool} (h : aEqT P t x y = some b) (hx : VR σ x x') (hy : VR σ y y') (p q : Operand) :
    (do eqGuard .eql t p q x' y'; binOp .eql t x' y' : Sem Value).run P w = .ok (.bool b) w ∧ (do eqGuard .neq t p q x' y'; binOp .neq t x' y' : Sem Value).run P w = .ok (.bool !b) w := by
  unfold aEqT at h
  split at h
  · rename_i xs ys
    split at h
    · cases h
    rename_i hg
    obtain ⟨xs', rfl, hxs⟩ := hx.agg_back
    obtain ⟨ys', rfl, hys⟩ := hy.agg_back
    have hr : (Op.equalIn 10000 t (.agg xs') (.agg ys')).run P w = .ok b w := aEqS_run (w := w) 8 h hx hy 9992
    have hgf : P.eqGuardType P.depth t = false := by simpa using hg
    refine ⟨?_, ?_⟩
    · rw [Sem.run_bind, run_eqGuard_agg _ _ _ _ _ _ _ hgf, Result.andThen_ok, run_eql_struct, hr, Result.andThen_ok]
    · rw [Sem.run_bind, run_eqGuard_agg _ _ _ _ _ _ _ hgf, Result.andThen_ok, run_neq_struct, hr, Result.andThen_ok]
  · cases h

theorem aBin_run (hW : WRel σ W w.heap) {op : BinOp} {t yt : TypeId} {x y : Operand} {ρ : Operand → Value} {u u' v : Value} {dst : Option Tmp} {type : TypeId} {pos : String} {after : Array Edge} {guard : Option (Nat × Bool)}
    (h : aBin P W op t u u' = some v) (hx : VR σ u (ρ x)) (hy : VR σ u' (ρ y)) :
    ∃ v', (execOp ρ { dst, op := .binOp op t x y yt, type, pos, after, guard }).run P w = .ok (.value v') w ∧ VR σ v v' := by
  unfold aBin at h
  split at h
  · rename_i k a k' b
    split at h
    · rename_i hk
      subst hk
      have ex : ρ x = .int k a := hx.int_inv
      have ey : ρ y = .int k b := hy.int_inv
      refine ⟨v, ?_, ?_⟩
      · have hg : ∀ (A B : Value), (eqGuard op t x y (.int k a) (.int k b)).run P w = .ok () w := by
          intro _ _
          unfold eqGuard
          split <;> simp
        simp only [execOp, ex, ey, Sem.run_bind, hg .nilIface .nilIface, Result.andThen_ok]
        unfold aInt at h
        split at h <;> (try (cases h; done)) <;> (injection h with h; subst h; try simp only [forceI_eq, wrapF_eq]) <;>
          simp [binOp, Op.intArith, Op.intCmp, bne] <;> (try rfl)
      · unfold aInt at h
        split at h <;> (try (cases h; done)) <;> (injection h with h; subst h; try simp only [forceI_eq]) <;> first | exact .int _ _ | exact .bool _
    · cases h
  · have key : ∀ b, aEql P W t u u' = some b → (Op.equal t (ρ x) (ρ y)).run P w = .ok b w := fun b hb => aEql_run hW hb hx hy 9999
    have shp : ∀ b, aEql P W t u u' = some b → (∀ (op : BinOp), (eqGuard op t x y (ρ x) (ρ y)).run P w = .ok () w) ∧ (binOp .eql t (ρ x) (ρ y) = (do pure (.bool (← Op.equal t (ρ x) (ρ y))))) ∧ (binOp .neq t (ρ x) (ρ y) = (do pure (.bool (!(← Op.equal t (ρ x) (ρ y)))))) := by
      intro b hb
      unfold aEql at hb
      split at hb <;> first
        | (cases hb; done)
        | (generalize ρ x = rx at *
           generalize ρ y = ry at *
           cases hx <;> cases hy <;> refine ⟨fun op => ?_, rfl, rfl⟩ <;> (unfold eqGuard; split <;> simp))
    split at h
    · cases he : aEql P W t u u' with
      | none =>
        rw [he] at h
        cases ht : aEqT P t u u' with
        | none => rw [ht] at h; cases h
        | some b =>
          rw [ht] at h
          simp only [Option.map_some, Option.some.injEq] at h
          subst h
          have := (aEqT_run (w := w) ht hx hy x y).1
          exact ⟨.bool b, by simp only [execOp]; rw [Sem.run_bind, this]; rfl, .bool b⟩
      | some b =>
        rw [he] at h
        simp only [Option.some.injEq] at h
        subst h
        obtain ⟨s1, s2, s3⟩ := shp b he
        exact ⟨.bool b, by simp [execOp, s1, s2, key b he], .bool b⟩
    · cases he : aEql P W t u u' with
      | none =>
        rw [he] at h
        cases ht : aEqT P t u u' with
        | none => rw [ht] at h; cases h
        | some b =>
          rw [ht] at h
          simp only [Option.map_some, Option.some.injEq] at h
          subst h
          have := (aEqT_run (w := w) ht hx hy x y).2
          exact ⟨.bool (!b), by simp only [execOp]; rw [Sem.run_bind, this]; rfl, .bool _⟩
      | some b =>
        rw [he] at h
        simp only [Option.some.injEq] at h
        subst h
        obtain ⟨s1, s2, s3⟩ := shp b he
        exact ⟨.bool (!b), by simp [execOp, s1, s3, key b he], .bool _⟩
    · cases h

def Does (P : Program) (σ : Inj) (W : AW) (w : World) (s : Sem Next) (v : Value) (W' : AW) : Prop :=
  ∃ σ' nx v' w', s.run P w = .ok nx w' ∧ (nx = .value v' ∨ (nx = .skip ∧ v' = undef)) ∧ VR σ' v v' ∧ WRel σ' W' w'.heap ∧ Ext σ W w σ' W' w'
theorem Does.value {s : Sem Value} {v v' : Value} {nx : Sem Next} (hn : nx = (do pure (.value (← s)))) (hW : WRel σ W w.heap) (h : s.run P w = .ok v' w) (hv : VR σ v v') : Does P σ W w nx v W :=
  ⟨σ, .value v', v', w, by rw [hn]; simp [h], .inl rfl, hv, hW, Ext.refl _ _ _⟩
theorem Does.value' {s : Sem Value} {v : Value} {W' : AW} {nx : Sem Next} (hn : nx = (do pure (.value (← s)))) (h : ∃ σ' v' w', s.run P w = .ok v' w' ∧ VR σ' v v' ∧ WRel σ' W' w'.heap ∧ Ext σ W w σ' W' w') : Does P σ W w nx v W' := by
  obtain ⟨σ', v', w', h1, h2, h3, h4⟩ := h
  exact ⟨σ', .value v', v', w', by rw [hn]; simp [h1], .inl rfl, h2, h3, h4⟩
theorem Does.unit {s : Sem Unit} {W' : AW} {nx : Sem Next} (hn : nx = (do s; pure .skip)) (h : ∃ w', s.run P w = .ok () w' ∧ WRel σ W' w'.heap ∧ Ext σ W w σ W' w') : Does P σ W w nx undef W' := by
  obtain ⟨w', h1, h2, h3⟩ := h
  exact ⟨σ, .skip, undef, w', by rw [hn]; simp [h1], .inr ⟨rfl, rfl⟩, .undef, h2, h3⟩
theorem Does.same {v v' : Value} {nx : Sem Next} (hn : nx = pure (.value v')) (hW : WRel σ W w.heap) (hv : VR σ v v') : Does P σ W w nx v W :=
  ⟨σ, .value v', v', w, by rw [hn]; rfl, .inl rfl, hv, hW, Ext.refl _ _ _⟩
theorem Does.pure_ {R : PlanTab.Fr} {ρ : Operand → Value} {o : Oper} {v : Value} (hW : WRel σ W w.heap) (h : aPure P R o = some v) (hρ : ∀ x ∈ o.op.operands, VR σ (aEval R x) (ρ x)) : Does P σ W w (execOp ρ o) v W := by
  obtain ⟨h1, h2⟩ := aPure_run (P := P) h hρ w
  exact ⟨σ, .value v, v, w, h1, .inl rfl, h2, hW, Ext.refl _ _ _⟩
theorem new_row (hW : WRel σ W w.heap) (t : TypeId) {cs cs' : List Value} (hc : LR σ cs cs') :
    ∃ σ' v' w', ((do pure (.pointer (some (← newRow t cs'.toArray)))) : Sem Value).run P w = .ok v' w' ∧ VR σ' (.pointer (some ⟨W.next, 0, none⟩)) v' ∧ WRel σ' (W.add (.cells cs)) w'.heap ∧ Ext σ W w σ' (W.add (.cells cs)) w' := by
  obtain ⟨h1, h2, h3, h4⟩ := newRow_run (P := P) hW t hc
  have hv := VR.ptr (σ := bind1 σ W.next ⟨w.heap.size, 0, cs.length⟩) ⟨W.next, 0, none⟩ _ h2 rfl
  exact ⟨_, .pointer (some ⟨w.heap.size, 0, none⟩), { w with heap := w.heap.push (.cells cs'.toArray t) }, by simp [h1], by simpa using hv, h3, h4⟩
theorem rowObj_ne (t : TypeId) (cs : List Value) : ∀ ds, rowObj t cs ≠ .ro ds := by
  intro ds
  unfold rowObj
  split <;> simp
theorem rowObj_rel {σ : Inj} {h : Array Obj} {B : Nat} {t : TypeId} {cs cs' : List Value} (hc : LR σ cs cs') (hB : h[B]? = some (.cells cs'.toArray t (0, 0))) : ORel σ h ⟨B, 0, cs.length⟩ (rowObj t cs) := by
  have hl := hc.1
  unfold rowObj
  split
  · refine ⟨rfl, by simp, ⟨by simp [maxLen], fun _ => rfl⟩, cs'.toArray, hB, by simp, by simpa using hl, fun i v hv => ?_⟩
    obtain ⟨v', a, b⟩ := hc.get hv
    exact ⟨v', by simpa using a, b⟩
  · refine ⟨cs'.toArray, t, (0, 0), hB, fun _ => rfl, by simp, by simp [hl], fun i v hv => ?_⟩
    obtain ⟨v', a, b⟩ := hc.get hv
    exact ⟨v', by simpa using a, b⟩
theorem new_rowT (hW : WRel σ W w.heap) (t : TypeId) {cs cs' : List Value} (hc : LR σ cs cs') :
    ∃ σ' v' w', ((do pure (.pointer (some (← newRow t cs'.toArray)))) : Sem Value).run P w = .ok v' w' ∧ VR σ' (.pointer (some ⟨W.next, 0, none⟩)) v' ∧ WRel σ' (W.add (rowObj t cs)) w'.heap ∧ Ext σ W w σ' (W.add (rowObj t cs)) w' := by
  have hv := VR.ptr (σ := bind1 σ W.next ⟨w.heap.size, 0, cs.length⟩) ⟨W.next, 0, none⟩ _ bind1_same rfl
  obtain ⟨h3, h4⟩ := hW.alloc (o := rowObj t cs) (x := .cells cs'.toArray t) (e := cs.length) (rowObj_rel (hc.mono (bind1_sub hW.fresh)) (by simp)) (rowObj_ne t cs)
  exact ⟨_, .pointer (some ⟨w.heap.size, 0, none⟩), { w with heap := w.heap.push (.cells cs'.toArray t) }, by simp [newRow], by simpa using hv, h3, h4⟩
theorem OR_map {R : PlanTab.Fr} {ρ : Operand → Value} {x : Option Operand} (h : ∀ y, x = some y → VR σ (aEval R y) (ρ y)) : OR σ (x.map (aEval R)) (x.map ρ) := by
  cases x with
  | none => trivial
  | some y => exact h y rfl
theorem arr_map {R : PlanTab.Fr} {ρ : Operand → Value} (a : Array Operand) (h : ∀ y ∈ a, VR σ (aEval R y) (ρ y)) : LR σ (a.map (aEval R)).toList (a.map ρ).toList := by
  refine ⟨by simp, fun i v v' x y => ?_⟩
  simp only [Array.toList_map, List.getElem?_map] at x y
  cases hq : a.toList[i]? with
  | none => rw [hq] at x; cases x
  | some q =>
    rw [hq] at x y
    simp at x y
    subst x
    subst y
    exact h q (by simpa using List.mem_of_getElem? hq)
theorem new_map (hW : WRel σ W w.heap) :
    ∃ σ' v' w', ((do pure (.map (some (← newObj (.map #[] 0))))) : Sem Value).run P w = .ok v' w' ∧ VR σ' (.map (some W.next)) v' ∧ WRel σ' (W.add (.map [] 0)) w'.heap ∧ Ext σ W w σ' (W.add (.map [] 0)) w' := by
  have h := hW.alloc (o := .map [] 0) (x := .map #[] 0) (e := 1) ⟨rfl, rfl, #[], by rw [Array.getElem?_push]; simp, .nil⟩
  exact ⟨_, .map (some w.heap.size), { w with heap := w.heap.push (.map #[] 0) }, by simp, .map _ _ bind1_same, h.1, h.2⟩

set_option maxHeartbeats 1000000 in
theorem aOp_run (hW : WRel σ W w.heap) {o : Oper} {R : PlanTab.Fr} {ρ : Operand → Value} {v : Value} {W' : AW} (h : aOp P o R W = some (v, W')) (hρ : ∀ x ∈ o.op.operands, VR σ (aEval R x) (ρ x)) :
    Does P σ W w (execOp ρ o) v W' := by
  have hpure : ∀ u, aPure P R o = some u → Does P σ W w (execOp ρ o) u W := fun u hu => .pure_ hW hu hρ
  have hmap : ∀ (x : Option Value), (x.map fun v => (v, W)) = some (v, W') → x = some v ∧ W' = W := by
    intro x hx
    cases x with
    | none => cases hx
    | some u => simp at hx; exact ⟨by rw [hx.1], hx.2.symm⟩
  have hmapW : ∀ (x : Option AW), (x.map fun W' => (undef, W')) = some (v, W') → x = some W' ∧ v = undef := by
    intro x hx
    cases x with
    | none => cases hx
    | some u => simp at hx; exact ⟨by rw [hx.2], hx.1.symm⟩
  obtain ⟨dst, op, type, pos, after, guard⟩ := o
  cases op <;> simp only [aOp] at h <;> simp only [Op.operands] at hρ
  case move x => injection h with h; injection h with h1 h2; subst h1; subst h2; exact .same rfl hW (hρ x (by simp))
  case assign x => injection h with h; injection h with h1 h2; subst h1; subst h2; exact .same rfl hW (hρ x (by simp))
  case pick c a b =>
    have hc := hρ c (by simp)
    split at h <;> (try (cases h; done)) <;> rename_i hcc <;> rw [hcc] at hc
    · injection h with h; injection h with h1 h2; subst h1; subst h2
      have := hc.bool_inv
      exact ⟨σ, .value (ρ a), ρ a, w, by simp [execOp, this, asBool], .inl rfl, hρ a (by simp), hW, Ext.refl _ _ _⟩
    · injection h with h; injection h with h1 h2; subst h1; subst h2
      have := hc.bool_inv
      exact ⟨σ, .value (ρ b), ρ b, w, by simp [execOp, this, asBool], .inl rfl, hρ b (by simp), hW, Ext.refl _ _ _⟩
  case alloc t =>
    split at h
    · rename_i z hz
      injection h with h
      rw [AW.new_eq] at h
      injection h with h1 h2
      subst h1; subst h2
      obtain ⟨hz1, hz2⟩ := tZero_run hz w
      refine .value' rfl ?_
      obtain ⟨σ', v', w', a, b, c⟩ := new_rowT (P := P) hW t (cs := z.cells.toList) (cs' := z.cells.toList) (zero_AR hz2)
      refine ⟨σ', v', w', ?_, b, c⟩
      rw [← a]
      simp [Instr.alloc, hz1, newVar]
    · cases h
  case box t x =>
    injection h with h
    rw [AW.new_eq] at h
    injection h with h1 h2
    subst h1; subst h2
    refine .value' rfl ?_
    obtain ⟨σ', v', w', a, b, c⟩ := new_row (P := P) hW t (hρ x (by simp)).cells
    refine ⟨σ', v', w', ?_, b, c⟩
    rw [← a]
    simp [Instr.box, newVar]
  case build t ps =>
    obtain ⟨hb, rfl⟩ := hmap _ h
    obtain ⟨v', h1, h2⟩ := aBuild_run hb (fun p hp => hρ p.2 (by simp; exact ⟨p.1, by simpa using hp⟩)) w
    exact .value rfl hW h1 h2
  case buildSlice t len ps =>
    exact .value' rfl (aBuildSlice_run hW h (fun p hp => hρ p.2 (by simp; exact ⟨p.1, by simpa using hp⟩)))
  case insert => cases h
  case load t a =>
    obtain ⟨hb, rfl⟩ := hmap _ h
    obtain ⟨v', h1, h2⟩ := aLoad_run hW hb (hρ a (by simp))
    exact .value rfl hW h1 h2
  case store t a x =>
    obtain ⟨hb, rfl⟩ := hmapW _ h
    exact .unit rfl (aStore_run hW hb (hρ a (by simp)) (hρ x (by simp)))
  case ready => cases h
  case waits => cases h
  case nilCheck x =>
    have hx := hρ x (by simp)
    split at h <;> (try (cases h; done)) <;> rename_i hcc <;> rw [hcc] at hx <;> injection h with h <;> injection h with h1 h2 <;> subst h1 <;> subst h2
    · obtain ⟨g, _, _, e⟩ := hx.ptr_inv
      exact ⟨σ, .value (ρ x), ρ x, w, by simp [execOp, e], .inl rfl, hx, hW, Ext.refl _ _ _⟩
    · obtain ⟨fn', fs', cs', hf, _, _, e⟩ := hx.func_inv
      cases hf
      exact ⟨σ, .value (ρ x), ρ x, w, by simp [execOp, e], .inl rfl, hx, hW, Ext.refl _ _ _⟩
    · obtain ⟨fn', fs', cs', hf, _, _, e⟩ := hx.func_inv
      cases hf
      exact ⟨σ, .value (ρ x), ρ x, w, by simp [execOp, e], .inl rfl, hx, hW, Ext.refl _ _ _⟩
    · obtain ⟨u', _, e⟩ := hx.iface_inv
      exact ⟨σ, .value (ρ x), ρ x, w, by simp [execOp, e], .inl rfl, hx, hW, Ext.refl _ _ _⟩
  case binOp op t x y yt =>
    split at h
    · rename_i u hb
      injection h with h; injection h with h1 h2; subst h1; subst h2
      obtain ⟨v', h1, h2⟩ := aBin_run (dst := dst) (type := type) (pos := pos) (after := after) (guard := guard) (yt := yt) hW hb (hρ x (by simp)) (hρ y (by simp))
      exact ⟨σ, .value v', v', w, h1, .inl rfl, h2, hW, Ext.refl _ _ _⟩
    · obtain ⟨hb, rfl⟩ := hmap _ h
      exact hpure _ hb
  case unOp => obtain ⟨hb, rfl⟩ := hmap _ h; exact hpure _ hb
  case convert s d x =>
    obtain ⟨hb, rfl⟩ := hmap _ h
    unfold aConv at hb
    split at hb
    · rename_i a0 n0 c0 hx0
      obtain ⟨v', a, b⟩ := aBytesStr_run hW hb (by rw [← hx0]; exact hρ x (by simp))
      exact .value rfl hW a b
    · exact hpure _ hb
  case sliceToArrayPointer => cases h
  case makeInterface t x =>
    split at h
    · cases h
    · rename_i d hd hu
      injection h with h; injection h with h1 h2; subst h1; subst h2
      refine .value rfl hW (v' := .iface t (ρ x)) ?_ (.iface _ _ _ (hρ x (by simp)))
      simp only [Instr.makeInterface, Sem.run_bind, run_underlying hu, Result.andThen_ok]
      cases d <;> first | rfl | exact absurd rfl (hd _)
    · cases h
  case makeFunc fn first captured =>
    cases fn <;> (try (simp only [] at h; cases h; done))
    rename_i f0
    simp only at h
    injection h with h; injection h with h1 h2; subst h1; subst h2
    have k1 := arr_map first (fun y hy => hρ y (by simp [hy]))
    have k2 := arr_map captured (fun y hy => hρ y (by simp [hy]))
    exact .value (s := Instr.makeFunc (.func f0) (first.map ρ) (captured.map ρ)) rfl hW rfl (.func _ _ _ _ _ _ (.func f0) k1.arr.1 k1.arr.2 k2.arr.1 k2.arr.2)
  case makeMap t r =>
    split at h
    · injection h with h
      rw [AW.new_eq] at h
      injection h with h1 h2
      subst h1; subst h2
      refine .value' rfl ?_
      obtain ⟨σ', v', w', a, b, c⟩ := new_map (P := P) hW
      exact ⟨σ', v', w', by rw [← a]; simp [Instr.makeMap], b, c⟩
    · rename_i hh
      split at h
      · rename_i kt e kd n hu he
        injection h with h
        rw [AW.new_eq] at h
        injection h with h1 h2
        subst h1; subst h2
        refine .value' rfl ?_
        obtain ⟨σ', v', w', a, b, c⟩ := new_map (P := P) hW
        have hv := hρ hh (by simp)
        rw [he] at hv
        exact ⟨σ', v', w', by rw [← a]; simp [Instr.makeMap, run_underlying hu, hv.int_inv, asInt, asIntOf], b, c⟩
      · cases h
  case makeChan => cases h
  case makeSlice t l c => exact .value' rfl (aMakeSlice_run hW h (hρ l (by simp)) (hρ c (by simp)))
  case slice t x lo hi mx =>
    split at h
    · rename_i u hs
      injection h with h; injection h with h1 h2; subst h1; subst h2
      obtain ⟨v', a, b⟩ := aSlice_run hs (hρ x (by simp)) (OR_map (fun y hy => hρ y (by simp [hy]))) (OR_map (fun y hy => hρ y (by simp [hy]))) (OR_map (fun y hy => hρ y (by simp [hy]))) w
      exact .value rfl hW a b
    · obtain ⟨hb, rfl⟩ := hmap _ h
      exact hpure _ hb
  case fieldAddr s x f =>
    split at h
    · rename_i fs a hu hx0
      split at h
      · rename_i fl hfl
        split at h
        · rename_i n hn
          injection h with h; injection h with h1 h2; subst h1; subst h2
          have hx := hρ x (by simp)
          rw [hx0] at hx
          obtain ⟨g, hg, hsp, e⟩ := hx.ptr_inv
          refine .value rfl hW (v' := .pointer (some ⟨g.B, g.s + (a.add fl.offset).off, none⟩)) ?_ (.ptr _ g (by rw [add_block]; exact hg) (add_spot _ _ hsp))
          simp [Instr.fieldAt, run_underlying hu, hfl, e, Instr.sureAddr, fieldPlace, run_sizeOf' hn, addr_add, add_off, Nat.add_assoc]
        · cases h
      · cases h
    · cases h
  case field t x f =>
    split at h
    · rename_i fs cs hu hx0
      split at h
      · rename_i fl hfl
        obtain ⟨hb, rfl⟩ := hmap _ h
        have hx := hρ x (by simp)
        rw [hx0] at hx
        obtain ⟨cs', hc, e⟩ := hx.agg_inv
        obtain ⟨v', a, b⟩ := aPart_run (P := P) hb hc w
        exact .value rfl hW (by simp [Instr.field, run_underlying hu, hfl, e, asAgg, a]) b
      · cases h
    · cases h
  case indexAddr t x i =>
    have hi := hρ i (by simp)
    have hx := hρ x (by simp)
    split at h
    · rename_i e a len cap n hu hx0 hn
      obtain ⟨k, hi'⟩ := natOf_rel hn hi
      rw [hx0] at hx
      split at h
      · rename_i z hz
        split at h
        · rename_i hlt
          injection h with h; injection h with h1 h2; subst h1; subst h2
          rcases hx.slice_inv with ⟨g, c', hg, hsp, hc, e'⟩ | ⟨h0, _⟩
          · refine .value rfl hW (v' := .pointer (some ⟨g.B, g.s + (a.add (n * z)).off, none⟩)) ?_ (.ptr _ g (by rw [add_block]; exact hg) (add_spot _ _ hsp))
            simp [Instr.indexAt, hi', e', asIntOf, run_underlying hu, hlt, run_sizeOf' hz, addr_add, add_off, Nat.add_assoc]
          · omega
        · cases h
      · cases h
    · rename_i len e a n hu hx0 hn
      obtain ⟨k, hi'⟩ := natOf_rel hn hi
      rw [hx0] at hx
      split at h
      · rename_i z hz
        split at h
        · rename_i hlt
          injection h with h; injection h with h1 h2; subst h1; subst h2
          obtain ⟨g, hg, hsp, e'⟩ := hx.ptr_inv
          refine .value rfl hW (v' := .pointer (some ⟨g.B, g.s + (a.add (n * z)).off, none⟩)) ?_ (.ptr _ g (by rw [add_block]; exact hg) (add_spot _ _ hsp))
          simp [Instr.indexAt, hi', e', asIntOf, run_underlying hu, Instr.sureAddr, hlt, run_sizeOf' hz, addr_add, add_off, Nat.add_assoc]
        · cases h
      · cases h
    · cases h
  case index t x i =>
    have hi := hρ i (by simp)
    have hx := hρ x (by simp)
    split at h
    · rename_i len e cs n hu hx0 hn
      obtain ⟨k, hi'⟩ := natOf_rel hn hi
      rw [hx0] at hx
      split at h
      · rename_i z hz
        split at h
        · rename_i hlt
          obtain ⟨hb, rfl⟩ := hmap _ h
          obtain ⟨cs', hc, e'⟩ := hx.agg_inv
          obtain ⟨v', a, b⟩ := aPart_run (P := P) hb hc w
          exact .value rfl hW (by simp [Instr.index, hi', e', asIntOf, run_underlying hu, hlt, run_sizeOf' hz, a]) b
        · cases h
      · cases h
    · obtain ⟨hb, rfl⟩ := hmap _ h
      exact hpure _ hb
  case lookup t m k ok =>
    obtain ⟨hb, rfl⟩ := hmap _ h
    obtain ⟨v', a, b⟩ := aLookup_run hW hb (hρ m (by simp)) (hρ k (by simp))
    exact .value rfl hW a b
  case mapUpdate t m k u =>
    obtain ⟨hb, rfl⟩ := hmapW _ h
    exact .unit rfl (aMapUpdate_run hW hb (hρ m (by simp)) (hρ k (by simp)) (hρ u (by simp)))
  case mapEntry => cases h
  case entryStore => cases h
  case range t x =>
    split at h
    · rename_i s hu hx0
      injection h with h
      rw [AW.new_eq] at h
      injection h with h1 h2
      subst h1; subst h2
      have hx := hρ x (by simp)
      rw [hx0] at hx
      have hal := hW.alloc (o := .siter s 0) (x := .stringIter s 0) (e := 1) ⟨rfl, rfl, by rw [Array.getElem?_push]; simp⟩
      have hv := VR.ptr (σ := bind1 σ W.next ⟨w.heap.size, 0, 1⟩) ⟨W.next, 0, none⟩ _ bind1_same rfl
      exact .value' rfl ⟨_, .pointer (some ⟨w.heap.size, 0, none⟩), { w with heap := w.heap.push (.stringIter s 0) }, by simp [Instr.range, run_underlying hu, hx.string_inv], by simpa using hv, hal.1, hal.2⟩
    · cases h
  case next it isS =>
    cases isS <;> simp only at h
    · cases h
    have hx := hρ it (by simp)
    split at h
    · rename_i b sp hit
      rw [hit] at hx
      obtain ⟨g, hg, hsp, e⟩ := hx.ptr_inv
      split at h
      · rename_i s ps hget
        obtain ⟨g1, g2, g3⟩ := hW.obj b _ g hget hg
        have hgo : (getObj g.B).run P w = .ok (.stringIter s ps) w := by simp [getObj, Sem.run, g3]
        have e2 : ρ it = .pointer (some ⟨g.B, 0, none⟩) := by rw [e]; simp [g1]
        split at h
        · rename_i hlt
          injection h with h; injection h with h1 h2; subst h1; subst h2
          have hblt : g.B < w.heap.size := (Array.getElem?_eq_some_iff.1 g3).1
          have hso : (setObj g.B (.stringIter s (ps + (Utf8.decode s ps).2))).run P w = .ok () { w with heap := w.heap.setIfInBounds g.B (.stringIter s (ps + (Utf8.decode s ps).2)) } := by simp [setObj, Sem.run, g3]
          have hq := hW.setObj (o' := .siter s (ps + (Utf8.decode s ps).2)) (x := .stringIter s (ps + (Utf8.decode s ps).2)) hget (fun _ hx => by cases hx) hg ⟨g1, g2⟩ (fun c t fr hx => by rw [g3] at hx; cases hx) ⟨g1, g2, by simp [hblt]⟩
          exact .value' rfl ⟨σ, .tuple #[.bool true, goInt ps, .int .i32 (Utf8.decode s ps).1], _, by simp [Instr.next, e2, hgo, hlt, hso], VR.tuple' (by simpa [goInt] using LR.cons (.bool true) (.cons (.int _ _) (.cons (.int _ _) .nil))), hq.1, hq.2⟩
        · rename_i hlt
          injection h with h; injection h with h1 h2; subst h1; subst h2
          exact .value rfl hW (v' := .tuple #[.bool false]) (by simp [Instr.next, e2, hgo, hlt]) (VR.tuple' (by simpa using LR.cons (.bool false) .nil))
      · cases h
    · cases h
  case entry => cases h
  case typeAssert x xt t ok =>
    split at h
    · cases h
    · rename_i d u v0 hd hu hx0
      split at h
      · rename_i hut
        subst hut
        injection h with h; injection h with h1 h2; subst h1; subst h2
        have hx := hρ x (by simp)
        rw [hx0] at hx
        obtain ⟨u', h1, e⟩ := hx.iface_inv
        refine .value rfl hW (v' := if ok then .tuple #[u', .bool true] else u') ?_ ?_
        · simp only [Instr.typeAssert, Sem.run_bind, run_underlying hu, Result.andThen_ok, e]
          cases d <;> first | (simp; done) | exact absurd rfl (hd _)
        · cases ok
          · exact h1
          · exact two_VR h1 (.bool true)
      · cases h
    · cases h
  case extract x i =>
    split at h
    · rename_i vs hx0
      obtain ⟨hb, rfl⟩ := hmap _ h
      have hx := hρ x (by simp)
      rw [hx0] at hx
      obtain ⟨cs', hc, e⟩ := hx.tuple_inv
      obtain ⟨v', a, b⟩ := hc.get (i := i) (v := v) (by simpa using hb)
      have a' : cs'[i]? = some v' := by simpa using a
      exact .value rfl hW (v' := v') (by simp [Instr.extract, e, a']) b
    · cases h
  case call => cases h
  case go => cases h
  case defer => cases h
  case panic => cases h
  case send => cases h
  case recv => cases h
  case select => cases h
end
end
end Go.Eng
