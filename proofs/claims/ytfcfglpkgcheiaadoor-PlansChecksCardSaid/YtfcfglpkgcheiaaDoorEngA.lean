/- Words of the engine: a trie, an abstract heap, and how abstract values and worlds stand for those of the model. -/
import Derived.RangeFuncLeaves
import Derived.OrdersIn
import Derived.KernelRfl
namespace Go.Eng
open Go

inductive T (α : Type) where
  | lf : T α
  | nd (l : T α) (v : Option α) (r : T α) : T α

noncomputable def pathF (fuel : Nat) : Nat → List Bool :=
  Nat.rec (motive := fun _ => Nat → List Bool) (fun _ => [])
    (fun _ ih n => Nat.rec (motive := fun _ => List Bool) [] (fun m _ => (Nat.beq (Nat.mod m 2) 0) :: ih (Nat.div m 2)) n) fuel
noncomputable def path (n : Nat) : List Bool := pathF n n

noncomputable def T.get {α : Type} (p : List Bool) : T α → Option α :=
  List.rec (motive := fun _ => T α → Option α) (fun t => T.rec (motive := fun _ => Option α) none (fun _ v _ _ _ => v) t)
    (fun b _ ih t => T.rec (motive := fun _ => Option α) none (fun l _ r _ _ => Bool.rec (motive := fun _ => Option α) (ih r) (ih l) b) t) p
noncomputable def T.set {α : Type} (x : Option α) (p : List Bool) : T α → T α :=
  List.rec (motive := fun _ => T α → T α) (fun t => T.rec (motive := fun _ => T α) (.nd .lf x .lf) (fun l _ r _ _ => .nd l x r) t)
    (fun b _ ih t => T.rec (motive := fun _ => T α) (Bool.rec (motive := fun _ => T α) (.nd .lf none (ih .lf)) (.nd (ih .lf) none .lf) b)
       (fun l v r _ _ => Bool.rec (motive := fun _ => T α) (.nd l v (ih r)) (.nd (ih l) v r) b) t) p

theorem pathF_inj : ∀ (f g n m : Nat), n ≤ f → m ≤ g → pathF f n = pathF g m → n = m := by
  intro f
  induction f with
  | zero =>
    intro g n m hn hm h
    have hn0 : n = 0 := by omega
    subst hn0
    cases m with
    | zero => rfl
    | succ m =>
      cases g with
      | zero => omega
      | succ g => exact absurd h (by simp [pathF])
  | succ f ih =>
    intro g n m hn hm h
    cases n with
    | zero =>
      cases m with
      | zero => rfl
      | succ m =>
        cases g with
        | zero => omega
        | succ g => exact absurd h (by simp [pathF])
    | succ n =>
      cases m with
      | zero => cases g <;> exact absurd h (by simp [pathF])
      | succ m =>
        cases g with
        | zero => omega
        | succ g =>
          have h' : (Nat.beq (Nat.mod n 2) 0) :: pathF f (Nat.div n 2) = (Nat.beq (Nat.mod m 2) 0) :: pathF g (Nat.div m 2) := h
          injection h' with h1 h2
          have e1 : Nat.div n 2 = n / 2 := rfl
          have e2 : Nat.div m 2 = m / 2 := rfl
          have e3 : Nat.mod n 2 = n % 2 := rfl
          have e4 : Nat.mod m 2 = m % 2 := rfl
          have h3 := ih g (n / 2) (m / 2) (by omega) (by omega) (by rw [← e1, ← e2]; exact h2)
          rw [e3, e4] at h1
          have h4 : (n % 2 = 0) ↔ (m % 2 = 0) := by
            rw [← Nat.beq_eq, ← Nat.beq_eq, h1]
          omega
theorem path_inj {n m : Nat} (h : path n = path m) : n = m := pathF_inj _ _ _ _ (Nat.le_refl _) (Nat.le_refl _) h
theorem path_ne {n m : Nat} (h : n ≠ m) : path n ≠ path m := fun e => h (path_inj e)

theorem T.get_set {α : Type} (x : Option α) : ∀ (p : List Bool) (t : T α), T.get p (T.set x p t) = x := by
  intro p
  induction p with
  | nil => intro t; cases t <;> rfl
  | cons b p ih => intro t; cases t <;> cases b <;> exact ih _
theorem T.get_lf {α : Type} (p : List Bool) : T.get p (.lf : T α) = none := by cases p <;> rfl
theorem T.get_set_ne {α : Type} (x : Option α) : ∀ (p q : List Bool) (t : T α), p ≠ q → T.get q (T.set x p t) = T.get q t := by
  intro p
  induction p with
  | nil =>
    intro q t h
    cases q with
    | nil => exact absurd rfl h
    | cons b q => cases t <;> cases b <;> first | rfl | exact (T.get_lf q)
  | cons b p ih =>
    intro q t h
    cases q with
    | nil => cases t <;> cases b <;> rfl
    | cons c q =>
      have ht : b = c → p ≠ q := fun e1 e2 => h (by rw [e1, e2])
      cases t <;> cases b <;> cases c <;>
        first
          | rfl
          | exact T.get_lf q
          | exact (ih q .lf (ht rfl)).trans (T.get_lf q)
          | exact ih q _ (ht rfl)

theorem T.set_set {α : Type} (x y : Option α) : ∀ (p : List Bool) (t : T α), T.set y p (T.set x p t) = T.set y p t := by
  intro p
  induction p with
  | nil => intro t; cases t <;> rfl
  | cons b p ih =>
    intro t
    cases t with
    | lf =>
      cases b
      · exact congrArg (T.nd .lf none) (ih .lf)
      · exact congrArg (fun l => T.nd l none .lf) (ih .lf)
    | nd l v r =>
      cases b
      · exact congrArg (T.nd l v) (ih r)
      · exact congrArg (fun l => T.nd l v r) (ih l)

/-- the order in which the engine does the operations of a region that draws; behind each those that are looked at again; and how frames are kept -/
class PlanTab where
  D : Nat → Array Oper → Option (List (Nat × List Nat))
  /-- the package-level variables that are known -/
  ng : List Nat
  Fr : Type
  fget : Fr → Nat → Value
  fset : Fr → Nat → Value → Fr
  blank : Fr
  get_set : ∀ R t v, fget (fset R t v) t = v
  get_set_ne : ∀ R t u v, t ≠ u → fget (fset R t v) u = fget R u
  get_blank : ∀ t, fget blank t = undef
noncomputable def lget {α : Type} (l : List α) : Nat → Option α :=
  List.rec (motive := fun _ => Nat → Option α) (fun _ => none) (fun v _ ih n => Nat.rec (motive := fun _ => Option α) (some v) (fun m _ => ih m) n) l
noncomputable def lset {α : Type} (l : List α) : Nat → α → List α :=
  List.rec (motive := fun _ => Nat → α → List α) (fun _ _ => []) (fun v t ih n x => Nat.rec (motive := fun _ => List α) (x :: t) (fun m _ => v :: ih m x) n) l
theorem lget_eq {α : Type} (l : List α) : ∀ n, lget l n = l[n]? := by
  induction l with
  | nil => intro n; rfl
  | cons v l ih => intro n; cases n with | zero => rfl | succ n => exact (ih n).trans (by simp)
theorem lset_eq {α : Type} (l : List α) : ∀ (n : Nat) (x : α), lset l n x = l.set n x := by
  induction l with
  | nil => intro n x; rfl
  | cons v l ih => intro n x; cases n with | zero => rfl | succ n => exact congrArg (v :: ·) (ih n x)

section
variable [PlanTab]
inductive AObj where
  | cells (cs : List Value)
  | ro (cs : List Value)
  | map (es : List MapEntry) (clock : Nat)
  | loop (state : LoopState) (pending : Option Code) (tmps : PlanTab.Fr) (ntmps : Nat) (params : Array Tmp) (assign body : Code)
  | siter (s : ByteArray) (pos : Nat)

structure AW where
  heap : T AObj
  next : Nat

noncomputable def AW.get (W : AW) (b : Nat) : Option AObj := T.get (path b) W.heap
noncomputable def AW.put (W : AW) (b : Nat) (o : AObj) : AW := ⟨T.set (some o) (path b) W.heap, W.next⟩
noncomputable def AW.kill (W : AW) (b : Nat) : AW := ⟨T.set none (path b) W.heap, W.next⟩
/-- a new block; its number is brought to a numeral -/
noncomputable def AW.new {X : Type} (W : AW) (o : AObj) (k : Nat → AW → X) : X :=
  AW.rec (motive := fun _ => X) (fun h n => Nat.rec (motive := fun _ => X) (k 0 ⟨T.set (some o) (path 0) h, 1⟩)
    (fun m _ => k (Nat.succ m) ⟨T.set (some o) (path (Nat.succ m)) h, Nat.succ (Nat.succ m)⟩) n) W
noncomputable def AW.add (W : AW) (o : AObj) : AW := ⟨T.set (some o) (path W.next) W.heap, W.next + 1⟩
theorem AW.new_eq {X : Type} (W : AW) (o : AObj) (k : Nat → AW → X) : W.new o k = k W.next (W.add o) := by
  obtain ⟨h, n⟩ := W
  cases n <;> rfl

theorem AW.get_put (W : AW) (b : Nat) (o : AObj) : (W.put b o).get b = some o := T.get_set _ _ _
theorem AW.get_put_ne (W : AW) {b c : Nat} (o : AObj) (h : b ≠ c) : (W.put b o).get c = W.get c := T.get_set_ne _ _ _ _ (path_ne h)
theorem AW.get_kill (W : AW) (b : Nat) : (W.kill b).get b = none := T.get_set _ _ _
theorem AW.get_kill_ne (W : AW) {b c : Nat} (h : b ≠ c) : (W.kill b).get c = W.get c := T.get_set_ne _ _ _ _ (path_ne h)
theorem AW.get_add (W : AW) (o : AObj) : (W.add o).get W.next = some o := T.get_set _ _ _
theorem AW.get_add_ne (W : AW) {c : Nat} (o : AObj) (h : W.next ≠ c) : (W.add o).get c = W.get c := T.get_set_ne _ _ _ _ (path_ne h)
theorem AW.put_next (W : AW) (b : Nat) (o : AObj) : (W.put b o).next = W.next := rfl
theorem AW.kill_next (W : AW) (b : Nat) : (W.kill b).next = W.next := rfl
theorem AW.add_next (W : AW) (o : AObj) : (W.add o).next = W.next + 1 := rfl

end
/-! ### Values -/
/-- where an abstract block lies: the model's block, its first cell there, and behind its last -/
structure Seg where
  B : Nat
  s : Nat
  e : Nat
abbrev Inj := Nat → Option Seg
/-- capacities from here on are open: BIG + z: as many elements, of z cells each, as lie from the slice's first cell to the segment's end -/
def BIG : Nat := 18446744073709551616

inductive CapR (g : Seg) (off l : Nat) : Nat → Nat → Prop where
  | known (c : Nat) (h : c < BIG) : CapR g off l c c
  | open_ (z c' : Nat) (hz : 0 < z) (hl : l ≤ c') (h : g.s + off + c' * z = g.e) : CapR g off l (BIG + z) c'

inductive FnR (σ : Inj) : Fn → Fn → Prop where
  | func (f : FuncId) : FnR σ (.func f) (.func f)
  | yield (l : Nat) (g : Seg) (h : σ l = some g) : FnR σ (.yield l) (.yield g.B)

inductive VR (σ : Inj) : Value → Value → Prop where
  | bool (b : Bool) : VR σ (.bool b) (.bool b)
  | int (k : IntKind) (n : Int) : VR σ (.int k n) (.int k n)
  | float (k : FloatKind) (n : Nat) : VR σ (.float k n) (.float k n)
  | string (s : ByteArray) : VR σ (.string s) (.string s)
  | pnil : VR σ (.pointer none) (.pointer none)
  | ptr (a : Addr) (g : Seg) (h : σ a.block = some g) (hs : a.spot = none) : VR σ (.pointer (some a)) (.pointer (some ⟨g.B, g.s + a.off, none⟩))
  | snil (l c : Nat) : VR σ (.slice none l c) (.slice none l c)
  | slice (a : Addr) (l c c' : Nat) (g : Seg) (h : σ a.block = some g) (hs : a.spot = none) (hc : CapR g a.off l c c') :
      VR σ (.slice (some a) l c) (.slice (some ⟨g.B, g.s + a.off, none⟩) l c')
  | sliceE (a a' : Addr) (c : Nat) (g : Seg) (h : σ a.block = some g) (hc : c = 0 ∨ BIG < c) : VR σ (.slice (some a) 0 c) (.slice (some a') 0 0)
  | mnil : VR σ (.map none) (.map none)
  | map (r : Nat) (g : Seg) (h : σ r = some g) : VR σ (.map (some r)) (.map (some g.B))
  | nilFunc : VR σ .nilFunc .nilFunc
  | func (fn fn' : Fn) (fs fs' cs cs' : Array Value) (hf : FnR σ fn fn') (h1 : fs.size = fs'.size) (h2 : ∀ (i : Nat) (v v' : Value), fs[i]? = some v → fs'[i]? = some v' → VR σ v v')
      (h3 : cs.size = cs'.size) (h4 : ∀ (i : Nat) (v v' : Value), cs[i]? = some v → cs'[i]? = some v' → VR σ v v') : VR σ (.func fn fs cs) (.func fn' fs' cs')
  | nilIface : VR σ .nilIface .nilIface
  | iface (t : TypeId) (v v' : Value) (h : VR σ v v') : VR σ (.iface t v) (.iface t v')
  | agg (cs cs' : Array Value) (h1 : cs.size = cs'.size) (h2 : ∀ (i : Nat) (v v' : Value), cs[i]? = some v → cs'[i]? = some v' → VR σ v v') : VR σ (.agg cs) (.agg cs')
  | tuple (cs cs' : Array Value) (h1 : cs.size = cs'.size) (h2 : ∀ (i : Nat) (v v' : Value), cs[i]? = some v → cs'[i]? = some v' → VR σ v v') : VR σ (.tuple cs) (.tuple cs')

def Sub (σ σ' : Inj) : Prop := ∀ b g, σ b = some g → σ' b = some g
theorem Sub.refl (σ : Inj) : Sub σ σ := fun _ _ h => h
theorem Sub.trans {σ σ' σ'' : Inj} (h : Sub σ σ') (k : Sub σ' σ'') : Sub σ σ'' := fun b g x => k b g (h b g x)

theorem FnR.mono {σ σ' : Inj} (hs : Sub σ σ') {f f' : Fn} (h : FnR σ f f') : FnR σ' f f' := by
  cases h with
  | func f => exact .func f
  | yield l g h => exact .yield l g (hs _ _ h)
theorem VR.mono {σ σ' : Inj} (hs : Sub σ σ') {v v' : Value} (h : VR σ v v') : VR σ' v v' := by
  induction h with
  | bool b => exact .bool b
  | int k n => exact .int k n
  | float k n => exact .float k n
  | string s => exact .string s
  | pnil => exact .pnil
  | ptr a g h hsp => exact .ptr a g (hs _ _ h) hsp
  | snil l c => exact .snil l c
  | slice a l c c' g h hsp hc => exact .slice a l c c' g (hs _ _ h) hsp hc
  | sliceE a a' c g h hc => exact .sliceE a a' c g (hs _ _ h) hc
  | mnil => exact .mnil
  | map r g h => exact .map r g (hs _ _ h)
  | nilFunc => exact .nilFunc
  | func fn fn' fs fs' cs cs' hf h1 _ h3 _ ih1 ih2 => exact .func fn fn' fs fs' cs cs' (hf.mono hs) h1 ih1 h3 ih2
  | nilIface => exact .nilIface
  | iface t v v' _ ih => exact .iface t v v' ih
  | agg cs cs' h1 _ ih => exact .agg cs cs' h1 ih
  | tuple cs cs' h1 _ ih => exact .tuple cs cs' h1 ih

/-- lists of values -/
def LR (σ : Inj) (l l' : List Value) : Prop := l.length = l'.length ∧ ∀ (i : Nat) (v v' : Value), l[i]? = some v → l'[i]? = some v' → VR σ v v'
theorem LR.mono {σ σ' : Inj} (hs : Sub σ σ') {l l' : List Value} (h : LR σ l l') : LR σ' l l' := ⟨h.1, fun i v v' a b => (h.2 i v v' a b).mono hs⟩
theorem LR.nil {σ : Inj} : LR σ [] [] := ⟨rfl, fun i v v' a => by simp at a⟩
theorem LR.cons {σ : Inj} {v v' : Value} {l l' : List Value} (h : VR σ v v') (hl : LR σ l l') : LR σ (v :: l) (v' :: l') := by
  refine ⟨by simp [hl.1], fun i u u' a b => ?_⟩
  cases i with
  | zero => simp at a b; subst a; subst b; exact h
  | succ i => simp at a b; exact hl.2 i u u' a b
theorem LR.of_cons {σ : Inj} {v : Value} {l m : List Value} (h : LR σ (v :: l) m) : ∃ v' l', m = v' :: l' ∧ VR σ v v' ∧ LR σ l l' := by
  cases m with
  | nil => have := h.1; simp at this
  | cons v' l' =>
    refine ⟨v', l', rfl, h.2 0 v v' (by simp) (by simp), by have := h.1; simpa using this, fun i u u' a b => h.2 (i + 1) u u' (by simpa using a) (by simpa using b)⟩
theorem LR.of_nil {σ : Inj} {m : List Value} (h : LR σ [] m) : m = [] := by
  have := h.1; simp at this; exact List.eq_nil_of_length_eq_zero this.symm
theorem LR.append {σ : Inj} {l l' m m' : List Value} (h : LR σ l l') (k : LR σ m m') : LR σ (l ++ m) (l' ++ m') := by
  induction l generalizing l' with
  | nil => have := h.of_nil; subst this; exact k
  | cons v l ih =>
    obtain ⟨v', l'', rfl, hv, hl⟩ := h.of_cons
    exact (ih hl).cons hv
theorem LR.take {σ : Inj} {l l' : List Value} (h : LR σ l l') (n : Nat) : LR σ (l.take n) (l'.take n) := by
  refine ⟨by simp [h.1], fun i v v' a b => ?_⟩
  rw [List.getElem?_take] at a b
  split at a
  · rename_i hi; rw [if_pos hi] at b; exact h.2 i v v' a b
  · cases a
theorem LR.drop {σ : Inj} {l l' : List Value} (h : LR σ l l') (n : Nat) : LR σ (l.drop n) (l'.drop n) := by
  refine ⟨by simp [h.1], fun i v v' a b => ?_⟩
  rw [List.getElem?_drop] at a b
  exact h.2 _ v v' a b
theorem LR.get {σ : Inj} {l l' : List Value} (h : LR σ l l') {i : Nat} {v : Value} (hv : l[i]? = some v) : ∃ v', l'[i]? = some v' ∧ VR σ v v' := by
  have hi : i < l.length := (List.getElem?_eq_some_iff.1 hv).1
  have hi' : i < l'.length := by rw [← h.1]; exact hi
  exact ⟨l'[i], List.getElem?_eq_getElem hi', h.2 i v _ hv (List.getElem?_eq_getElem hi')⟩
theorem LR.set {σ : Inj} {l l' : List Value} (h : LR σ l l') (n : Nat) {x x' : Value} (hx : VR σ x x') : LR σ (l.set n x) (l'.set n x') := by
  refine ⟨by simp [h.1], fun i v v' a b => ?_⟩
  rw [List.getElem?_set] at a b
  by_cases hn : n = i
  · subst hn
    simp only [if_true] at a b
    split at a
    · split at b
      · simp at a b; subst a; subst b; exact hx
      · cases b
    · cases a
  · rw [if_neg hn] at a b; exact h.2 i v v' a b
theorem LR.reverse {σ : Inj} {l l' : List Value} (h : LR σ l l') : LR σ l.reverse l'.reverse := by
  induction l generalizing l' with
  | nil => have := h.of_nil; subst this; exact .nil
  | cons v l ih =>
    obtain ⟨v', l'', rfl, hv, hl⟩ := h.of_cons
    simp only [List.reverse_cons]
    exact (ih hl).append (.cons hv .nil)
/-- arrays, by their lists -/
theorem LR.of_arr {σ : Inj} {a a' : Array Value} (h1 : a.size = a'.size) (h2 : ∀ (i : Nat) (v v' : Value), a[i]? = some v → a'[i]? = some v' → VR σ v v') : LR σ a.toList a'.toList :=
  ⟨by simpa using h1, fun i v v' x y => h2 i v v' (by simpa using x) (by simpa using y)⟩
theorem LR.arr {σ : Inj} {a a' : Array Value} (h : LR σ a.toList a'.toList) : a.size = a'.size ∧ ∀ (i : Nat) (v v' : Value), a[i]? = some v → a'[i]? = some v' → VR σ v v' :=
  ⟨by simpa using h.1, fun i v v' x y => h.2 i v v' (by simpa using x) (by simpa using y)⟩
theorem VR.agg' {σ : Inj} {a a' : Array Value} (h : LR σ a.toList a'.toList) : VR σ (.agg a) (.agg a') := .agg _ _ h.arr.1 h.arr.2
theorem VR.tuple' {σ : Inj} {a a' : Array Value} (h : LR σ a.toList a'.toList) : VR σ (.tuple a) (.tuple a') := .tuple _ _ h.arr.1 h.arr.2
theorem VR.cells {σ : Inj} {v v' : Value} (h : VR σ v v') : LR σ v.cells.toList v'.cells.toList := by
  cases h with
  | agg cs cs' h1 h2 => exact .of_arr h1 h2
  | bool b => exact .cons (.bool b) .nil
  | int k n => exact .cons (.int k n) .nil
  | float k n => exact .cons (.float k n) .nil
  | string s => exact .cons (.string s) .nil
  | pnil => exact .cons .pnil .nil
  | ptr a g h hs => exact .cons (.ptr a g h hs) .nil
  | snil l c => exact .cons (.snil l c) .nil
  | slice a l c c' g h hs hc => exact .cons (.slice a l c c' g h hs hc) .nil
  | sliceE a a' c g h hc => exact .cons (.sliceE a a' c g h hc) .nil
  | mnil => exact .cons .mnil .nil
  | map r g h => exact .cons (.map r g h) .nil
  | nilFunc => exact .cons .nilFunc .nil
  | func fn fn' fs fs' cs cs' hf h1 h2 h3 h4 => exact .cons (.func fn fn' fs fs' cs cs' hf h1 h2 h3 h4) .nil
  | nilIface => exact .cons .nilIface .nil
  | iface t v v' h => exact .cons (.iface t v v' h) .nil
  | tuple cs cs' h1 h2 => exact .cons (.tuple cs cs' h1 h2) .nil
theorem VR.undef {σ : Inj} : VR σ undef undef := VR.tuple' (a := #[]) (a' := #[]) .nil

/-! ### Plain values: the same in both worlds -/
def scalar : Value → Bool
  | .bool _ | .int .. | .string _ | .pointer none | .slice none _ _ | .map none | .nilFunc | .nilIface | .float .. => true
  | _ => false
def plain1 : Value → Bool
  | .agg cs => cs.toList.all scalar
  | v => scalar v
def plain : Value → Bool
  | .tuple vs => vs.toList.all plain1
  | .iface _ v => plain1 v
  | v => plain1 v
theorem scalar_eq {σ : Inj} {v v' : Value} (hp : scalar v = true) (h : VR σ v v') : v' = v := by
  cases h <;> first | rfl | simp [scalar] at hp
theorem scalar_refl {σ : Inj} {v : Value} (hp : scalar v = true) : VR σ v v := by
  cases v with
  | bool b => exact .bool b
  | int k n => exact .int k n
  | float k n => exact .float k n
  | string s => exact .string s
  | pointer a => cases a with | none => exact .pnil | some a => simp [scalar] at hp
  | slice a l c => cases a with | none => exact .snil l c | some a => simp [scalar] at hp
  | map r => cases r with | none => exact .mnil | some a => simp [scalar] at hp
  | nilFunc => exact .nilFunc
  | nilIface => exact .nilIface
  | _ => simp [scalar] at hp
theorem LR.eq_of {σ : Inj} {p : Value → Bool} (hp : ∀ v v', p v = true → VR σ v v' → v' = v) : ∀ {l l' : List Value}, l.all p = true → LR σ l l' → l' = l := by
  intro l
  induction l with
  | nil => intro l' _ h; exact h.of_nil
  | cons v l ih =>
    intro l' ha h
    obtain ⟨v', l'', rfl, hv, hl⟩ := h.of_cons
    simp only [List.all_cons, Bool.and_eq_true] at ha
    rw [hp v v' ha.1 hv, ih ha.2 hl]
theorem LR.refl_of {σ : Inj} {p : Value → Bool} (hp : ∀ v, p v = true → VR σ v v) : ∀ {l : List Value}, l.all p = true → LR σ l l := by
  intro l
  induction l with
  | nil => intro _; exact .nil
  | cons v l ih =>
    intro ha
    simp only [List.all_cons, Bool.and_eq_true] at ha
    exact (ih ha.2).cons (hp v ha.1)
theorem plain1_eq {σ : Inj} {v v' : Value} (hp : plain1 v = true) (h : VR σ v v') : v' = v := by
  cases h with
  | agg cs cs' h1 h2 =>
    have := LR.eq_of (fun v v' => scalar_eq) (show cs.toList.all scalar = true from hp) (LR.of_arr h1 h2)
    rw [Array.toList_inj.1 this]
  | _ => first | rfl | simp [plain1, scalar] at hp
theorem plain1_refl {σ : Inj} {v : Value} (hp : plain1 v = true) : VR σ v v := by
  cases v with
  | agg cs => exact VR.agg' (LR.refl_of (fun v => scalar_refl) (show cs.toList.all scalar = true from hp))
  | _ => exact scalar_refl hp
theorem plain_eq {σ : Inj} {v v' : Value} (hp : plain v = true) (h : VR σ v v') : v' = v := by
  cases h with
  | tuple cs cs' h1 h2 =>
    have := LR.eq_of (fun v v' => plain1_eq) (show cs.toList.all plain1 = true from hp) (LR.of_arr h1 h2)
    rw [Array.toList_inj.1 this]
  | iface t v v' h => rw [plain1_eq hp h]
  | agg cs cs' h1 h2 => exact plain1_eq (v := .agg cs) hp (.agg cs cs' h1 h2)
  | _ => first | rfl | simp [plain, plain1, scalar] at hp
theorem plain_refl {σ : Inj} {v : Value} (hp : plain v = true) : VR σ v v := by
  cases v with
  | tuple cs => exact VR.tuple' (LR.refl_of (fun v => plain1_refl) (show cs.toList.all plain1 = true from hp))
  | iface t v => exact .iface t v v (plain1_refl hp)
  | _ => exact plain1_refl hp

/-! ### What is looked at once, of the program's text -/
def inL (i : Nat) : List Nat → Bool
  | [] => false
  | x :: l => Nat.beq x i || inL i l
theorem inL_iff {i : Nat} {l : List Nat} : inL i l = true ↔ i ∈ l := by
  induction l with
  | nil => simp [inL]
  | cons x l ih => simp only [inL, Bool.or_eq_true, Nat.beq_eq, ih, List.mem_cons]; exact ⟨fun h => h.imp Eq.symm id, fun h => h.imp Eq.symm id⟩
/-- an operand that may be read: its temporary lies in the frame; a constant is plain -/
def okOperand (nt : Nat) (ng : List Nat) : Operand → Bool
  | .tmp t => Nat.blt t nt
  | .const v => plain v
  | .global g => inL g ng
  | .func _ => true
/-- the package-level variables lie in their own blocks -/
def Glob (σ : Inj) (ng : List Nat) : Prop := ∀ g, g ∈ ng → ∃ e, σ g = some ⟨g, 0, e⟩
theorem Glob.mono {σ σ' : Inj} {ng : List Nat} (hs : Sub σ σ') (h : Glob σ ng) : Glob σ' ng := fun g hg => let ⟨e, he⟩ := h g hg; ⟨e, hs _ _ he⟩
def okOper (nt : Nat) (ng : List Nat) (o : Oper) : Bool := o.op.operands.toList.all (okOperand nt ng) && (match o.dst with | some d => Nat.blt d nt | none => true)

/-- 0: asks nothing of the heap; 1: leaves it; 2: a new block; 3: whatever else -/
def kindE (o : Oper) : Nat :=
  match o.op with
  | .move _ | .assign _ | .pick .. | .build .. | .nilCheck _ | .unOp .. | .convert .. | .makeInterface .. | .slice .. | .fieldAddr .. | .field .. | .indexAddr .. | .index .. | .extract .. | .typeAssert .. => 0
  | .makeFunc (.func _) _ _ => 0
  | .binOp op _ _ _ _ => match op with | .eql | .neq => 1 | _ => 0
  | .load .. | .lookup .. => 1
  | .call c => match c.callee with | .builtin .len => 1 | _ => 3
  | .alloc _ | .box .. | .buildSlice .. | .makeSlice .. => 2
  | _ => 3
/-- the key of a region that draws -/
def dstOf (o : Option Oper) : Nat := match o with
  | some o => (match o.dst with | some d => d | none => 0)
  | none => 0
def planKey (id : Nat) (ops : Array Oper) : Nat := (id * 128 + ops.size) * 4096 + (dstOf ops[0]? + 3 * dstOf ops[ops.size - 1]? + 7 * dstOf ops[ops.size / 2]?)
def maskOf (A : List Nat) (o : Oper) : Nat := o.after.toList.foldr (fun e m => if Region.binds .any e then Nat.lor (Nat.lor (2 ^ e.on) (A.getD e.on 0)) m else m) 0
def ancM : List Oper → List Nat → List Nat
  | [], A => A
  | o :: os, A => ancM os (A ++ [maskOf A o])
def inD (d : Option Tmp) (l : List Tmp) : Bool := match d with | some d => inL d l | none => false
def namesOf (ops : Array Oper) (o : Oper) : List Tmp := o.dst.toList ++ o.looksAt ops
/-- an operation done, and whether it was done early -/
structure Did where
  i : Nat
  o : Oper
  early : Bool
def planGo (ops : Array Oper) (A : List Nat) : List Did → List (Nat × List Nat) → Bool
  | _, [] => true
  | pre, (i, re) :: rest =>
    match ops[i]? with
    | none => false
    | some o =>
      let e := Nat.blt (kindE o) 3 && !inD o.dst (o.looksAt ops) && pre.all fun d => !inD o.dst (namesOf ops d.o)
      pre.all (fun d => !Nat.beq d.i i) &&
      o.after.toList.all (fun e => !Region.binds .any e || pre.any fun d => Nat.beq d.i e.on) &&
      pre.all (fun d => !d.early || (Nat.testBit (A.getD i 0) d.i || (!inD d.o.dst (o.looksAt ops) && (e || (!inD o.dst (namesOf ops d.o) && (Nat.beq (kindE d.o) 0 || Nat.beq (kindE d.o) 2 || inL d.i re)))))) &&
      (e || rest.all fun k => match ops[k.1]? with
        | some ok => ok.after.toList.any fun e => Region.binds .any e && pre.all fun d => !Nat.beq d.i e.on
        | none => false) &&
      planGo ops A (⟨i, o, e⟩ :: pre) rest
def planOf (ops : Array Oper) : Option (List (Nat × List Nat)) → List (Nat × List Nat)
  | some pl => pl
  | none => (List.range ops.size).map fun i => (i, [])
def planOK (ops : Array Oper) (pl : List (Nat × List Nat)) : Bool :=
  let A := ancM ops.toList []
  (List.range ops.size).all (fun i => match ops[i]? with
    | some o => Nat.beq (A.getD i 0) (maskOf A o) && pl.any (fun x => Nat.beq x.1 i) && (match o.op with | .select .. => false | _ => true)
    | none => false) &&
  planGo ops A [] pl
def codeOk [PlanTab] (nt : Nat) (ng : List Nat) : Code → Bool
  | .region id ops draw => ops.toList.all (okOper nt ng) && (!draw || planOK ops (planOf ops (PlanTab.D id ops)))
  | .seq a b => codeOk nt ng a && codeOk nt ng b
  | .cond c a b => okOperand nt ng c && codeOk nt ng a && codeOk nt ng b
  | .block _ b => codeOk nt ng b
  | .loop b => codeOk nt ng b
  | .scope b => codeOk nt ng b
  | .rangeFunc f ps as bd => okOperand nt ng f && ps.toList.all (fun t => Nat.blt t nt) && codeOk nt ng as && codeOk nt ng bd
  | _ => true
/-- a round's texts are looked at -/
def CodeP [PlanTab] (σ : Inj) (nt : Nat) (c : Code) : Prop := Glob σ PlanTab.ng ∧ codeOk nt PlanTab.ng c = true
theorem CodeP.mono [PlanTab] {σ σ' : Inj} {nt : Nat} {c : Code} (hs : Sub σ σ') (h : CodeP σ nt c) : CodeP σ' nt c := ⟨h.1.mono hs, h.2⟩
end Go.Eng
