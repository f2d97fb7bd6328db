/- Calls; one operation in the calculus of the model. -/
import Derived.Test.YtfcfglpkgcheiaaDoorEngI
namespace Go.Eng
open Go
set_option linter.unusedSectionVars false
variable [PlanTab]
set_option linter.unusedSimpArgs false
set_option linter.unusedVariables false

abbrev Callee := Value → List Value → AW → Option (Value × AW)
/-- the fences that are used: no fence at all, in a function's frame or in a round's -/
def FE (ro : Option Nat) : Fence := { Fence.wide with round := ro }

noncomputable def aBuiltin (P : Program) (o : Oper) (b : Builtin) (argTypes : Array TypeId) (args : List Value) (R : PlanTab.Fr) (W : AW) : Option (Value × AW) :=
  match b, args with
  | .len, [.slice _ n _] => match (argTypes[0]?).bind P.underlying with
    | some (.slice _) => some (goInt n, W)
    | _ => none
  | .len, [.map none] => match (argTypes[0]?).bind P.underlying with
    | some (.map _ _) => some (goInt 0, W)
    | _ => none
  | .len, [.map (some r)] => match (argTypes[0]?).bind P.underlying, W.get r with
    | some (.map _ _), some (.map es _) => some (goInt es.length, W)
    | _, _ => none
  | .append, [s, x] => aAppend P W argTypes s x
  | .copy, [d, x] => aCopy P W argTypes d x
  | .clear, [x] => (aClear P W argTypes x).map fun W' => (.tuple #[], W')
  | .delete, [m, k] => (aDelete P W argTypes m k).map fun W' => (.tuple #[], W')
  | _, _ => (aPure P R o).map fun v => (v, W)

def methodOf (P : Program) (t : TypeId) (name : String) : Option FuncId :=
  match P.info? t, P.underlying t with
  | some i, some d => match i.methods.find? (·.name == name) with
    | some m => match m.path.toList, m.func, d with
      | [], some (f, true), .pointer _ => if 0 < P.types.size then some f else none
      | _, _, _ => none
    | none => none
  | _, _ => none

noncomputable def aOpS (P : Program) (call : Callee) (o : Oper) (R : PlanTab.Fr) (W : AW) : Option (Value × AW) :=
  match o.op with
  | .call c => match c.callee with
    | .builtin b => aBuiltin P o b c.argTypes (c.args.toList.map (aEval R)) R W
    | .value f => call (aEval R f) (c.args.toList.map (aEval R)) W
    | .invoke r name => match aEval R r with
      | .iface t v => match methodOf P t name with
        | some f => call (.func (.func f) #[] #[]) (v :: c.args.toList.map (aEval R)) W
        | none => none
      | _ => none
  | _ => aOp P o R W

/- what a value is, told without a match: so the kernel copies little -/
noncomputable def vPtr : Value → Option Addr := Value.rec (motive_1 := fun _ => Option Addr) (motive_2 := fun _ => PUnit) (motive_3 := fun _ => PUnit) (fun _ => none) (fun _ _ => none) (fun _ _ => none) (fun _ _ _ => none) (fun _ => none) (fun a => a) (fun _ _ _ => none) (fun _ => none) (fun _ => none) (fun _ _ _ _ _ => none) (none) (fun _ _ _ => none) (none) (fun _ _ => none) (fun _ _ => none) (fun _ _ => .unit) .unit (fun _ _ _ _ => .unit)
noncomputable def vBool : Value → Option Bool := Value.rec (motive_1 := fun _ => Option Bool) (motive_2 := fun _ => PUnit) (motive_3 := fun _ => PUnit) (fun b => some b) (fun _ _ => none) (fun _ _ => none) (fun _ _ _ => none) (fun _ => none) (fun _ => none) (fun _ _ _ => none) (fun _ => none) (fun _ => none) (fun _ _ _ _ _ => none) (none) (fun _ _ _ => none) (none) (fun _ _ => none) (fun _ _ => none) (fun _ _ => .unit) .unit (fun _ _ _ _ => .unit)
noncomputable def vInt : Value → Option (IntKind × Int) := Value.rec (motive_1 := fun _ => Option (IntKind × Int)) (motive_2 := fun _ => PUnit) (motive_3 := fun _ => PUnit) (fun _ => none) (fun k n => some (k, n)) (fun _ _ => none) (fun _ _ _ => none) (fun _ => none) (fun _ => none) (fun _ _ _ => none) (fun _ => none) (fun _ => none) (fun _ _ _ _ _ => none) (none) (fun _ _ _ => none) (none) (fun _ _ => none) (fun _ _ => none) (fun _ _ => .unit) .unit (fun _ _ _ _ => .unit)
noncomputable def vNat : Value → Option Nat := Value.rec (motive_1 := fun _ => Option Nat) (motive_2 := fun _ => PUnit) (motive_3 := fun _ => PUnit) (fun _ => none) (fun _ n => Int.rec (motive := fun _ => Option Nat) (fun n => some n) (fun _ => none) n) (fun _ _ => none) (fun _ _ _ => none) (fun _ => none) (fun _ => none) (fun _ _ _ => none) (fun _ => none) (fun _ => none) (fun _ _ _ _ _ => none) (none) (fun _ _ _ => none) (none) (fun _ _ => none) (fun _ _ => none) (fun _ _ => .unit) .unit (fun _ _ _ _ => .unit)
noncomputable def vSl : Value → Option (Addr × Nat) := Value.rec (motive_1 := fun _ => Option (Addr × Nat)) (motive_2 := fun _ => PUnit) (motive_3 := fun _ => PUnit) (fun _ => none) (fun _ _ => none) (fun _ _ => none) (fun _ _ _ => none) (fun _ => none) (fun _ => none) (fun a l _ => Option.rec (motive := fun _ => Option (Addr × Nat)) none (fun a => some (a, l)) a) (fun _ => none) (fun _ => none) (fun _ _ _ _ _ => none) (none) (fun _ _ _ => none) (none) (fun _ _ => none) (fun _ _ => none) (fun _ _ => .unit) .unit (fun _ _ _ _ => .unit)
noncomputable def vTup : Value → Option (Array Value) := Value.rec (motive_1 := fun _ => Option (Array Value)) (motive_2 := fun _ => PUnit) (motive_3 := fun _ => PUnit) (fun _ => none) (fun _ _ => none) (fun _ _ => none) (fun _ _ _ => none) (fun _ => none) (fun _ => none) (fun _ _ _ => none) (fun _ => none) (fun _ => none) (fun _ _ _ _ _ => none) (none) (fun _ _ _ => none) (none) (fun _ _ => none) (fun v _ => some v) (fun _ _ => .unit) .unit (fun _ _ _ _ => .unit)
theorem natOf_eq (v : Value) : vNat v = natOf v := by cases v <;> first | rfl | (rename_i k n; cases n <;> rfl)
noncomputable def pLoad (P : Program) (W : AW) (t : TypeId) (a : Addr) : Option (Value × AW) :=
  match tAgg P t with
  | some false => match cellsAt W a.block with
    | some cs => (lget cs a.off).map fun v => (v, W)
    | none => none
  | some true => match tSz P t with
    | some n => (readN W a.block a.off n).map fun l => (.agg l.toArray, W)
    | none => none
  | none => none
theorem pLoad_eq (P : Program) (W : AW) (t : TypeId) (v : Value) : (match vPtr v with | some a => pLoad P W t a | none => none) = (aLoad P W t v).map fun v => (v, W) := by
  cases v with
  | pointer a =>
    cases a with
    | none => rfl
    | some a =>
      show pLoad P W t a = _
      unfold pLoad aLoad
      cases tAgg P t with
      | none => rfl
      | some b =>
        cases b with
        | false => simp only; cases cellsAt W a.block <;> rfl
        | true =>
          simp only
          cases tSz P t with
          | none => rfl
          | some n => simp only; cases readN W a.block a.off n <;> rfl
  | _ => rfl
noncomputable def pStore (P : Program) (W : AW) (t : TypeId) (a : Addr) (v : Value) : Option (Value × AW) :=
  match tSz P t with
  | some n => if v.cells.size = n then (writeN W a.block a.off v.cells.toList).map fun W' => (undef, W') else none
  | none => none
theorem pStore_eq (P : Program) (W : AW) (t : TypeId) (x v : Value) : (match vPtr x with | some a => pStore P W t a v | none => none) = (aStore P W t x v).map fun W' => (undef, W') := by
  cases x with
  | pointer a =>
    cases a with
    | none => rfl
    | some a =>
      show pStore P W t a v = _
      unfold pStore aStore
      cases tSz P t with
      | none => rfl
      | some n => simp only; split <;> rfl
  | _ => rfl
noncomputable def aIntF : BinOp → IntKind → Int → Int → Option Value := BinOp.rec (motive := fun _ => IntKind → Int → Int → Option Value) (fun k a b => some (forceI k (wrapF k (a + b)))) (fun k a b => some (forceI k (wrapF k (a - b)))) (fun k a b => some (forceI k (wrapF k (a * b)))) (fun _ _ _ => none) (fun _ _ _ => none) (fun _ _ _ => none) (fun _ _ _ => none) (fun _ _ _ => none) (fun _ _ _ => none) (fun _ _ _ => none) (fun _ _ _ => none) (fun _ a b => some (.bool (decide (a = b)))) (fun _ a b => some (.bool (!decide (a = b)))) (fun _ a b => some (.bool (decide (a < b)))) (fun _ a b => some (.bool (decide (a ≤ b)))) (fun _ a b => some (.bool (decide (b < a)))) (fun _ a b => some (.bool (decide (b ≤ a))))
theorem aIntF_eq (op : BinOp) (k : IntKind) (a b : Int) : aIntF op k a b = aInt op k a b := by cases op <;> rfl
noncomputable def pBin (P : Program) (W : AW) (op : BinOp) (t : TypeId) (x y : Value) : Option Value :=
  match vInt x with
  | some (k, a) => match vInt y with
    | some (k', b) => if k = k' then aIntF op k a b else none
    | none => aBin P W op t x y
  | none => aBin P W op t x y
theorem pBin_eq (P : Program) (W : AW) (op : BinOp) (t : TypeId) (x y : Value) : pBin P W op t x y = aBin P W op t x y := by
  cases x with
  | int k a =>
    cases y with
    | int k' b =>
      show (if k = k' then aIntF op k a b else none) = _
      rw [aIntF_eq]; rfl
    | _ => rfl
  | _ => rfl
def fldOff (P : Program) (s : TypeId) (f : Nat) : Option Nat := match P.underlying s with
  | some (.struct fs) => match fs[f]? with
    | some fl => match tSz P fl.type with
      | some (_ + 1) => some fl.offset
      | _ => none
    | none => none
  | _ => none
def idxOf (P : Program) (t : TypeId) : Option (Option Nat × Nat) := match P.underlying t with
  | some (.slice e) => (tSz P e).map fun z => (none, z)
  | some (.array n e) => (tSz P e).map fun z => (some n, z)
  | _ => none
theorem pick_eq {X : Type} (v : Value) (a b : X) : (match vBool v with | some true => some a | some false => some b | none => none) = (match v with | .bool true => some a | .bool false => some b | _ => none) := by
  cases v with
  | bool c => cases c <;> rfl
  | _ => rfl
theorem extract_eq (W : AW) (v : Value) (i : Nat) : (match vTup v with | some vs => (vs[i]?).map fun v => (v, W) | none => none) = (match v with | .tuple vs => (vs[i]?).map fun v => (v, W) | _ => none) := by
  cases v <;> rfl
theorem fieldAddr_eq (P : Program) (W : AW) (s : TypeId) (v : Value) (f : Nat) :
    (match vPtr v with
    | some a => (match fldOff P s f with
      | some k => some (Value.pointer (some (a.add k)), W)
      | none => none)
    | none => none) = (match P.underlying s, v with
    | some (.struct fs), .pointer (some a) => match fs[f]? with
      | some fl => match tSz P fl.type with
        | some (_ + 1) => some (.pointer (some (a.add fl.offset)), W)
        | _ => none
      | none => none
    | _, _ => none) := by
  unfold fldOff
  generalize P.underlying s = u
  have hno : ∀ (o : Option TypeDesc) (v : Value), vPtr v = none → (match o, v with
    | some (.struct fs), .pointer (some a) => match fs[f]? with
      | some fl => match tSz P fl.type with
        | some (_ + 1) => some (Value.pointer (some (a.add fl.offset)), W)
        | _ => none
      | none => none
    | _, _ => none) = none := by
    intro o v hv
    split
    · cases hv
    · rfl
  cases hv : vPtr v with
  | none => exact (hno u v hv).symm
  | some a =>
    obtain rfl : v = .pointer (some a) := by
      cases v with
      | pointer b => cases b with | none => cases hv | some b => injection hv with hv; rw [hv]
      | _ => cases hv
    cases u with
    | none => rfl
    | some d =>
      cases d with
      | struct fs =>
        simp only
        cases fs[f]? with
        | none => rfl
        | some fl =>
          simp only
          cases tSz P fl.type with
          | none => rfl
          | some n => cases n <;> rfl
      | _ => rfl
theorem indexAddr_eq (P : Program) (W : AW) (t : TypeId) (v i : Value) :
    (match idxOf P t with
    | some (none, z) => (match vSl v with
      | some (a, len) => (match vNat i with
        | some n => (match Nat.blt n len with
          | true => some (Value.pointer (some (a.add (n * z))), W)
          | false => none)
        | none => none)
      | none => none)
    | some (some len, z) => (match vPtr v with
      | some a => (match vNat i with
        | some n => (match Nat.blt n len with
          | true => some (.pointer (some (a.add (n * z))), W)
          | false => none)
        | none => none)
      | none => none)
    | none => none) = (match P.underlying t, v, natOf i with
    | some (.slice e), .slice (some a) len _, some n => match tSz P e with
      | some z => if n < len then some (.pointer (some (a.add (n * z))), W) else none
      | none => none
    | some (.array len e), .pointer (some a), some n => match tSz P e with
      | some z => if n < len then some (.pointer (some (a.add (n * z))), W) else none
      | none => none
    | _, _, _ => none) := by
  rw [natOf_eq]
  have key : ∀ (n len : Nat) (u : Option (Value × AW)), (match Nat.blt n len with | true => u | false => none) = if n < len then u else none := by
    intro n len u
    by_cases h : n < len
    · have h1 : Nat.blt n len = true := by rw [Nat.blt_eq]; exact h
      rw [if_pos h, h1]
    · rw [if_neg h]
      cases hb : Nat.blt n len with
      | true => exact absurd (by rw [Nat.blt_eq] at hb; exact hb) h
      | false => rfl
  simp only [key]
  unfold idxOf
  generalize natOf i = k
  generalize P.underlying t = u
  cases u with
  | none => rfl
  | some d =>
    cases d with
    | slice e =>
      cases hz : tSz P e with
      | none => cases v with
        | slice a l c => cases a <;> cases k <;> simp [hz]
        | _ => simp [hz]
      | some z => cases v with
        | slice a l c => cases a <;> cases k <;> simp [hz, vSl]
        | _ => simp [hz, vSl]
    | array n e =>
      cases hz : tSz P e with
      | none => cases v with
        | pointer a => cases a <;> cases k <;> simp [hz]
        | _ => simp [hz]
      | some z => cases v with
        | pointer a => cases a <;> cases k <;> simp [hz, vPtr]
        | _ => simp [hz, vPtr]
    | _ => rfl
/- the operations, each under its own name: so the kernel copies little -/
noncomputable def hMove (x : Operand) (P : Program) (call : Callee) (o : Oper) (R : PlanTab.Fr) (W : AW) : Option (Value × AW) :=
  some (aEval R x, W)
noncomputable def hAssign (x : Operand) (P : Program) (call : Callee) (o : Oper) (R : PlanTab.Fr) (W : AW) : Option (Value × AW) :=
  some (aEval R x, W)
noncomputable def hPick (c : Operand) (a : Operand) (b : Operand) (P : Program) (call : Callee) (o : Oper) (R : PlanTab.Fr) (W : AW) : Option (Value × AW) :=
  match vBool (aEval R c) with
    | some true => some (aEval R a, W)
    | some false => some (aEval R b, W)
    | none => none
noncomputable def hAlloc (t : TypeId) (P : Program) (call : Callee) (o : Oper) (R : PlanTab.Fr) (W : AW) : Option (Value × AW) :=
  match tZero P t with
    | some z => some (W.new (.cells z.cells.toList) fun b W' => (Value.pointer (some ⟨b, 0, none⟩), W'))
    | none => none
noncomputable def hBox (t : TypeId) (x : Operand) (P : Program) (call : Callee) (o : Oper) (R : PlanTab.Fr) (W : AW) : Option (Value × AW) :=
  some (W.new (.cells (aEval R x).cells.toList) fun b W' => (Value.pointer (some ⟨b, 0, none⟩), W'))
noncomputable def hBuild (t : TypeId) (ps : Array (Nat × Operand)) (P : Program) (call : Callee) (o : Oper) (R : PlanTab.Fr) (W : AW) : Option (Value × AW) :=
  (aBuild P R t ps).map fun v => (v, W)
noncomputable def hBuildSlice (t : TypeId) (n : Nat) (ps : Array (Nat × Operand)) (P : Program) (call : Callee) (o : Oper) (R : PlanTab.Fr) (W : AW) : Option (Value × AW) :=
  aBuildSlice P R W t n ps
noncomputable def hInsert (_t : TypeId) (_m : Operand) (_k : Operand) (_v : Operand) (P : Program) (call : Callee) (o : Oper) (R : PlanTab.Fr) (W : AW) : Option (Value × AW) :=
  aOpS P call o R W
noncomputable def hLoad (t : TypeId) (a : Operand) (P : Program) (call : Callee) (o : Oper) (R : PlanTab.Fr) (W : AW) : Option (Value × AW) :=
  match vPtr (aEval R a) with
    | some a => pLoad P W t a
    | none => none
noncomputable def hStore (t : TypeId) (a : Operand) (x : Operand) (P : Program) (call : Callee) (o : Oper) (R : PlanTab.Fr) (W : AW) : Option (Value × AW) :=
  match vPtr (aEval R a) with
    | some a => pStore P W t a (aEval R x)
    | none => none
noncomputable def hReady (_g : Nat) (P : Program) (call : Callee) (o : Oper) (R : PlanTab.Fr) (W : AW) : Option (Value × AW) :=
  aOpS P call o R W
noncomputable def hWaits (_g : Nat) (P : Program) (call : Callee) (o : Oper) (R : PlanTab.Fr) (W : AW) : Option (Value × AW) :=
  aOpS P call o R W
noncomputable def hNilCheck (_x : Operand) (P : Program) (call : Callee) (o : Oper) (R : PlanTab.Fr) (W : AW) : Option (Value × AW) :=
  aOpS P call o R W
noncomputable def hBinOp (op : BinOp) (t : TypeId) (x : Operand) (y : Operand) (yt : TypeId) (P : Program) (call : Callee) (o : Oper) (R : PlanTab.Fr) (W : AW) : Option (Value × AW) :=
  match pBin P W op t (aEval R x) (aEval R y) with
    | some v => some (v, W)
    | none => (aPure P R o).map fun v => (v, W)
noncomputable def hUnOp (op : UnOp) (t : TypeId) (x : Operand) (P : Program) (call : Callee) (o : Oper) (R : PlanTab.Fr) (W : AW) : Option (Value × AW) :=
  (aPure P R o).map fun v => (v, W)
noncomputable def hConvert (s : TypeId) (d : TypeId) (x : Operand) (P : Program) (call : Callee) (o : Oper) (R : PlanTab.Fr) (W : AW) : Option (Value × AW) :=
  (aPure P R o).map fun v => (v, W)
noncomputable def hSliceToArrayPointer (_d : TypeId) (_x : Operand) (P : Program) (call : Callee) (o : Oper) (R : PlanTab.Fr) (W : AW) : Option (Value × AW) :=
  aOpS P call o R W
noncomputable def hMakeInterface (_t : TypeId) (_x : Operand) (P : Program) (call : Callee) (o : Oper) (R : PlanTab.Fr) (W : AW) : Option (Value × AW) :=
  aOpS P call o R W
noncomputable def hMakeFunc (_fn : Fn) (_first : Array Operand) (_captured : Array Operand) (P : Program) (call : Callee) (o : Oper) (R : PlanTab.Fr) (W : AW) : Option (Value × AW) :=
  aOpS P call o R W
noncomputable def hMakeMap (_t : TypeId) (_r : Option Operand) (P : Program) (call : Callee) (o : Oper) (R : PlanTab.Fr) (W : AW) : Option (Value × AW) :=
  aOpS P call o R W
noncomputable def hMakeChan (_t : TypeId) (_s : Operand) (P : Program) (call : Callee) (o : Oper) (R : PlanTab.Fr) (W : AW) : Option (Value × AW) :=
  aOpS P call o R W
noncomputable def hMakeSlice (t : TypeId) (l : Operand) (c : Operand) (P : Program) (call : Callee) (o : Oper) (R : PlanTab.Fr) (W : AW) : Option (Value × AW) :=
  aMakeSlice P W t (aEval R l) (aEval R c)
noncomputable def hSlice (t : TypeId) (x : Operand) (lo : Option Operand) (hi : Option Operand) (mx : Option Operand) (P : Program) (call : Callee) (o : Oper) (R : PlanTab.Fr) (W : AW) : Option (Value × AW) :=
  match aSlice P t (aEval R x) (lo.map (aEval R)) (hi.map (aEval R)) (mx.map (aEval R)) with
    | some v => some (v, W)
    | none => (aPure P R o).map fun v => (v, W)
noncomputable def hFieldAddr (s : TypeId) (x : Operand) (f : Nat) (P : Program) (call : Callee) (o : Oper) (R : PlanTab.Fr) (W : AW) : Option (Value × AW) :=
  match vPtr (aEval R x) with
    | some a => (match fldOff P s f with
      | some k => some (.pointer (some (a.add k)), W)
      | none => none)
    | none => none
noncomputable def hField (t : TypeId) (x : Operand) (f : Nat) (P : Program) (call : Callee) (o : Oper) (R : PlanTab.Fr) (W : AW) : Option (Value × AW) :=
  match P.underlying t, aEval R x with
    | some (.struct fs), .agg cs => match fs[f]? with
      | some fl => (aPart P fl.type cs fl.offset).map fun v => (v, W)
      | none => none
    | _, _ => none
noncomputable def hIndexAddr (t : TypeId) (x : Operand) (i : Operand) (P : Program) (call : Callee) (o : Oper) (R : PlanTab.Fr) (W : AW) : Option (Value × AW) :=
  match idxOf P t with
    | some (none, z) => (match vSl (aEval R x) with
      | some (a, len) => (match vNat (aEval R i) with
        | some n => (match Nat.blt n len with
          | true => some (.pointer (some (a.add (n * z))), W)
          | false => none)
        | none => none)
      | none => none)
    | some (some len, z) => (match vPtr (aEval R x) with
      | some a => (match vNat (aEval R i) with
        | some n => (match Nat.blt n len with
          | true => some (.pointer (some (a.add (n * z))), W)
          | false => none)
        | none => none)
      | none => none)
    | none => none
noncomputable def hIndex (_t : TypeId) (_x : Operand) (_i : Operand) (P : Program) (call : Callee) (o : Oper) (R : PlanTab.Fr) (W : AW) : Option (Value × AW) :=
  aOpS P call o R W
noncomputable def hLookup (t : TypeId) (m : Operand) (k : Operand) (ok : Bool) (P : Program) (call : Callee) (o : Oper) (R : PlanTab.Fr) (W : AW) : Option (Value × AW) :=
  (aLookup P W t (aEval R m) (aEval R k) ok).map fun v => (v, W)
noncomputable def hMapUpdate (t : TypeId) (m : Operand) (k : Operand) (v : Operand) (P : Program) (call : Callee) (o : Oper) (R : PlanTab.Fr) (W : AW) : Option (Value × AW) :=
  (aMapUpdate P W t (aEval R m) (aEval R k) (aEval R v)).map fun W' => (undef, W')
noncomputable def hMapEntry (_t : TypeId) (_m : Operand) (_k : Operand) (P : Program) (call : Callee) (o : Oper) (R : PlanTab.Fr) (W : AW) : Option (Value × AW) :=
  aOpS P call o R W
noncomputable def hEntryStore (_t : TypeId) (_m : Operand) (_s : Operand) (_v : Operand) (P : Program) (call : Callee) (o : Oper) (R : PlanTab.Fr) (W : AW) : Option (Value × AW) :=
  aOpS P call o R W
noncomputable def hRange (_t : TypeId) (_x : Operand) (P : Program) (call : Callee) (o : Oper) (R : PlanTab.Fr) (W : AW) : Option (Value × AW) :=
  aOpS P call o R W
noncomputable def hNext (_it : Operand) (_s : Bool) (P : Program) (call : Callee) (o : Oper) (R : PlanTab.Fr) (W : AW) : Option (Value × AW) :=
  aOpS P call o R W
noncomputable def hEntry (_it : Operand) (P : Program) (call : Callee) (o : Oper) (R : PlanTab.Fr) (W : AW) : Option (Value × AW) :=
  aOpS P call o R W
noncomputable def hTypeAssert (_x : Operand) (_t : TypeId) (_a : TypeId) (_ok : Bool) (P : Program) (call : Callee) (o : Oper) (R : PlanTab.Fr) (W : AW) : Option (Value × AW) :=
  aOpS P call o R W
noncomputable def hExtract (x : Operand) (i : Nat) (P : Program) (call : Callee) (o : Oper) (R : PlanTab.Fr) (W : AW) : Option (Value × AW) :=
  match vTup (aEval R x) with
    | some vs => (vs[i]?).map fun v => (v, W)
    | none => none
noncomputable def hCall (c : Call) (P : Program) (call : Callee) (o : Oper) (R : PlanTab.Fr) (W : AW) : Option (Value × AW) :=
  match c.callee with
    | .builtin b => aBuiltin P o b c.argTypes (c.args.toList.map (aEval R)) R W
    | .value f => call (aEval R f) (c.args.toList.map (aEval R)) W
    | .invoke r name => match aEval R r with
      | .iface t v => match methodOf P t name with
        | some f => call (.func (.func f) #[] #[]) (v :: c.args.toList.map (aEval R)) W
        | none => none
      | _ => none
noncomputable def hGo (_c : Call) (P : Program) (call : Callee) (o : Oper) (R : PlanTab.Fr) (W : AW) : Option (Value × AW) :=
  aOpS P call o R W
noncomputable def hDefer (_c : Call) (P : Program) (call : Callee) (o : Oper) (R : PlanTab.Fr) (W : AW) : Option (Value × AW) :=
  aOpS P call o R W
noncomputable def hPanic (_x : Operand) (P : Program) (call : Callee) (o : Oper) (R : PlanTab.Fr) (W : AW) : Option (Value × AW) :=
  aOpS P call o R W
noncomputable def hSend (_c : Operand) (_x : Operand) (P : Program) (call : Callee) (o : Oper) (R : PlanTab.Fr) (W : AW) : Option (Value × AW) :=
  aOpS P call o R W
noncomputable def hRecv (_t : TypeId) (_c : Operand) (_ok : Bool) (P : Program) (call : Callee) (o : Oper) (R : PlanTab.Fr) (W : AW) : Option (Value × AW) :=
  aOpS P call o R W
noncomputable def hSelect (_cs : Array SelectCase) (_bl : Bool) (P : Program) (call : Callee) (o : Oper) (R : PlanTab.Fr) (W : AW) : Option (Value × AW) :=
  aOpS P call o R W
noncomputable def aOpF : Op → Program → Callee → Oper → PlanTab.Fr → AW → Option (Value × AW) :=
  Op.rec (motive := fun _ => Program → Callee → Oper → PlanTab.Fr → AW → Option (Value × AW)) hMove hAssign hPick hAlloc hBox hBuild hBuildSlice hInsert hLoad hStore hReady hWaits hNilCheck hBinOp hUnOp hConvert hSliceToArrayPointer hMakeInterface hMakeFunc hMakeMap hMakeChan hMakeSlice hSlice hFieldAddr hField hIndexAddr hIndex hLookup hMapUpdate hMapEntry hEntryStore hRange hNext hEntry hTypeAssert hExtract hCall hGo hDefer hPanic hSend hRecv hSelect
noncomputable def aOpC (P : Program) (call : Callee) (o : Oper) (R : PlanTab.Fr) (W : AW) : Option (Value × AW) := aOpF o.op P call o R W
theorem aOpC_eq (P : Program) (call : Callee) (o : Oper) (R : PlanTab.Fr) (W : AW) : aOpC P call o R W = aOpS P call o R W := by
  obtain ⟨dst, op, type, pos, after, guard⟩ := o
  cases op with
  | pick c a b => exact pick_eq (aEval R c) _ _
  | load t a => exact pLoad_eq P W t (aEval R a)
  | store t a x => exact pStore_eq P W t (aEval R a) (aEval R x)
  | binOp op t x y yt =>
    show hBinOp op t x y yt P call ⟨dst, .binOp op t x y yt, type, pos, after, guard⟩ R W = _
    unfold hBinOp
    rw [pBin_eq]
    rfl
  | extract x i => exact extract_eq W (aEval R x) i
  | fieldAddr s x f => exact fieldAddr_eq P W s (aEval R x) f
  | indexAddr t x i => exact indexAddr_eq P W t (aEval R x) (aEval R i)
  | _ => rfl

/-- a call of a function's value: it returns, and R holds -/
def CallV (P : Program) (f' : Value) (args' : List Value) (w : World) (R : Value → World → Prop) : Prop :=
  match f' with
  | .func (.func i) fs cs => (callFunc i (fs ++ args'.toArray ++ cs)).run P w = .ok (.enter i (fs ++ args'.toArray ++ cs)) w ∧
      CallsIn (FE none) 0 P i (fs ++ args'.toArray ++ cs) w (fun e w' => ∃ v, e = .returned v ∧ R v w')
  | .func (.yield l) fs _ => ∃ f tmps as bd, (Instr.yield l (fs ++ args'.toArray)).run P w = .ok (.round l f tmps as bd) w ∧
      RoundIn (FE none) 0 P l f tmps as bd w (fun e w' => ∃ v, e = .returned v ∧ R v w')
  | _ => False

def CalleeOK (P : Program) (ng : List Nat) (call : Callee) : Prop :=
  ∀ f args W v W', call f args W = some (v, W') → ∀ σ w f' args', WRel σ W w.heap → Glob σ ng → VR σ f f' → LR σ args args' →
    CallV P f' args' w (fun v' w' => ∃ σ', VR σ' v v' ∧ WRel σ' W' w'.heap ∧ Ext σ W w σ' W' w')

section
variable {P : Program} {σ : Inj} {W : AW} {w : World}

theorem aBuiltin_run (hW : WRel σ W w.heap) {b : Builtin} {R : PlanTab.Fr} {ρ : Operand → Value} {v : Value} {W' : AW} {dst : Option Tmp} {type : TypeId} {pos : String} {after : Array Edge} {guard : Option (Nat × Bool)} {args : Array Operand} {argTypes : Array TypeId}
    (h : aBuiltin P { dst, op := .call { callee := .builtin b, args, argTypes }, type, pos, after, guard } b argTypes (args.toList.map (aEval R)) R W = some (v, W')) (hρ : ∀ x ∈ args, VR σ (aEval R x) (ρ x)) :
    Does P σ W w (execOp ρ { dst, op := .call { callee := .builtin b, args, argTypes }, type, pos, after, guard }) v W' := by
  have hmap : ∀ (x : Option Value), (x.map fun v => (v, W)) = some (v, W') → x = some v ∧ W' = W := by
    intro x hx
    cases x with
    | none => cases hx
    | some u => simp at hx; exact ⟨by rw [hx.1], hx.2.symm⟩
  have hmapT : ∀ (x : Option AW), (x.map fun W' => (Value.tuple #[], W')) = some (v, W') → x = some W' ∧ v = .tuple #[] := by
    intro x hx
    cases x with
    | none => cases hx
    | some u => simp at hx; exact ⟨by rw [hx.2], hx.1.symm⟩
  have hex : execOp ρ { dst, op := .call { callee := .builtin b, args, argTypes }, type, pos, after, guard } = builtin b argTypes type (args.map fun | .const _ => true | _ => false) (args.map ρ) := by
    simp [execOp, resolve, invoke]
    rfl
  have hargs : LR σ (args.toList.map (aEval R)) (args.map ρ).toList := by
    have := arr_map args hρ
    simpa using this
  unfold aBuiltin at h
  split at h
  · rename_i A n c heq
    rw [heq] at hargs
    obtain ⟨x', l', e1, hx, hl⟩ := hargs.of_cons
    have := hl.of_nil
    subst this
    have e2 : args.map ρ = #[x'] := by rw [← Array.toArray_toList (xs := args.map ρ), e1]
    split at h
    · rename_i e hu
      injection h with h; injection h with h1 h2; subst h1; subst h2
      rw [hex, e2]
      cases ha : argTypes[0]? with
      | none => rw [ha] at hu; cases hu
      | some t =>
        rw [ha] at hu
        simp only [Option.bind_some] at hu
        refine .value (s := Builtin.len_ argTypes type #[x']) rfl hW (v' := goInt n) ?_ (.int _ _)
        cases hx <;> simp [Builtin.len_, ha, run_underlying hu]
    · cases h
  · rename_i heq
    rw [heq] at hargs
    obtain ⟨x', l', e1, hx, hl⟩ := hargs.of_cons
    have := hl.of_nil
    subst this
    have e2 : args.map ρ = #[x'] := by rw [← Array.toArray_toList (xs := args.map ρ), e1]
    split at h
    · rename_i k e hu
      injection h with h; injection h with h1 h2; subst h1; subst h2
      rw [hex, e2]
      cases ha : argTypes[0]? with
      | none => rw [ha] at hu; cases hu
      | some t =>
        rw [ha] at hu
        simp only [Option.bind_some] at hu
        refine .value (s := Builtin.len_ argTypes type #[x']) rfl hW (v' := goInt 0) ?_ (.int _ _)
        cases hx
        simp [Builtin.len_, ha, run_underlying hu]
    · cases h
  · rename_i r heq
    rw [heq] at hargs
    obtain ⟨x', l', e1, hx, hl⟩ := hargs.of_cons
    have := hl.of_nil
    subst this
    have e2 : args.map ρ = #[x'] := by rw [← Array.toArray_toList (xs := args.map ρ), e1]
    split at h
    · rename_i k e es c hu hr
      injection h with h; injection h with h1 h2; subst h1; subst h2
      rw [hex, e2]
      cases ha : argTypes[0]? with
      | none => rw [ha] at hu; cases hu
      | some t =>
        rw [ha] at hu
        simp only [Option.bind_some] at hu
        cases hx with
        | map _ g hg =>
          obtain ⟨_, _, es', g3, g4⟩ := map_obj hW hr hg
          refine .value (s := Builtin.len_ argTypes type #[.map (some g.B)]) rfl hW (v' := goInt es.length) ?_ (.int _ _)
          have hlen : es'.size = es.length := by have := g4.1; simp at this; omega
          simp [Builtin.len_, ha, run_underlying hu, run_getObj_map g3, hlen]
    · cases h
  · rename_i s x heq
    rw [heq] at hargs
    obtain ⟨s', l', e1, hs, hl⟩ := hargs.of_cons
    obtain ⟨x', l'', e3, hx, hl2⟩ := hl.of_cons
    have := hl2.of_nil
    subst this
    subst e3
    have e2 : args.map ρ = #[s', x'] := by rw [← Array.toArray_toList (xs := args.map ρ), e1]
    rw [hex, e2]
    exact .value' (s := Builtin.append_ argTypes type #[s', x']) rfl (aAppend_run hW h hs hx)
  · rename_i s x heq
    rw [heq] at hargs
    obtain ⟨s', l', e1, hs, hl⟩ := hargs.of_cons
    obtain ⟨x', l'', e3, hx, hl2⟩ := hl.of_cons
    have := hl2.of_nil
    subst this
    subst e3
    have e2 : args.map ρ = #[s', x'] := by rw [← Array.toArray_toList (xs := args.map ρ), e1]
    rw [hex, e2]
    obtain ⟨v', w', a, b, c, d⟩ := aCopy_run (ty := type) hW h hs hx
    exact .value' (s := Builtin.copy_ argTypes type #[s', x']) rfl ⟨σ, v', w', a, b, c, d⟩
  · rename_i x heq
    rw [heq] at hargs
    obtain ⟨x', l', e1, hx, hl⟩ := hargs.of_cons
    have := hl.of_nil
    subst this
    have e2 : args.map ρ = #[x'] := by rw [← Array.toArray_toList (xs := args.map ρ), e1]
    rw [hex, e2]
    obtain ⟨hc, rfl⟩ := hmapT _ h
    obtain ⟨w', a, b, c⟩ := aClear_run (ty := type) hW hc hx
    exact .value' (s := Builtin.clear_ argTypes type #[x']) rfl ⟨σ, .tuple #[], w', a, .undef, b, c⟩
  · rename_i s x heq
    rw [heq] at hargs
    obtain ⟨s', l', e1, hs, hl⟩ := hargs.of_cons
    obtain ⟨x', l'', e3, hx, hl2⟩ := hl.of_cons
    have := hl2.of_nil
    subst this
    subst e3
    have e2 : args.map ρ = #[s', x'] := by rw [← Array.toArray_toList (xs := args.map ρ), e1]
    rw [hex, e2]
    obtain ⟨hc, rfl⟩ := hmapT _ h
    obtain ⟨w', a, b, c⟩ := aDelete_run (ty := type) hW hc hs hx
    exact .value' (s := Builtin.delete_ argTypes type #[s', x']) rfl ⟨σ, .tuple #[], w', a, .undef, b, c⟩
  · obtain ⟨hb, rfl⟩ := hmap _ h
    exact .pure_ hW hb (fun x hx => by
      simp only [Op.operands, Call.operands] at hx
      exact hρ x (by simpa using hx))

theorem method_run {t : TypeId} {name : String} {f : FuncId} (h : methodOf P t name = some f) (v : Value) (w : World) : (method (P.types.size + Made.depth) t v name).run P w = .ok (f, v) w := by
  unfold methodOf at h
  split at h
  · rename_i i d hi hd
    split at h
    · rename_i m hm
      split at h
      · rename_i g e hp hf
        split at h
        · rename_i h0
          injection h with h
          subst h
          obtain ⟨n, hn⟩ : ∃ n, P.types.size + Made.depth = n + 1 := ⟨P.types.size + Made.depth - 1, by omega⟩
          rw [hn]
          simp [method, typeInfo, hi, hm, hp, follow, hf, receiverAt, run_underlying hd, Place.get]
        · cases h
      · cases h
    · cases h
  · cases h

theorem FE_fn (ro : Option Nat) (f : FuncId) : (FE ro).fn f := trivial
theorem FE_depth (ro : Option Nat) : (FE ro).depth = none := rfl
theorem callsIn_FE {ro ro' : Option Nat} {n : Nat} {f : FuncId} {args : Array Value} {w : World} {R : Ending → World → Prop} (h : CallsIn (FE ro) n P f args w R) : CallsIn (FE ro') n P f args w R := h
theorem roundIn_FE {ro ro' : Option Nat} {n l : Nat} {f : FuncId} {tmps : Array Value} {as bd : Code} {w : World} {R : Ending → World → Prop} (h : RoundIn (FE ro) n P l f tmps as bd w R) : RoundIn (FE ro') n P l f tmps as bd w R := h

theorem wpIn_does {ro : Option Nat} {o : Oper} {a : Act} {v : Value} {W' : AW} {next : Act → World → Prop} {Q : Exit → Act → World → Prop} (hnd : ∀ c, o.op ≠ .defer c) (h : Does P σ W w (execOp a.eval o) v W')
    (hn : ∀ σ' v' w', VR σ' v v' → WRel σ' W' w'.heap → Ext σ W w σ' W' w' → next (a.put o.dst v') w') : o.wpIn (FE ro) 0 P a w next Q := by
  refine ⟨fun f _ => trivial, ?_⟩
  rw [Oper.semAt_eq _ _ _ hnd]
  obtain ⟨σ', nx, v', w', hr, hx, h1, h2, h3⟩ := h
  rw [hr]
  rcases hx with rfl | ⟨rfl, rfl⟩
  · exact hn σ' v' w' h1 h2 h3
  · exact hn σ' undef w' h1 h2 h3

theorem wpIn_callV {ro : Option Nat} {o : Oper} {a : Act} {v : Value} {W' : AW} {next : Act → World → Prop} {Q : Exit → Act → World → Prop} {f' : Value} {args' : List Value} (hnd : ∀ c, o.op ≠ .defer c)
    (hf : ∀ i fs cs, f' = .func (.func i) fs cs → (execOp a.eval o).run P w = (callFunc i (fs ++ args'.toArray ++ cs)).run P w)
    (hy : ∀ l fs cs, f' = .func (.yield l) fs cs → (execOp a.eval o).run P w = (Instr.yield l (fs ++ args'.toArray)).run P w)
    (h : CallV P f' args' w (fun v' w' => ∃ σ', VR σ' v v' ∧ WRel σ' W' w'.heap ∧ Ext σ W w σ' W' w'))
    (hn : ∀ σ' v' w', VR σ' v v' → WRel σ' W' w'.heap → Ext σ W w σ' W' w' → next (a.put o.dst v') w') : o.wpIn (FE ro) 0 P a w next Q := by
  refine ⟨fun f _ => trivial, ?_⟩
  rw [Oper.semAt_eq _ _ _ hnd]
  unfold CallV at h
  split at h
  · rename_i i fs cs
    obtain ⟨h1, h2⟩ := h
    rw [hf i fs cs rfl, h1]
    refine ⟨fun hd => by rw [FE_depth] at hd; simp at hd, ?_⟩
    refine CallsIn.mono (callsIn_FE h2) ?_
    rintro e w' ⟨u, rfl, σ', k1, k2, k3⟩
    exact hn σ' u w' k1 k2 k3
  · rename_i l fs cs
    obtain ⟨f, tmps, as, bd, h1, h2⟩ := h
    rw [hy l fs cs rfl, h1]
    refine ⟨fun hd => by rw [FE_depth] at hd; simp at hd, ?_⟩
    refine RoundIn.mono (roundIn_FE h2) ?_
    rintro e w' ⟨u, rfl, σ', k1, k2, k3⟩
    exact hn σ' u w' k1 k2 k3
  · exact h.elim

theorem aOpC_wp {ng : List Nat} {call : Callee} (hc : CalleeOK P ng call) (hW : WRel σ W w.heap) (hG : Glob σ ng) {ro : Option Nat} {o : Oper} {R : PlanTab.Fr} {a : Act} {v : Value} {W' : AW} {next : Act → World → Prop} {Q : Exit → Act → World → Prop}
    (h : aOpC P call o R W = some (v, W')) (hρ : ∀ x ∈ o.op.operands, VR σ (aEval R x) (a.eval x))
    (hn : ∀ σ' v' w', VR σ' v v' → WRel σ' W' w'.heap → Ext σ W w σ' W' w' → next (a.put o.dst v') w') : o.wpIn (FE ro) 0 P a w next Q := by
  rw [aOpC_eq] at h
  unfold aOpS at h
  split at h
  · rename_i c hop
    obtain ⟨dst, op, type, pos, after, guard⟩ := o
    simp only at hop
    subst hop
    obtain ⟨callee, args, argTypes⟩ := c
    have hargs : ∀ x ∈ args, VR σ (aEval R x) (a.eval x) := fun x hx => hρ x (by simp [Op.operands, Call.operands, hx])
    have hl : LR σ (args.toList.map (aEval R)) (args.map a.eval).toList := by simpa using arr_map args hargs
    split at h
    · rename_i b hb
      simp only at hb h
      subst hb
      exact wpIn_does (fun _ hx => by cases hx) (aBuiltin_run hW h hargs) hn
    · rename_i f hb
      simp only at hb h
      subst hb
      have hf := hρ f (by simp [Op.operands, Call.operands])
      refine wpIn_callV (fun _ hx => by cases hx) ?_ ?_ (hc _ _ _ _ _ h σ w _ _ hW hG hf hl) hn
      · intro i fs cs e
        rw [Array.toArray_toList]
        simp [execOp, resolve, e, Deferred.ofValue, invoke]
      · intro l fs cs e
        rw [Array.toArray_toList]
        simp [execOp, resolve, e, Deferred.ofValue, invoke]
    · rename_i r name hb
      simp only at hb h
      subst hb
      have hr := hρ r (by simp [Op.operands, Call.operands])
      split at h
      · rename_i t u hre
        rw [hre] at hr
        obtain ⟨u', hu, e⟩ := hr.iface_inv
        split at h
        · rename_i f hm
          refine wpIn_callV (f' := .func (.func f) #[] #[]) (args' := u' :: (args.map a.eval).toList) (fun _ hx => by cases hx) ?_ ?_ (hc _ _ _ _ _ h σ w _ _ hW hG (.func _ _ _ _ _ _ (.func f) rfl (fun i v v' x => by simp at x) rfl (fun i v v' x => by simp at x)) (.cons hu hl)) hn
          · intro i fs cs e'
            injection e' with e1 e2 e3
            injection e1 with e1
            subst e1; subst e2; subst e3
            have hx : (#[a.eval r] ++ args.map a.eval).extract 1 (args.size + 1) = args.map a.eval := by
              apply Array.toList_inj.1
              simp [List.extract_eq_take_drop]
              exact List.take_of_length_le (by simp)
            have h0 : (#[a.eval r] ++ args.map a.eval)[0]? = some (.iface t u') := by
              rw [Array.getElem?_append]; simp [e]
            have hsz : (#[a.eval r] ++ args.map a.eval).size = args.size + 1 := by simp; omega
            have hgo : (invoke (.fn (.method name) #[]) (#[a.eval r] ++ args.map a.eval)).run P w = (callFunc f (#[u'] ++ args.map a.eval)).run P w := by
              rw [show invoke (.fn (.method name) #[]) (#[a.eval r] ++ args.map a.eval) = (match (#[a.eval r] ++ args.map a.eval)[0]? with | some recv => callMethod recv name ((#[a.eval r] ++ args.map a.eval).extract 1 (#[a.eval r] ++ args.map a.eval).size) | none => stuck "call: a method without a receiver") from by unfold invoke; split <;> simp_all]
              rw [h0]
              simp only [hsz, hx, callMethod, Sem.run_bind, run_program, Result.andThen_ok, method_run hm u' w]
            have e3 : (#[] : Array Value) ++ (u' :: (args.map a.eval).toList).toArray ++ #[] = #[u'] ++ args.map a.eval := by
              apply Array.toList_inj.1
              simp
            rw [e3, ← hgo]
            simp [execOp, resolve]
          · intro l fs cs e'
            injection e' with e1 e2 e3
            cases e1
        · cases h
      · cases h
  · rename_i hnc
    refine wpIn_does ?_ (aOp_run hW h hρ) hn
    intro c hx
    unfold aOp at h
    rw [hx] at h
    cases h
end
end Go.Eng
