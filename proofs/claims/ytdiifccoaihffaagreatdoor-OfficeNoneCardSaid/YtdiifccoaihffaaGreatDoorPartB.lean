/- A part: contracts and laws. -/
import Derived.Test.YtdiifccoaihffaaGreatDoorPartA
import Derived.LoopNIn
import Derived.RangeFuncRecord
import Derived.RowKit
import Derived.RowKit3
import Derived.ProofKit
import Derived.OpenShut
import Derived.Maps.RangeWalk
import Derived.Orders
import Derived.Sort.Grow
import Derived.ChangeArms
import Derived.ReadAgain
set_option linter.unusedSectionVars false
set_option linter.unusedVariables false
namespace Go.Eng
open Go
section
variable [PlanTab]
set_option linter.unusedVariables false

abbrev Callee := Value → List Value → AW → Option (Value × AW)
def FE (ro : Option Nat) : Fence := { Fence.wide with round := ro }

noncomputable def aBuiltin (P : Program) (o : Oper) (b : Builtin) (argTypes : Array TypeId) (args : List Value) (R : PlanTab.Fr) (W : AW) : Option (Value × AW) :=
  match b, args with
  | .len, [.slice _ n _] => match (argTypes[0]?).bind P.underlying with
    | some (.slice _) => some (goInt n, W)
    | _ => none
  | .len, [.map none] => match (argTypes[0]?).bind P.underlying with
    | some (.map _ _) => some (goInt 0, W)
    | _ => none
  | .len, [.map (some r)] => match (argTypes[0]?).bind P.underlying, W.get r with
    | some (.map _ _), some (.map es _) => some (goInt es.length, W)
    | _, _ => none
  | .append, [s, x] => aAppend2 P W argTypes s x
  | .copy, [d, x] => aCopy P W argTypes d x
  | .clear, [x] => (aClear P W argTypes x).map fun W' => (.tuple #[], W')
  | .delete, [m, k] => (aDelete P W argTypes m k).map fun W' => (.tuple #[], W')
  | .unsafeSliceData, [x] => (aSliceData x).map fun v => (v, W)
  | .unsafeString, [p, n] => aUnsafeString P W argTypes p n
  | _, _ => (aPure P R o).map fun v => (v, W)

def methodOf (P : Program) (t : TypeId) (name : String) : Option FuncId :=
  match P.info? t, P.underlying t with
  | some i, some d => match i.methods.find? (·.name == name) with
    | some m => match m.path.toList, m.func, d with
      | [], some (f, true), .pointer _ => if 0 < P.types.size then some f else none
      | _, _, _ => none
    | none => none
  | _, _ => none

noncomputable def aOpS (P : Program) (call : Callee) (o : Oper) (R : PlanTab.Fr) (W : AW) : Option (Value × AW) :=
  match o.op with
  | .call c => match c.callee with
    | .builtin b => aBuiltin P o b c.argTypes (c.args.toList.map (aEval R)) R W
    | .value f => call (aEval R f) (c.args.toList.map (aEval R)) W
    | .invoke r name => match aEval R r with
      | .iface t v => match methodOf P t name with
        | some f => call (.func (.func f) #[] #[]) (v :: c.args.toList.map (aEval R)) W
        | none => none
      | _ => none
  | _ => aOp P o R W

/- what a value is, told without a match: so the kernel copies little -/
noncomputable def vPtr : Value → Option Addr := Value.rec (motive_1 := fun _ => Option Addr) (motive_2 := fun _ => PUnit) (motive_3 := fun _ => PUnit) (fun _ => none) (fun _ _ => none) (fun _ _ => none) (fun _ _ _ => none) (fun _ => none) (fun a => a) (fun _ _ _ => none) (fun _ => none) (fun _ => none) (fun _ _ _ _ _ => none) (none) (fun _ _ _ => none) (none) (fun _ _ => none) (fun _ _ => none) (fun _ _ => .unit) .unit (fun _ _ _ _ => .unit)
noncomputable def vBool : Value → Option Bool := Value.rec (motive_1 := fun _ => Option Bool) (motive_2 := fun _ => PUnit) (motive_3 := fun _ => PUnit) (fun b => some b) (fun _ _ => none) (fun _ _ => none) (fun _ _ _ => none) (fun _ => none) (fun _ => none) (fun _ _ _ => none) (fun _ => none) (fun _ => none) (fun _ _ _ _ _ => none) (none) (fun _ _ _ => none) (none) (fun _ _ => none) (fun _ _ => none) (fun _ _ => .unit) .unit (fun _ _ _ _ => .unit)
noncomputable def vInt : Value → Option (IntKind × Int) := Value.rec (motive_1 := fun _ => Option (IntKind × Int)) (motive_2 := fun _ => PUnit) (motive_3 := fun _ => PUnit) (fun _ => none) (fun k n => some (k, n)) (fun _ _ => none) (fun _ _ _ => none) (fun _ => none) (fun _ => none) (fun _ _ _ => none) (fun _ => none) (fun _ => none) (fun _ _ _ _ _ => none) (none) (fun _ _ _ => none) (none) (fun _ _ => none) (fun _ _ => none) (fun _ _ => .unit) .unit (fun _ _ _ _ => .unit)
noncomputable def vNat : Value → Option Nat := Value.rec (motive_1 := fun _ => Option Nat) (motive_2 := fun _ => PUnit) (motive_3 := fun _ => PUnit) (fun _ => none) (fun _ n => Int.rec (motive := fun _ => Option Nat) (fun n => some n) (fun _ => none) n) (fun _ _ => none) (fun _ _ _ => none) (fun _ => none) (fun _ => none) (fun _ _ _ => none) (fun _ => none) (fun _ => none) (fun _ _ _ _ _ => none) (none) (fun _ _ _ => none) (none) (fun _ _ => none) (fun _ _ => none) (fun _ _ => .unit) .unit (fun _ _ _ _ => .unit)
noncomputable def vSl : Value → Option (Addr × Nat) := Value.rec (motive_1 := fun _ => Option (Addr × Nat)) (motive_2 := fun _ => PUnit) (motive_3 := fun _ => PUnit) (fun _ => none) (fun _ _ => none) (fun _ _ => none) (fun _ _ _ => none) (fun _ => none) (fun _ => none) (fun a l _ => Option.rec (motive := fun _ => Option (Addr × Nat)) none (fun a => some (a, l)) a) (fun _ => none) (fun _ => none) (fun _ _ _ _ _ => none) (none) (fun _ _ _ => none) (none) (fun _ _ => none) (fun _ _ => none) (fun _ _ => .unit) .unit (fun _ _ _ _ => .unit)
noncomputable def vTup : Value → Option (Array Value) := Value.rec (motive_1 := fun _ => Option (Array Value)) (motive_2 := fun _ => PUnit) (motive_3 := fun _ => PUnit) (fun _ => none) (fun _ _ => none) (fun _ _ => none) (fun _ _ _ => none) (fun _ => none) (fun _ => none) (fun _ _ _ => none) (fun _ => none) (fun _ => none) (fun _ _ _ _ _ => none) (none) (fun _ _ _ => none) (none) (fun _ _ => none) (fun v _ => some v) (fun _ _ => .unit) .unit (fun _ _ _ _ => .unit)
theorem natOf_eq (v : Value) : vNat v = natOf v := by cases v <;> first | rfl | (rename_i k n; cases n <;> rfl)
noncomputable def pLoad (P : Program) (W : AW) (t : TypeId) (a : Addr) : Option (Value × AW) :=
  match tAgg P t with
  | some false => match cellsAt W a.block with
    | some cs => (lget cs a.off).map fun v => (v, W)
    | none => none
  | some true => match tSz P t with
    | some n => (readN W a.block a.off n).map fun l => (.agg l.toArray, W)
    | none => none
  | none => none
theorem pLoad_eq (P : Program) (W : AW) (t : TypeId) (v : Value) : (match vPtr v with | some a => pLoad P W t a | none => none) = (aLoad P W t v).map fun v => (v, W) := by
  cases v with
  | pointer a =>
    cases a with
    | none => rfl
    | some a =>
      show pLoad P W t a = _
      unfold pLoad aLoad
      cases tAgg P t with
      | none => rfl
      | some b =>
        cases b with
        | false => simp only; cases cellsAt W a.block <;> rfl
        | true =>
          simp only
          cases tSz P t with
          | none => rfl
          | some n => simp only; cases readN W a.block a.off n <;> rfl
  | _ => rfl
noncomputable def pStore (P : Program) (W : AW) (t : TypeId) (a : Addr) (v : Value) : Option (Value × AW) :=
  match tSz P t with
  | some n => if v.cells.size = n then (writeN W a.block a.off v.cells.toList).map fun W' => (undef, W') else none
  | none => none
theorem pStore_eq (P : Program) (W : AW) (t : TypeId) (x v : Value) : (match vPtr x with | some a => pStore P W t a v | none => none) = (aStore P W t x v).map fun W' => (undef, W') := by
  cases x with
  | pointer a =>
    cases a with
    | none => rfl
    | some a =>
      show pStore P W t a v = _
      unfold pStore aStore
      cases tSz P t with
      | none => rfl
      | some n => simp only; split <;> rfl
  | _ => rfl
noncomputable def aIntF : BinOp → IntKind → Int → Int → Option Value := BinOp.rec (motive := fun _ => IntKind → Int → Int → Option Value) (fun k a b => some (forceI k (wrapF k (a + b)))) (fun k a b => some (forceI k (wrapF k (a - b)))) (fun k a b => some (forceI k (wrapF k (a * b)))) (fun _ _ _ => none) (fun _ _ _ => none) (fun _ _ _ => none) (fun _ _ _ => none) (fun _ _ _ => none) (fun _ _ _ => none) (fun _ _ _ => none) (fun _ _ _ => none) (fun _ a b => some (.bool (decide (a = b)))) (fun _ a b => some (.bool (!decide (a = b)))) (fun _ a b => some (.bool (decide (a < b)))) (fun _ a b => some (.bool (decide (a ≤ b)))) (fun _ a b => some (.bool (decide (b < a)))) (fun _ a b => some (.bool (decide (b ≤ a))))
theorem aIntF_eq (op : BinOp) (k : IntKind) (a b : Int) : aIntF op k a b = aInt op k a b := by cases op <;> rfl
noncomputable def pBin (P : Program) (W : AW) (op : BinOp) (t : TypeId) (x y : Value) : Option Value :=
  match vInt x with
  | some (k, a) => match vInt y with
    | some (k', b) => if k = k' then aIntF op k a b else none
    | none => aBin P W op t x y
  | none => aBin P W op t x y
theorem pBin_eq (P : Program) (W : AW) (op : BinOp) (t : TypeId) (x y : Value) : pBin P W op t x y = aBin P W op t x y := by
  cases x with
  | int k a =>
    cases y with
    | int k' b =>
      show (if k = k' then aIntF op k a b else none) = _
      rw [aIntF_eq]; rfl
    | _ => rfl
  | _ => rfl
def fldOff (P : Program) (s : TypeId) (f : Nat) : Option Nat := match P.underlying s with
  | some (.struct fs) => match fs[f]? with
    | some fl => match tSz P fl.type with
      | some (_ + 1) => some fl.offset
      | _ => none
    | none => none
  | _ => none
def idxOf (P : Program) (t : TypeId) : Option (Option Nat × Nat) := match P.underlying t with
  | some (.slice e) => (tSz P e).map fun z => (none, z)
  | some (.array n e) => (tSz P e).map fun z => (some n, z)
  | _ => none
theorem pick_eq {X : Type} (v : Value) (a b : X) : (match vBool v with | some true => some a | some false => some b | none => none) = (match v with | .bool true => some a | .bool false => some b | _ => none) := by
  cases v with
  | bool c => cases c <;> rfl
  | _ => rfl
theorem extract_eq (W : AW) (v : Value) (i : Nat) : (match vTup v with | some vs => (vs[i]?).map fun v => (v, W) | none => none) = (match v with | .tuple vs => (vs[i]?).map fun v => (v, W) | _ => none) := by
  cases v <;> rfl
theorem fieldAddr_eq (P : Program) (W : AW) (s : TypeId) (v : Value) (f : Nat) :
    (match vPtr v with
    | some a => (match fldOff P s f with
      | some k => some (Value.pointer (some (a.add k)), W)
      | none => none)
    | none => none) = (match P.underlying s, v with
    | some (.struct fs), .pointer (some a) => match fs[f]? with
      | some fl => match tSz P fl.type with
        | some (_ + 1) => some (.pointer (some (a.add fl.offset)), W)
        | _ => none
      | none => none
    | _, _ => none) := by
  unfold fldOff
  generalize P.underlying s = u
  have hno : ∀ (o : Option TypeDesc) (v : Value), vPtr v = none → (match o, v with
    | some (.struct fs), .pointer (some a) => match fs[f]? with
      | some fl => match tSz P fl.type with
        | some (_ + 1) => some (Value.pointer (some (a.add fl.offset)), W)
        | _ => none
      | none => none
    | _, _ => none) = none := by
    intro o v hv
    split
    · cases hv
    · rfl
  cases hv : vPtr v with
  | none => exact (hno u v hv).symm
  | some a =>
    obtain rfl : v = .pointer (some a) := by
      cases v with
      | pointer b => cases b with | none => cases hv | some b => injection hv with hv; rw [hv]
      | _ => cases hv
    cases u with
    | none => rfl
    | some d =>
      cases d with
      | struct fs =>
        simp only
        cases fs[f]? with
        | none => rfl
        | some fl =>
          simp only
          cases tSz P fl.type with
          | none => rfl
          | some n => cases n <;> rfl
      | _ => rfl
theorem indexAddr_eq (P : Program) (W : AW) (t : TypeId) (v i : Value) :
    (match idxOf P t with
    | some (none, z) => (match vSl v with
      | some (a, len) => (match vNat i with
        | some n => (match Nat.blt n len with
          | true => some (Value.pointer (some (a.add (n * z))), W)
          | false => none)
        | none => none)
      | none => none)
    | some (some len, z) => (match vPtr v with
      | some a => (match vNat i with
        | some n => (match Nat.blt n len with
          | true => some (.pointer (some (a.add (n * z))), W)
          | false => none)
        | none => none)
      | none => none)
    | none => none) = (match P.underlying t, v, natOf i with
    | some (.slice e), .slice (some a) len _, some n => match tSz P e with
      | some z => if n < len then some (.pointer (some (a.add (n * z))), W) else none
      | none => none
    | some (.array len e), .pointer (some a), some n => match tSz P e with
      | some z => if n < len then some (.pointer (some (a.add (n * z))), W) else none
      | none => none
    | _, _, _ => none) := by
  rw [natOf_eq]
  have key : ∀ (n len : Nat) (u : Option (Value × AW)), (match Nat.blt n len with | true => u | false => none) = if n < len then u else none := by
    intro n len u
    by_cases h : n < len
    · have h1 : Nat.blt n len = true := by rw [Nat.blt_eq]; exact h
      rw [if_pos h, h1]
    · rw [if_neg h]
      cases hb : Nat.blt n len with
      | true => exact absurd (by rw [Nat.blt_eq] at hb; exact hb) h
      | false => rfl
  simp only [key]
  unfold idxOf
  generalize natOf i = k
  generalize P.underlying t = u
  cases u with
  | none => rfl
  | some d =>
    cases d with
    | slice e =>
      cases hz : tSz P e with
      | none => cases v with
        | slice a l c => cases a <;> cases k <;> simp [hz]
        | _ => simp [hz]
      | some z => cases v with
        | slice a l c => cases a <;> cases k <;> simp [hz, vSl]
        | _ => simp [hz, vSl]
    | array n e =>
      cases hz : tSz P e with
      | none => cases v with
        | pointer a => cases a <;> cases k <;> simp [hz]
        | _ => simp [hz]
      | some z => cases v with
        | pointer a => cases a <;> cases k <;> simp [hz, vPtr]
        | _ => simp [hz, vPtr]
    | _ => rfl
/- the operations, each under its own name: so the kernel copies little -/
noncomputable def hMove (x : Operand) (P : Program) (call : Callee) (o : Oper) (R : PlanTab.Fr) (W : AW) : Option (Value × AW) :=
  some (aEval R x, W)
noncomputable def hAssign (x : Operand) (P : Program) (call : Callee) (o : Oper) (R : PlanTab.Fr) (W : AW) : Option (Value × AW) :=
  some (aEval R x, W)
noncomputable def hPick (c : Operand) (a : Operand) (b : Operand) (P : Program) (call : Callee) (o : Oper) (R : PlanTab.Fr) (W : AW) : Option (Value × AW) :=
  match vBool (aEval R c) with
    | some true => some (aEval R a, W)
    | some false => some (aEval R b, W)
    | none => none
noncomputable def hAlloc (t : TypeId) (P : Program) (call : Callee) (o : Oper) (R : PlanTab.Fr) (W : AW) : Option (Value × AW) :=
  match tZero P t with
    | some z => some (W.new (rowObj t z.cells.toList) fun b W' => (Value.pointer (some ⟨b, 0, none⟩), W'))
    | none => none
noncomputable def hBox (t : TypeId) (x : Operand) (P : Program) (call : Callee) (o : Oper) (R : PlanTab.Fr) (W : AW) : Option (Value × AW) :=
  some (W.new (.cells (aEval R x).cells.toList) fun b W' => (Value.pointer (some ⟨b, 0, none⟩), W'))
noncomputable def hBuild (t : TypeId) (ps : Array (Nat × Operand)) (P : Program) (call : Callee) (o : Oper) (R : PlanTab.Fr) (W : AW) : Option (Value × AW) :=
  (aBuild P R t ps).map fun v => (v, W)
noncomputable def hBuildSlice (t : TypeId) (n : Nat) (ps : Array (Nat × Operand)) (P : Program) (call : Callee) (o : Oper) (R : PlanTab.Fr) (W : AW) : Option (Value × AW) :=
  aBuildSlice P R W t n ps
noncomputable def hInsert (_t : TypeId) (_m : Operand) (_k : Operand) (_v : Operand) (P : Program) (call : Callee) (o : Oper) (R : PlanTab.Fr) (W : AW) : Option (Value × AW) :=
  aOpS P call o R W
noncomputable def hLoad (t : TypeId) (a : Operand) (P : Program) (call : Callee) (o : Oper) (R : PlanTab.Fr) (W : AW) : Option (Value × AW) :=
  match vPtr (aEval R a) with
    | some a => pLoad P W t a
    | none => none
noncomputable def hStore (t : TypeId) (a : Operand) (x : Operand) (P : Program) (call : Callee) (o : Oper) (R : PlanTab.Fr) (W : AW) : Option (Value × AW) :=
  match vPtr (aEval R a) with
    | some a => pStore P W t a (aEval R x)
    | none => none
noncomputable def hReady (_g : Nat) (P : Program) (call : Callee) (o : Oper) (R : PlanTab.Fr) (W : AW) : Option (Value × AW) :=
  aOpS P call o R W
noncomputable def hWaits (_g : Nat) (P : Program) (call : Callee) (o : Oper) (R : PlanTab.Fr) (W : AW) : Option (Value × AW) :=
  aOpS P call o R W
noncomputable def hNilCheck (_x : Operand) (P : Program) (call : Callee) (o : Oper) (R : PlanTab.Fr) (W : AW) : Option (Value × AW) :=
  aOpS P call o R W
noncomputable def hBinOp (op : BinOp) (t : TypeId) (x : Operand) (y : Operand) (yt : TypeId) (P : Program) (call : Callee) (o : Oper) (R : PlanTab.Fr) (W : AW) : Option (Value × AW) :=
  match pBin P W op t (aEval R x) (aEval R y) with
    | some v => some (v, W)
    | none => (aPure P R o).map fun v => (v, W)
noncomputable def hUnOp (op : UnOp) (t : TypeId) (x : Operand) (P : Program) (call : Callee) (o : Oper) (R : PlanTab.Fr) (W : AW) : Option (Value × AW) :=
  (aPure P R o).map fun v => (v, W)
noncomputable def hConvert (s : TypeId) (d : TypeId) (x : Operand) (P : Program) (call : Callee) (o : Oper) (R : PlanTab.Fr) (W : AW) : Option (Value × AW) :=
  (aConv P W s d (aEval R x) (aPure P R o)).map fun v => (v, W)
noncomputable def hSliceToArrayPointer (_d : TypeId) (_x : Operand) (P : Program) (call : Callee) (o : Oper) (R : PlanTab.Fr) (W : AW) : Option (Value × AW) :=
  aOpS P call o R W
noncomputable def hMakeInterface (_t : TypeId) (_x : Operand) (P : Program) (call : Callee) (o : Oper) (R : PlanTab.Fr) (W : AW) : Option (Value × AW) :=
  aOpS P call o R W
noncomputable def hMakeFunc (_fn : Fn) (_first : Array Operand) (_captured : Array Operand) (P : Program) (call : Callee) (o : Oper) (R : PlanTab.Fr) (W : AW) : Option (Value × AW) :=
  aOpS P call o R W
noncomputable def hMakeMap (_t : TypeId) (_r : Option Operand) (P : Program) (call : Callee) (o : Oper) (R : PlanTab.Fr) (W : AW) : Option (Value × AW) :=
  aOpS P call o R W
noncomputable def hMakeChan (_t : TypeId) (_s : Operand) (P : Program) (call : Callee) (o : Oper) (R : PlanTab.Fr) (W : AW) : Option (Value × AW) :=
  aOpS P call o R W
noncomputable def hMakeSlice (t : TypeId) (l : Operand) (c : Operand) (P : Program) (call : Callee) (o : Oper) (R : PlanTab.Fr) (W : AW) : Option (Value × AW) :=
  aMakeSlice P W t (aEval R l) (aEval R c)
noncomputable def hSlice (t : TypeId) (x : Operand) (lo : Option Operand) (hi : Option Operand) (mx : Option Operand) (P : Program) (call : Callee) (o : Oper) (R : PlanTab.Fr) (W : AW) : Option (Value × AW) :=
  match aSlice P t (aEval R x) (lo.map (aEval R)) (hi.map (aEval R)) (mx.map (aEval R)) with
    | some v => some (v, W)
    | none => (aPure P R o).map fun v => (v, W)
noncomputable def hFieldAddr (s : TypeId) (x : Operand) (f : Nat) (P : Program) (call : Callee) (o : Oper) (R : PlanTab.Fr) (W : AW) : Option (Value × AW) :=
  match vPtr (aEval R x) with
    | some a => (match fldOff P s f with
      | some k => some (.pointer (some (a.add k)), W)
      | none => none)
    | none => none
noncomputable def hField (t : TypeId) (x : Operand) (f : Nat) (P : Program) (call : Callee) (o : Oper) (R : PlanTab.Fr) (W : AW) : Option (Value × AW) :=
  match P.underlying t, aEval R x with
    | some (.struct fs), .agg cs => match fs[f]? with
      | some fl => (aPart P fl.type cs fl.offset).map fun v => (v, W)
      | none => none
    | _, _ => none
noncomputable def hIndexAddr (t : TypeId) (x : Operand) (i : Operand) (P : Program) (call : Callee) (o : Oper) (R : PlanTab.Fr) (W : AW) : Option (Value × AW) :=
  match idxOf P t with
    | some (none, z) => (match vSl (aEval R x) with
      | some (a, len) => (match vNat (aEval R i) with
        | some n => (match Nat.blt n len with
          | true => some (.pointer (some (a.add (n * z))), W)
          | false => none)
        | none => none)
      | none => none)
    | some (some len, z) => (match vPtr (aEval R x) with
      | some a => (match vNat (aEval R i) with
        | some n => (match Nat.blt n len with
          | true => some (.pointer (some (a.add (n * z))), W)
          | false => none)
        | none => none)
      | none => none)
    | none => none
noncomputable def hIndex (_t : TypeId) (_x : Operand) (_i : Operand) (P : Program) (call : Callee) (o : Oper) (R : PlanTab.Fr) (W : AW) : Option (Value × AW) :=
  aOpS P call o R W
noncomputable def hLookup (t : TypeId) (m : Operand) (k : Operand) (ok : Bool) (P : Program) (call : Callee) (o : Oper) (R : PlanTab.Fr) (W : AW) : Option (Value × AW) :=
  (aLookup P W t (aEval R m) (aEval R k) ok).map fun v => (v, W)
noncomputable def hMapUpdate (t : TypeId) (m : Operand) (k : Operand) (v : Operand) (P : Program) (call : Callee) (o : Oper) (R : PlanTab.Fr) (W : AW) : Option (Value × AW) :=
  (aMapUpdate P W t (aEval R m) (aEval R k) (aEval R v)).map fun W' => (undef, W')
noncomputable def hMapEntry (_t : TypeId) (_m : Operand) (_k : Operand) (P : Program) (call : Callee) (o : Oper) (R : PlanTab.Fr) (W : AW) : Option (Value × AW) :=
  aOpS P call o R W
noncomputable def hEntryStore (_t : TypeId) (_m : Operand) (_s : Operand) (_v : Operand) (P : Program) (call : Callee) (o : Oper) (R : PlanTab.Fr) (W : AW) : Option (Value × AW) :=
  aOpS P call o R W
noncomputable def hRange (_t : TypeId) (_x : Operand) (P : Program) (call : Callee) (o : Oper) (R : PlanTab.Fr) (W : AW) : Option (Value × AW) :=
  aOpS P call o R W
noncomputable def hNext (_it : Operand) (_s : Bool) (P : Program) (call : Callee) (o : Oper) (R : PlanTab.Fr) (W : AW) : Option (Value × AW) :=
  aOpS P call o R W
noncomputable def hEntry (_it : Operand) (P : Program) (call : Callee) (o : Oper) (R : PlanTab.Fr) (W : AW) : Option (Value × AW) :=
  aOpS P call o R W
noncomputable def hTypeAssert (_x : Operand) (_t : TypeId) (_a : TypeId) (_ok : Bool) (P : Program) (call : Callee) (o : Oper) (R : PlanTab.Fr) (W : AW) : Option (Value × AW) :=
  aOpS P call o R W
noncomputable def hExtract (x : Operand) (i : Nat) (P : Program) (call : Callee) (o : Oper) (R : PlanTab.Fr) (W : AW) : Option (Value × AW) :=
  match vTup (aEval R x) with
    | some vs => (vs[i]?).map fun v => (v, W)
    | none => none
noncomputable def hCall (c : Call) (P : Program) (call : Callee) (o : Oper) (R : PlanTab.Fr) (W : AW) : Option (Value × AW) :=
  match c.callee with
    | .builtin b => aBuiltin P o b c.argTypes (c.args.toList.map (aEval R)) R W
    | .value f => call (aEval R f) (c.args.toList.map (aEval R)) W
    | .invoke r name => match aEval R r with
      | .iface t v => match methodOf P t name with
        | some f => call (.func (.func f) #[] #[]) (v :: c.args.toList.map (aEval R)) W
        | none => none
      | _ => none
noncomputable def hGo (_c : Call) (P : Program) (call : Callee) (o : Oper) (R : PlanTab.Fr) (W : AW) : Option (Value × AW) :=
  aOpS P call o R W
noncomputable def hDefer (_c : Call) (P : Program) (call : Callee) (o : Oper) (R : PlanTab.Fr) (W : AW) : Option (Value × AW) :=
  aOpS P call o R W
noncomputable def hPanic (_x : Operand) (P : Program) (call : Callee) (o : Oper) (R : PlanTab.Fr) (W : AW) : Option (Value × AW) :=
  aOpS P call o R W
noncomputable def hSend (_c : Operand) (_x : Operand) (P : Program) (call : Callee) (o : Oper) (R : PlanTab.Fr) (W : AW) : Option (Value × AW) :=
  aOpS P call o R W
noncomputable def hRecv (_t : TypeId) (_c : Operand) (_ok : Bool) (P : Program) (call : Callee) (o : Oper) (R : PlanTab.Fr) (W : AW) : Option (Value × AW) :=
  aOpS P call o R W
noncomputable def hSelect (_cs : Array SelectCase) (_bl : Bool) (P : Program) (call : Callee) (o : Oper) (R : PlanTab.Fr) (W : AW) : Option (Value × AW) :=
  aOpS P call o R W
noncomputable def aOpF : Op → Program → Callee → Oper → PlanTab.Fr → AW → Option (Value × AW) :=
  Op.rec (motive := fun _ => Program → Callee → Oper → PlanTab.Fr → AW → Option (Value × AW)) hMove hAssign hPick hAlloc hBox hBuild hBuildSlice hInsert hLoad hStore hReady hWaits hNilCheck hBinOp hUnOp hConvert hSliceToArrayPointer hMakeInterface hMakeFunc hMakeMap hMakeChan hMakeSlice hSlice hFieldAddr hField hIndexAddr hIndex hLookup hMapUpdate hMapEntry hEntryStore hRange hNext hEntry hTypeAssert hExtract hCall hGo hDefer hPanic hSend hRecv hSelect
noncomputable def aOpC (P : Program) (call : Callee) (o : Oper) (R : PlanTab.Fr) (W : AW) : Option (Value × AW) := aOpF o.op P call o R W
theorem aOpC_eq (P : Program) (call : Callee) (o : Oper) (R : PlanTab.Fr) (W : AW) : aOpC P call o R W = aOpS P call o R W := by
  obtain ⟨dst, op, type, pos, after, guard⟩ := o
  cases op with
  | pick c a b => exact pick_eq (aEval R c) _ _
  | load t a => exact pLoad_eq P W t (aEval R a)
  | store t a x => exact pStore_eq P W t (aEval R a) (aEval R x)
  | binOp op t x y yt =>
    show hBinOp op t x y yt P call ⟨dst, .binOp op t x y yt, type, pos, after, guard⟩ R W = _
    unfold hBinOp
    rw [pBin_eq]
    rfl
  | extract x i => exact extract_eq W (aEval R x) i
  | fieldAddr s x f => exact fieldAddr_eq P W s (aEval R x) f
  | indexAddr t x i => exact indexAddr_eq P W t (aEval R x) (aEval R i)
  | _ => rfl

def CallV (P : Program) (f' : Value) (args' : List Value) (w : World) (R : Value → World → Prop) : Prop :=
  match f' with
  | .func (.func i) fs cs => (callFunc i (fs ++ args'.toArray ++ cs)).run P w = .ok (.enter i (fs ++ args'.toArray ++ cs)) w ∧
      CallsIn (FE none) 0 P i (fs ++ args'.toArray ++ cs) w (fun e w' => ∃ v, e = .returned v ∧ R v w')
  | .func (.yield l) fs _ => ∃ f tmps as bd, (Instr.yield l (fs ++ args'.toArray)).run P w = .ok (.round l f tmps as bd) w ∧
      RoundIn (FE none) 0 P l f tmps as bd w (fun e w' => ∃ v, e = .returned v ∧ R v w')
  | _ => False

def CalleeOK (P : Program) (ng : List Nat) (call : Callee) : Prop :=
  ∀ f args W v W', call f args W = some (v, W') → ∀ σ w f' args', WRel σ W w.heap → Glob σ ng → VR σ f f' → LR σ args args' →
    CallV P f' args' w (fun v' w' => ∃ σ', VR σ' v v' ∧ WRel σ' W' w'.heap ∧ Ext σ W w σ' W' w')

section
variable {P : Program} {σ : Inj} {W : AW} {w : World}

theorem aBuiltin_run (hW : WRel σ W w.heap) {b : Builtin} {R : PlanTab.Fr} {ρ : Operand → Value} {v : Value} {W' : AW} {dst : Option Tmp} {type : TypeId} {pos : String} {after : Array Edge} {guard : Option (Nat × Bool)} {args : Array Operand} {argTypes : Array TypeId}
    (h : aBuiltin P { dst, op := .call { callee := .builtin b, args, argTypes }, type, pos, after, guard } b argTypes (args.toList.map (aEval R)) R W = some (v, W')) (hρ : ∀ x ∈ args, VR σ (aEval R x) (ρ x)) :
    Does P σ W w (execOp ρ { dst, op := .call { callee := .builtin b, args, argTypes }, type, pos, after, guard }) v W' := by
  have hmap : ∀ (x : Option Value), (x.map fun v => (v, W)) = some (v, W') → x = some v ∧ W' = W := by
    intro x hx
    cases x with
    | none => cases hx
    | some u => simp at hx; exact ⟨by rw [hx.1], hx.2.symm⟩
  have hmapT : ∀ (x : Option AW), (x.map fun W' => (Value.tuple #[], W')) = some (v, W') → x = some W' ∧ v = .tuple #[] := by
    intro x hx
    cases x with
    | none => cases hx
    | some u => simp at hx; exact ⟨by rw [hx.2], hx.1.symm⟩
  have hex : execOp ρ { dst, op := .call { callee := .builtin b, args, argTypes }, type, pos, after, guard } = builtin b argTypes type (args.map fun | .const _ => true | _ => false) (args.map ρ) := by
    simp [execOp, resolve, invoke]
    rfl
  have hargs : LR σ (args.toList.map (aEval R)) (args.map ρ).toList := by
    have := arr_map args hρ
    simpa using this
  unfold aBuiltin at h
  split at h
  · rename_i A n c heq
    rw [heq] at hargs
    obtain ⟨x', l', e1, hx, hl⟩ := hargs.of_cons
    have := hl.of_nil
    subst this
    have e2 : args.map ρ = #[x'] := by rw [← Array.toArray_toList (xs := args.map ρ), e1]
    split at h
    · rename_i e hu
      injection h with h; injection h with h1 h2; subst h1; subst h2
      rw [hex, e2]
      cases ha : argTypes[0]? with
      | none => rw [ha] at hu; cases hu
      | some t =>
        rw [ha] at hu
        simp only [Option.bind_some] at hu
        refine .value (s := Builtin.len_ argTypes type #[x']) rfl hW (v' := goInt n) ?_ (.int _ _)
        cases hx <;> simp [Builtin.len_, ha, run_underlying hu]
    · cases h
  · rename_i heq
    rw [heq] at hargs
    obtain ⟨x', l', e1, hx, hl⟩ := hargs.of_cons
    have := hl.of_nil
    subst this
    have e2 : args.map ρ = #[x'] := by rw [← Array.toArray_toList (xs := args.map ρ), e1]
    split at h
    · rename_i k e hu
      injection h with h; injection h with h1 h2; subst h1; subst h2
      rw [hex, e2]
      cases ha : argTypes[0]? with
      | none => rw [ha] at hu; cases hu
      | some t =>
        rw [ha] at hu
        simp only [Option.bind_some] at hu
        refine .value (s := Builtin.len_ argTypes type #[x']) rfl hW (v' := goInt 0) ?_ (.int _ _)
        cases hx
        simp [Builtin.len_, ha, run_underlying hu]
    · cases h
  · rename_i r heq
    rw [heq] at hargs
    obtain ⟨x', l', e1, hx, hl⟩ := hargs.of_cons
    have := hl.of_nil
    subst this
    have e2 : args.map ρ = #[x'] := by rw [← Array.toArray_toList (xs := args.map ρ), e1]
    split at h
    · rename_i k e es c hu hr
      injection h with h; injection h with h1 h2; subst h1; subst h2
      rw [hex, e2]
      cases ha : argTypes[0]? with
      | none => rw [ha] at hu; cases hu
      | some t =>
        rw [ha] at hu
        simp only [Option.bind_some] at hu
        cases hx with
        | map _ g hg =>
          obtain ⟨_, _, es', g3, g4⟩ := map_obj hW hr hg
          refine .value (s := Builtin.len_ argTypes type #[.map (some g.B)]) rfl hW (v' := goInt es.length) ?_ (.int _ _)
          have hlen : es'.size = es.length := by have := g4.1; simp at this; omega
          simp [Builtin.len_, ha, run_underlying hu, run_getObj_map g3, hlen]
    · cases h
  · rename_i s x heq
    rw [heq] at hargs
    obtain ⟨s', l', e1, hs, hl⟩ := hargs.of_cons
    obtain ⟨x', l'', e3, hx, hl2⟩ := hl.of_cons
    have := hl2.of_nil
    subst this
    subst e3
    have e2 : args.map ρ = #[s', x'] := by rw [← Array.toArray_toList (xs := args.map ρ), e1]
    rw [hex, e2]
    exact .value' (s := Builtin.append_ argTypes type #[s', x']) rfl (aAppend2_run hW h hs hx)
  · rename_i s x heq
    rw [heq] at hargs
    obtain ⟨s', l', e1, hs, hl⟩ := hargs.of_cons
    obtain ⟨x', l'', e3, hx, hl2⟩ := hl.of_cons
    have := hl2.of_nil
    subst this
    subst e3
    have e2 : args.map ρ = #[s', x'] := by rw [← Array.toArray_toList (xs := args.map ρ), e1]
    rw [hex, e2]
    obtain ⟨v', w', a, b, c, d⟩ := aCopy_run (ty := type) hW h hs hx
    exact .value' (s := Builtin.copy_ argTypes type #[s', x']) rfl ⟨σ, v', w', a, b, c, d⟩
  · rename_i x heq
    rw [heq] at hargs
    obtain ⟨x', l', e1, hx, hl⟩ := hargs.of_cons
    have := hl.of_nil
    subst this
    have e2 : args.map ρ = #[x'] := by rw [← Array.toArray_toList (xs := args.map ρ), e1]
    rw [hex, e2]
    obtain ⟨hc, rfl⟩ := hmapT _ h
    obtain ⟨w', a, b, c⟩ := aClear_run (ty := type) hW hc hx
    exact .value' (s := Builtin.clear_ argTypes type #[x']) rfl ⟨σ, .tuple #[], w', a, .undef, b, c⟩
  · rename_i s x heq
    rw [heq] at hargs
    obtain ⟨s', l', e1, hs, hl⟩ := hargs.of_cons
    obtain ⟨x', l'', e3, hx, hl2⟩ := hl.of_cons
    have := hl2.of_nil
    subst this
    subst e3
    have e2 : args.map ρ = #[s', x'] := by rw [← Array.toArray_toList (xs := args.map ρ), e1]
    rw [hex, e2]
    obtain ⟨hc, rfl⟩ := hmapT _ h
    obtain ⟨w', a, b, c⟩ := aDelete_run (ty := type) hW hc hs hx
    exact .value' (s := Builtin.delete_ argTypes type #[s', x']) rfl ⟨σ, .tuple #[], w', a, .undef, b, c⟩
  · rename_i x heq
    rw [heq] at hargs
    obtain ⟨x', l', e1, hx, hl⟩ := hargs.of_cons
    have := hl.of_nil
    subst this
    have e2 : args.map ρ = #[x'] := by rw [← Array.toArray_toList (xs := args.map ρ), e1]
    rw [hex, e2]
    obtain ⟨hc, rfl⟩ := hmap _ h
    obtain ⟨v', a, b⟩ := aSliceData_run (P := P) (w := w) (ts := argTypes) (ty := type) hc hx
    exact .value' (s := Builtin.unsafeSliceData_ argTypes type #[x']) rfl ⟨σ, v', w, a, b, hW, Ext.refl _ _ _⟩
  · rename_i s x heq
    rw [heq] at hargs
    obtain ⟨s', l', e1, hs, hl⟩ := hargs.of_cons
    obtain ⟨x', l'', e3, hx, hl2⟩ := hl.of_cons
    have := hl2.of_nil
    subst this
    subst e3
    have e2 : args.map ρ = #[s', x'] := by rw [← Array.toArray_toList (xs := args.map ρ), e1]
    rw [hex, e2]
    exact .value' (s := Builtin.unsafeString_ argTypes type #[s', x']) rfl (aUnsafeString_run hW h hs hx)
  · obtain ⟨hb, rfl⟩ := hmap _ h
    exact .pure_ hW hb (fun x hx => by
      simp only [Op.operands, Call.operands] at hx
      exact hρ x (by simpa using hx))

theorem method_run {t : TypeId} {name : String} {f : FuncId} (h : methodOf P t name = some f) (v : Value) (w : World) : (method (P.types.size + Made.depth) t v name).run P w = .ok (f, v) w := by
  unfold methodOf at h
  split at h
  · rename_i i d hi hd
    split at h
    · rename_i m hm
      split at h
      · rename_i g e hp hf
        split at h
        · rename_i h0
          injection h with h
          subst h
          obtain ⟨n, hn⟩ : ∃ n, P.types.size + Made.depth = n + 1 := ⟨P.types.size + Made.depth - 1, by omega⟩
          rw [hn]
          simp [method, typeInfo, hi, hm, hp, follow, hf, receiverAt, run_underlying hd, Place.get]
        · cases h
      · cases h
    · cases h
  · cases h

theorem FE_depth (ro : Option Nat) : (FE ro).depth = none := rfl
theorem callsIn_FE {ro ro' : Option Nat} {n : Nat} {f : FuncId} {args : Array Value} {w : World} {R : Ending → World → Prop} (h : CallsIn (FE ro) n P f args w R) : CallsIn (FE ro') n P f args w R := h
theorem roundIn_FE {ro ro' : Option Nat} {n l : Nat} {f : FuncId} {tmps : Array Value} {as bd : Code} {w : World} {R : Ending → World → Prop} (h : RoundIn (FE ro) n P l f tmps as bd w R) : RoundIn (FE ro') n P l f tmps as bd w R := h

theorem wpIn_does {ro : Option Nat} {o : Oper} {a : Act} {v : Value} {W' : AW} {next : Act → World → Prop} {Q : Exit → Act → World → Prop} (hnd : ∀ c, o.op ≠ .defer c) (h : Does P σ W w (execOp a.eval o) v W')
    (hn : ∀ σ' v' w', VR σ' v v' → WRel σ' W' w'.heap → Ext σ W w σ' W' w' → next (a.put o.dst v') w') : o.wpIn (FE ro) 0 P a w next Q := by
  refine ⟨fun f _ => trivial, ?_⟩
  rw [Oper.semAt_eq _ _ _ hnd]
  obtain ⟨σ', nx, v', w', hr, hx, h1, h2, h3⟩ := h
  rw [hr]
  rcases hx with rfl | ⟨rfl, rfl⟩
  · exact hn σ' v' w' h1 h2 h3
  · exact hn σ' undef w' h1 h2 h3

theorem wpIn_callV {ro : Option Nat} {o : Oper} {a : Act} {v : Value} {W' : AW} {next : Act → World → Prop} {Q : Exit → Act → World → Prop} {f' : Value} {args' : List Value} (hnd : ∀ c, o.op ≠ .defer c)
    (hf : ∀ i fs cs, f' = .func (.func i) fs cs → (execOp a.eval o).run P w = (callFunc i (fs ++ args'.toArray ++ cs)).run P w)
    (hy : ∀ l fs cs, f' = .func (.yield l) fs cs → (execOp a.eval o).run P w = (Instr.yield l (fs ++ args'.toArray)).run P w)
    (h : CallV P f' args' w (fun v' w' => ∃ σ', VR σ' v v' ∧ WRel σ' W' w'.heap ∧ Ext σ W w σ' W' w'))
    (hn : ∀ σ' v' w', VR σ' v v' → WRel σ' W' w'.heap → Ext σ W w σ' W' w' → next (a.put o.dst v') w') : o.wpIn (FE ro) 0 P a w next Q := by
  refine ⟨fun f _ => trivial, ?_⟩
  rw [Oper.semAt_eq _ _ _ hnd]
  unfold CallV at h
  split at h
  · rename_i i fs cs
    obtain ⟨h1, h2⟩ := h
    rw [hf i fs cs rfl, h1]
    refine ⟨fun hd => by rw [FE_depth] at hd; simp at hd, ?_⟩
    refine CallsIn.mono (callsIn_FE h2) ?_
    rintro e w' ⟨u, rfl, σ', k1, k2, k3⟩
    exact hn σ' u w' k1 k2 k3
  · rename_i l fs cs
    obtain ⟨f, tmps, as, bd, h1, h2⟩ := h
    rw [hy l fs cs rfl, h1]
    refine ⟨fun hd => by rw [FE_depth] at hd; simp at hd, ?_⟩
    refine RoundIn.mono (roundIn_FE h2) ?_
    rintro e w' ⟨u, rfl, σ', k1, k2, k3⟩
    exact hn σ' u w' k1 k2 k3
  · exact h.elim

theorem aOpC_wp {ng : List Nat} {call : Callee} (hc : CalleeOK P ng call) (hW : WRel σ W w.heap) (hG : Glob σ ng) {ro : Option Nat} {o : Oper} {R : PlanTab.Fr} {a : Act} {v : Value} {W' : AW} {next : Act → World → Prop} {Q : Exit → Act → World → Prop}
    (h : aOpC P call o R W = some (v, W')) (hρ : ∀ x ∈ o.op.operands, VR σ (aEval R x) (a.eval x))
    (hn : ∀ σ' v' w', VR σ' v v' → WRel σ' W' w'.heap → Ext σ W w σ' W' w' → next (a.put o.dst v') w') : o.wpIn (FE ro) 0 P a w next Q := by
  rw [aOpC_eq] at h
  unfold aOpS at h
  split at h
  · rename_i c hop
    obtain ⟨dst, op, type, pos, after, guard⟩ := o
    simp only at hop
    subst hop
    obtain ⟨callee, args, argTypes⟩ := c
    have hargs : ∀ x ∈ args, VR σ (aEval R x) (a.eval x) := fun x hx => hρ x (by simp [Op.operands, Call.operands, hx])
    have hl : LR σ (args.toList.map (aEval R)) (args.map a.eval).toList := by simpa using arr_map args hargs
    split at h
    · rename_i b hb
      simp only at hb h
      subst hb
      exact wpIn_does (fun _ hx => by cases hx) (aBuiltin_run hW h hargs) hn
    · rename_i f hb
      simp only at hb h
      subst hb
      have hf := hρ f (by simp [Op.operands, Call.operands])
      refine wpIn_callV (fun _ hx => by cases hx) ?_ ?_ (hc _ _ _ _ _ h σ w _ _ hW hG hf hl) hn
      · intro i fs cs e
        rw [Array.toArray_toList]
        simp [execOp, resolve, e, Deferred.ofValue, invoke]
      · intro l fs cs e
        rw [Array.toArray_toList]
        simp [execOp, resolve, e, Deferred.ofValue, invoke]
    · rename_i r name hb
      simp only at hb h
      subst hb
      have hr := hρ r (by simp [Op.operands, Call.operands])
      split at h
      · rename_i t u hre
        rw [hre] at hr
        obtain ⟨u', hu, e⟩ := hr.iface_inv
        split at h
        · rename_i f hm
          refine wpIn_callV (f' := .func (.func f) #[] #[]) (args' := u' :: (args.map a.eval).toList) (fun _ hx => by cases hx) ?_ ?_ (hc _ _ _ _ _ h σ w _ _ hW hG (.func _ _ _ _ _ _ (.func f) rfl (fun i v v' x => by simp at x) rfl (fun i v v' x => by simp at x)) (.cons hu hl)) hn
          · intro i fs cs e'
            injection e' with e1 e2 e3
            injection e1 with e1
            subst e1; subst e2; subst e3
            have hx : (#[a.eval r] ++ args.map a.eval).extract 1 (args.size + 1) = args.map a.eval := by
              apply Array.toList_inj.1
              simp [List.extract_eq_take_drop]
              exact List.take_of_length_le (by simp)
            have h0 : (#[a.eval r] ++ args.map a.eval)[0]? = some (.iface t u') := by
              rw [Array.getElem?_append]; simp [e]
            have hsz : (#[a.eval r] ++ args.map a.eval).size = args.size + 1 := by simp; omega
            have hgo : (invoke (.fn (.method name) #[]) (#[a.eval r] ++ args.map a.eval)).run P w = (callFunc f (#[u'] ++ args.map a.eval)).run P w := by
              rw [show invoke (.fn (.method name) #[]) (#[a.eval r] ++ args.map a.eval) = (match (#[a.eval r] ++ args.map a.eval)[0]? with | some recv => callMethod recv name ((#[a.eval r] ++ args.map a.eval).extract 1 (#[a.eval r] ++ args.map a.eval).size) | none => stuck "call: a method without a receiver") from by unfold invoke; split <;> simp_all]
              rw [h0]
              simp only [hsz, hx, callMethod, Sem.run_bind, run_program, Result.andThen_ok, method_run hm u' w]
            have e3 : (#[] : Array Value) ++ (u' :: (args.map a.eval).toList).toArray ++ #[] = #[u'] ++ args.map a.eval := by
              apply Array.toList_inj.1
              simp
            rw [e3, ← hgo]
            simp [execOp, resolve]
          · intro l fs cs e'
            injection e' with e1 e2 e3
            cases e1
        · cases h
      · cases h
  · rename_i hnc
    refine wpIn_does ?_ (aOp_run hW h hρ) hn
    intro c hx
    unfold aOp at h
    rw [hx] at h
    cases h
end
end
section
variable [PlanTab]

def Grow (W W' : AW) : Prop := ∀ b o, W.get b = some o → W'.get b = some o
theorem Grow.refl (W : AW) : Grow W W := fun _ _ h => h
theorem Grow.add {W : AW} (hf : W.get W.next = none) (o : AObj) : Grow W (W.add o) := fun b o' h => by
  have : W.next ≠ b := fun e => by subst e; rw [hf] at h; cases h
  rw [AW.get_add_ne _ _ this]; exact h
def Agree (o : Oper) (R R' : PlanTab.Fr) : Prop := ∀ x ∈ o.op.operands, aEval R' x = aEval R x

theorem aPure_congr {P : Program} {o : Oper} {R R' : PlanTab.Fr} (h : Agree o R R') : aPure P R' o = aPure P R o := by
  unfold aPure
  have e1 : o.op.operands.toList.all (fun x => plain (aEval R' x)) = o.op.operands.toList.all (fun x => plain (aEval R x)) := by
    rw [Bool.eq_iff_iff]
    simp only [List.all_eq_true, Array.mem_toList_iff]
    exact ⟨fun k x hx => by rw [← h x hx]; exact k x hx, fun k x hx => by rw [h x hx]; exact k x hx⟩
  rw [e1]
  cases hn : notSelect o.op with
  | false => rfl
  | true => rw [execOp_congr o (fun cs b hs => by rw [hs] at hn; cases hn) (fun x hx => h x hx)]

theorem aEql_plain {P : Program} {W W' : AW} {t : TypeId} {x y : Value} (hx : plain x = true) : aEql P W' t x y = aEql P W t x y := by
  unfold aEql
  split
  case h_3 => simp [plain, plain1, scalar] at hx
  all_goals first
    | rfl
    | (simp only [*]; done)
    | skip
  all_goals (split <;> first | rfl | (simp_all; done) | skip)
theorem aEql_grow {P : Program} {W W' : AW} (hg : Grow W W') {t : TypeId} {x y : Value} {b : Bool} (h : aEql P W t x y = some b) : aEql P W' t x y = some b := by
  unfold aEql at h ⊢
  split at h <;> try exact h
  split at h <;> try (cases h; done)
  split at h <;> try (cases h; done)
  rename_i ca cb h1 h2
  rw [hg _ _ h1, hg _ _ h2]
  exact h

theorem cellsAt_grow {W W' : AW} (hg : Grow W W') {b : Nat} {cs : List Value} (h : cellsAt W b = some cs) : cellsAt W' b = some cs := by
  unfold cellsAt at h ⊢
  split at h
  · rename_i cs' h1; rw [hg _ _ h1]; exact h
  · rename_i cs' h1; rw [hg _ _ h1]; exact h
  · rename_i t' cs' h1; rw [hg _ _ h1]; exact h
  · cases h
theorem readN_grow {W W' : AW} (hg : Grow W W') {b off n : Nat} {l : List Value} (h : readN W b off n = some l) : readN W' b off n = some l := by
  rw [readN_def] at h ⊢
  split at h
  · rename_i cs hc; rw [cellsAt_grow hg hc]; exact h
  · cases h
theorem readSlice_grow {W W' : AW} (hg : Grow W W') {x : Value} {n : Nat} {l : List Value} (h : readSlice W x n = some l) : readSlice W' x n = some l := by
  unfold readSlice at h ⊢
  split at h
  · exact h
  · split at h
    · rename_i h0; rw [if_pos h0]; exact h
    · rename_i h0
      rw [if_neg h0]
      split at h
      · cases h
      · rename_i h1; rw [if_neg h1]; exact readN_grow hg h
  · cases h
theorem aConv_grow {P : Program} {W W' : AW} (hg : Grow W W') {s d : TypeId} {x v : Value} {alt : Option Value} (h : aConv P W s d x alt = some v) : aConv P W' s d x alt = some v := by
  unfold aConv at h ⊢
  split at h
  · rename_i a n c
    show aBytesStr P W' s d (.slice (some a) n c) = some v
    unfold aBytesStr at h ⊢
    dsimp only at h ⊢
    split at h
    · rename_i e hs hd
      split at h
      · rename_i he
        split at h
        · rename_i cs hcs
          rw [readSlice_grow hg hcs]
          exact h
        · cases h
      · cases h
    · cases h
  · exact h
theorem aLoad_grow {P : Program} {W W' : AW} (hg : Grow W W') {t : TypeId} {x v : Value} (h : aLoad P W t x = some v) : aLoad P W' t x = some v := by
  unfold aLoad at h ⊢
  split at h
  · rename_i a
    split at h
    · rename_i ha
      split at h
      · rename_i cs hc
        simp only [cellsAt_grow hg hc]
        exact h
      · cases h
    · rename_i ha
      split at h
      · rename_i n hn
        cases hr : readN W a.block a.off n with
        | none => rw [hr] at h; cases h
        | some l => rw [hr] at h; rw [readN_grow hg hr]; exact h
      · cases h
    · cases h
  · cases h
theorem aLookup_grow {P : Program} {W W' : AW} (hg : Grow W W') {t : TypeId} {m k v : Value} {ok : Bool} (h : aLookup P W t m k ok = some v) : aLookup P W' t m k ok = some v := by
  unfold aLookup at h ⊢
  split at h
  · exact h
  · rename_i kt e r hu
    split at h
    · rename_i es c hr
      simp only [hg _ _ hr]
      exact h
    · cases h
  · cases h

theorem parts_congr {R R' : PlanTab.Fr} {ps : Array (Nat × Operand)} (h : ∀ p ∈ ps.toList, aEval R' p.2 = aEval R p.2) : parts R' ps = parts R ps := by
  unfold parts
  exact List.map_congr_left fun p hp => by rw [h p hp]

set_option maxHeartbeats 1000000 in
theorem keep_step {P : Program} {call : Callee} {o : Oper} {R : PlanTab.Fr} {W W1 : AW} {v : Value} (hk : kindE o ≤ 1) (h : aOpC P call o R W = some (v, W1)) :
    W1 = W ∧ ∀ R' W', Agree o R R' → (kindE o = 0 ∨ Grow W W') → aOpC P call o R' W' = some (v, W') := by
  have hmap : ∀ (x : Option Value), (x.map fun v => (v, W)) = some (v, W1) → x = some v ∧ W1 = W := by
    intro x hx
    cases x with
    | none => cases hx
    | some u => simp at hx; exact ⟨by rw [hx.1], hx.2.symm⟩
  have hpc : ∀ R', Agree o R R' → aPure P R' o = aPure P R o := fun R' ha => aPure_congr ha
  obtain ⟨dst, op, type, pos, after, guard⟩ := o
  cases op <;> simp only [kindE] at hk <;> (try (exfalso; omega)) <;> simp only [aOpC_eq, aOpS, aOp] at h ⊢ <;> simp only [Agree, Op.operands] at hpc ⊢
  case move x => injection h with h; injection h with h1 h2; subst h1; subst h2; exact ⟨rfl, fun R' W' ha _ => by rw [ha x (by simp)]⟩
  case assign x => injection h with h; injection h with h1 h2; subst h1; subst h2; exact ⟨rfl, fun R' W' ha _ => by rw [ha x (by simp)]⟩
  case pick c a b =>
    split at h <;> (try (cases h; done)) <;> rename_i hcc <;> injection h with h <;> injection h with h1 h2 <;> subst h1 <;> subst h2 <;>
      exact ⟨rfl, fun R' W' ha _ => by rw [ha c (by simp), ha a (by simp), ha b (by simp), hcc]⟩
  case build t ps =>
    obtain ⟨hb, rfl⟩ := hmap _ h
    refine ⟨rfl, fun R' W' ha _ => ?_⟩
    have : aBuild P R' t ps = aBuild P R t ps := by
      unfold aBuild
      rw [parts_congr fun p hp => ha p.2 (by simp; exact ⟨p.1, by simpa using hp⟩)]
    rw [this, hb]; rfl
  case nilCheck x =>
    split at h <;> (try (cases h; done)) <;> rename_i hcc <;> injection h with h <;> injection h with h1 h2 <;> subst h1 <;> subst h2 <;>
      exact ⟨rfl, fun R' W' ha _ => by rw [ha x (by simp), hcc]⟩
  case unOp op t x =>
    obtain ⟨hb, rfl⟩ := hmap _ h
    exact ⟨rfl, fun R' W' ha _ => by rw [hpc R' (fun y hy => ha y hy), hb]; rfl⟩
  case convert s d x =>
    obtain ⟨hb, rfl⟩ := hmap _ h
    refine ⟨rfl, fun R' W' ha hg => ?_⟩
    have hg' : Grow W1 W' := hg.resolve_left (by simp [kindE])
    rw [ha x (by simp), hpc R' (fun y hy => ha y hy), aConv_grow hg' hb]; rfl
  case makeInterface t x =>
    split at h
    · cases h
    · rename_i d hd hu
      injection h with h; injection h with h1 h2; subst h1; subst h2
      exact ⟨rfl, fun R' W' ha _ => by rw [ha x (by simp)]⟩
    · cases h
  case slice t x lo hi mx =>
    have key : ∀ R', (∀ y ∈ #[x] ++ lo.toArray ++ hi.toArray ++ mx.toArray, aEval R' y = aEval R y) → aSlice P t (aEval R' x) (lo.map (aEval R')) (hi.map (aEval R')) (mx.map (aEval R')) = aSlice P t (aEval R x) (lo.map (aEval R)) (hi.map (aEval R)) (mx.map (aEval R)) := by
      intro R' ha
      have e1 : aEval R' x = aEval R x := ha x (by simp)
      have e2 : lo.map (aEval R') = lo.map (aEval R) := by
        cases lo with
        | none => rfl
        | some y => simp only [Option.map_some]; rw [ha y (by simp)]
      have e3 : hi.map (aEval R') = hi.map (aEval R) := by
        cases hi with
        | none => rfl
        | some y => simp only [Option.map_some]; rw [ha y (by simp)]
      have e4 : mx.map (aEval R') = mx.map (aEval R) := by
        cases mx with
        | none => rfl
        | some y => simp only [Option.map_some]; rw [ha y (by simp)]
      rw [e1, e2, e3, e4]
    split at h
    · rename_i u hs
      injection h with h; injection h with h1 h2; subst h1; subst h2
      exact ⟨rfl, fun R' W' ha _ => by rw [key R' (fun y hy => ha y (by simpa using hy)), hs]⟩
    · rename_i hs
      obtain ⟨hb, rfl⟩ := hmap _ h
      exact ⟨rfl, fun R' W' ha _ => by rw [key R' (fun y hy => ha y (by simpa using hy)), hs, hpc R' (fun y hy => ha y hy), hb]; rfl⟩
  case fieldAddr s x f =>
    split at h
    · rename_i fs a hu hx0
      split at h
      · rename_i fl hfl
        split at h
        · rename_i n hn
          injection h with h; injection h with h1 h2; subst h1; subst h2
          exact ⟨rfl, fun R' W' ha _ => by rw [ha x (by simp)]; simp [hu, hx0, hfl, hn]⟩
        · cases h
      · cases h
    · cases h
  case field t x f =>
    split at h
    · rename_i fs cs hu hx0
      split at h
      · rename_i fl hfl
        obtain ⟨hb, rfl⟩ := hmap _ h
        exact ⟨rfl, fun R' W' ha _ => by rw [ha x (by simp)]; simp [hu, hx0, hfl, hb]⟩
      · cases h
    · cases h
  case indexAddr t x i =>
    have : W1 = W := by
      split at h <;> (try (cases h; done)) <;> split at h <;> (try (cases h; done)) <;> split at h <;> (try (cases h; done)) <;> (injection h with h; injection h with h1 h2; exact h2.symm)
    subst this
    refine ⟨rfl, fun R' W' ha _ => ?_⟩
    rw [ha x (by simp), ha i (by simp)]
    split at h <;> (try (cases h; done)) <;> rename_i z hz <;> split at h <;> (try (cases h; done)) <;> split at h <;> (try (cases h; done)) <;> (injection h with h; injection h with h1 h2; simp [*])
  case index t x i =>
    split at h
    · rename_i len e cs n hu hx0 hi0
      split at h
      · rename_i z hz
        split at h
        · rename_i hlt
          obtain ⟨hb, rfl⟩ := hmap _ h
          exact ⟨rfl, fun R' W' ha _ => by rw [ha x (by simp), ha i (by simp)]; simp [hu, hx0, hi0, hz, hlt, hb]⟩
        · cases h
      · cases h
    · rename_i hno
      obtain ⟨hb, rfl⟩ := hmap _ h
      refine ⟨rfl, fun R' W' ha _ => ?_⟩
      rw [ha x (by simp), ha i (by simp)]
      split
      · rename_i len e cs n hu hx0 hi0
        exact absurd hi0 (by intro hi0; exact hno _ _ _ _ hu hx0 hi0)
      · rw [hpc R' (fun y hy => ha y hy), hb]; rfl
  case extract x i =>
    split at h
    · rename_i vs hx0
      obtain ⟨hb, rfl⟩ := hmap _ h
      exact ⟨rfl, fun R' W' ha _ => by rw [ha x (by simp), hx0]; simp [hb]⟩
    · cases h
  case typeAssert x s t ok =>
    split at h
    · cases h
    · rename_i hno u v0 hu hx0
      split at h
      · rename_i hut
        injection h with h; injection h with h1 h2; subst h1; subst h2
        exact ⟨rfl, fun R' W' ha _ => by rw [ha x (by simp)]; simp [hu, hx0, hut]⟩
      · cases h
    · cases h
  case load t a =>
    obtain ⟨hb, rfl⟩ := hmap _ h
    refine ⟨rfl, fun R' W' ha hg => ?_⟩
    have hg' : Grow W1 W' := hg.resolve_left (by simp [kindE])
    rw [ha a (by simp), aLoad_grow hg' hb]; rfl
  case lookup t m k ok =>
    obtain ⟨hb, rfl⟩ := hmap _ h
    refine ⟨rfl, fun R' W' ha hg => ?_⟩
    have hg' : Grow W1 W' := hg.resolve_left (by simp [kindE])
    rw [ha m (by simp), ha k (by simp), aLookup_grow hg' hb]; rfl
  case makeFunc fn first captured =>
    cases fn <;> (try (simp only [] at hk; exfalso; omega))
    rename_i f0
    simp only at h ⊢
    injection h with h; injection h with h1 h2; subst h1; subst h2
    refine ⟨rfl, fun R' W' ha _ => ?_⟩
    have e1 : first.map (aEval R') = first.map (aEval R) := Array.map_congr_left fun y hy => ha y (by simp [hy])
    have e2 : captured.map (aEval R') = captured.map (aEval R) := Array.map_congr_left fun y hy => ha y (by simp [hy])
    rw [e1, e2]
  case binOp op t x y yt =>
    by_cases hop : op = .eql ∨ op = .neq
    · have hne : ∀ W', (kindE (⟨dst, .binOp op t x y yt, type, pos, after, guard⟩ : Oper) = 0 ∨ Grow W W') → Grow W W' := fun W' hg => hg.resolve_left (by rcases hop with rfl | rfl <;> simp [kindE])
      split at h
      · rename_i u hb
        injection h with h; injection h with h1 h2; subst h1; subst h2
        refine ⟨rfl, fun R' W' ha hg => ?_⟩
        have hg' := hne W' hg
        have : aBin P W' op t (aEval R x) (aEval R y) = some u := by
          unfold aBin at hb ⊢
          split at hb
          · exact hb
          · split at hb
            · cases he : aEql P W t (aEval R x) (aEval R y) with
              | none =>
                rw [he] at hb
                cases ht : aEqT P t (aEval R x) (aEval R y) with
                | none => rw [ht] at hb; cases hb
                | some b => rw [aEqT_none ht W', ← ht] ; rw [ht] at hb ⊢; exact hb
              | some b => rw [he] at hb; simp only [aEql_grow hg' he]; exact hb
            · cases he : aEql P W t (aEval R x) (aEval R y) with
              | none =>
                rw [he] at hb
                cases ht : aEqT P t (aEval R x) (aEval R y) with
                | none => rw [ht] at hb; cases hb
                | some b => rw [aEqT_none ht W', ← ht] ; rw [ht] at hb ⊢; exact hb
              | some b => rw [he] at hb; simp only [aEql_grow hg' he]; exact hb
            · cases hb
        rw [ha x (by simp), ha y (by simp), this]
      · rename_i hb
        obtain ⟨hp, rfl⟩ := hmap _ h
        refine ⟨rfl, fun R' W' ha hg => ?_⟩
        have hpl : plain (aEval R x) = true := by
          unfold aPure at hp
          split at hp
          · rename_i hc
            simp only [Bool.and_eq_true, List.all_eq_true, Array.mem_toList_iff] at hc
            exact hc.2 x (by simp [Op.operands])
          · cases hp
        have : aBin P W' op t (aEval R x) (aEval R y) = none := by
          rw [← hb]
          unfold aBin
          split
          · rfl
          · split
            · rw [aEql_plain hpl]
            · rw [aEql_plain hpl]
            · rfl
        rw [ha x (by simp), ha y (by simp), this, hpc R' (fun y hy => ha y hy), hp]; rfl
    · have hsame : ∀ W', aBin P W' op t (aEval R x) (aEval R y) = aBin P W op t (aEval R x) (aEval R y) := by
        intro W'
        unfold aBin
        split
        · rfl
        · cases op <;> simp at hop ⊢
      split at h
      · rename_i u hb
        injection h with h; injection h with h1 h2; subst h1; subst h2
        exact ⟨rfl, fun R' W' ha hg => by rw [ha x (by simp), ha y (by simp), hsame W', hb]⟩
      · rename_i hb
        obtain ⟨hp, rfl⟩ := hmap _ h
        exact ⟨rfl, fun R' W' ha hg => by rw [ha x (by simp), ha y (by simp), hsame W', hb, hpc R' (fun y hy => ha y hy), hp]; rfl⟩
  case call c =>
    obtain ⟨callee, args, argTypes⟩ := c
    cases callee with
    | value f => simp only at hk; exfalso; omega
    | invoke r name => simp only at hk; exfalso; omega
    | builtin b =>
      cases b <;> (try (simp only at hk; exfalso; omega))
      simp only at h ⊢
      have hargs : ∀ R', (∀ y ∈ (Call.operands { callee := .builtin .len, args, argTypes }), aEval R' y = aEval R y) → args.toList.map (aEval R') = args.toList.map (aEval R) := fun R' ha =>
        List.map_congr_left fun y hy => ha y (by simp only [Call.operands]; simpa using hy)
      unfold aBuiltin at h
      split at h
      · rename_i n c hl
        split at h
        · rename_i e hu
          injection h with h; injection h with h1 h2; subst h1; subst h2
          exact ⟨rfl, fun R' W' ha hg => by unfold aBuiltin; rw [hargs R' ha, hl]; simp only [hu]⟩
        · cases h
      · rename_i hl
        split at h
        · rename_i k e hu
          injection h with h; injection h with h1 h2; subst h1; subst h2
          exact ⟨rfl, fun R' W' ha hg => by unfold aBuiltin; rw [hargs R' ha, hl]; simp only [hu]⟩
        · cases h
      · rename_i r hl
        split at h
        · rename_i k e es c hu hr
          injection h with h; injection h with h1 h2; subst h1; subst h2
          refine ⟨rfl, fun R' W' ha hg => ?_⟩
          have hg' : Grow W W' := hg.resolve_left (by simp [kindE])
          unfold aBuiltin; rw [hargs R' ha, hl]; simp only [hu, hg' _ _ hr]
        · cases h
      · rename_i hb hl; cases hb
      · rename_i hb hl; cases hb
      · rename_i hb hl; cases hb
      · rename_i hb hl; cases hb
      · rename_i hb hl; cases hb
      · rename_i hb hl; cases hb
      · rename_i h1 h2 h3 _ _ _ _ _ _
        obtain ⟨hp, rfl⟩ := hmap _ h
        refine ⟨rfl, fun R' W' ha hg => ?_⟩
        unfold aBuiltin
        rw [hargs R' ha]
        split
        · rename_i hl; exact absurd hl (h1 _ _ _ rfl)
        · rename_i hl; exact absurd hl (h2 rfl)
        · rename_i hl; exact absurd hl (h3 _ rfl)
        · rename_i hb hl; cases hb
        · rename_i hb hl; cases hb
        · rename_i hb hl; cases hb
        · rename_i hb hl; cases hb
        · rename_i hb hl; cases hb
        · rename_i hb hl; cases hb
        · rw [hpc R' (fun y hy => ha y hy), hp]; rfl
end
section
variable [PlanTab]

theorem newRow_raw {P : Program} {σ : Inj} {b : Nat} (hb : σ b = none) (w : World) (t : TypeId) {cs cs' : List Value} (hc : LR σ cs cs') :
    (newRow t cs'.toArray).run P w = .ok ⟨w.heap.size, 0, none⟩ { w with heap := w.heap.push (.cells cs'.toArray t) } ∧
    ORel (bind1 σ b ⟨w.heap.size, 0, cs.length⟩) (w.heap.push (.cells cs'.toArray t)) ⟨w.heap.size, 0, cs.length⟩ (.cells cs) := by
  refine ⟨by simp [newRow], ⟨cs'.toArray, t, (0, 0), by simp, fun _ => rfl, by simp, by simp [hc.1], fun i v hv => ?_⟩⟩
  obtain ⟨v', a, b⟩ := hc.get hv
  exact ⟨v', by simpa using a, b.mono (bind1_sub hb)⟩

def Lays (P : Program) (R : PlanTab.Fr) (o : Oper) (obj : AObj) (mk : Nat → Value) : Prop :=
  ∀ (σ : Inj) (ρ : Operand → Value) (w : World) (b : Nat), (∀ x ∈ o.op.operands, VR σ (aEval R x) (ρ x)) → σ b = none →
    ∃ v' x e, (execOp ρ o).run P w = .ok (.value v') { w with heap := w.heap.push x } ∧ VR (bind1 σ b ⟨w.heap.size, 0, e⟩) (mk b) v' ∧ ORel (bind1 σ b ⟨w.heap.size, 0, e⟩) (w.heap.push x) ⟨w.heap.size, 0, e⟩ obj
theorem Lays.agree {P : Program} {R R' : PlanTab.Fr} {o : Oper} {obj : AObj} {mk : Nat → Value} (h : Lays P R o obj mk) (ha : Agree o R R') : Lays P R' o obj mk :=
  fun σ ρ w b hρ hb => h σ ρ w b (fun x hx => by rw [← ha x hx]; exact hρ x hx) hb
theorem lays_row {P : Program} {R : PlanTab.Fr} {o : Oper} {t : TypeId} {cs : List Value} (h : ∀ (σ : Inj) (ρ : Operand → Value) (w : World), (∀ x ∈ o.op.operands, VR σ (aEval R x) (ρ x)) →
    ∃ cs', LR σ cs cs' ∧ (execOp ρ o).run P w = ((do pure (.value (.pointer (some (← newRow t cs'.toArray))))) : Sem Next).run P w) :
    Lays P R o (.cells cs) (fun b => .pointer (some ⟨b, 0, none⟩)) := by
  intro σ ρ w b hρ hb
  obtain ⟨cs', hc, hr⟩ := h σ ρ w hρ
  obtain ⟨h1, h2⟩ := newRow_raw (P := P) hb w t hc
  refine ⟨.pointer (some ⟨w.heap.size, 0, none⟩), .cells cs'.toArray t, cs.length, by rw [hr]; simp only [Sem.run_bind, h1, Result.andThen_ok, Sem.run_pure], ?_, h2⟩
  have := VR.ptr (σ := bind1 σ b ⟨w.heap.size, 0, cs.length⟩) ⟨b, 0, none⟩ _ bind1_same rfl
  simpa using this

theorem lays_rowT {P : Program} {R : PlanTab.Fr} {o : Oper} {t : TypeId} {cs : List Value} (h : ∀ (σ : Inj) (ρ : Operand → Value) (w : World), (∀ x ∈ o.op.operands, VR σ (aEval R x) (ρ x)) →
    ∃ cs', LR σ cs cs' ∧ (execOp ρ o).run P w = ((do pure (.value (.pointer (some (← newRow t cs'.toArray))))) : Sem Next).run P w) :
    Lays P R o (rowObj t cs) (fun b => .pointer (some ⟨b, 0, none⟩)) := by
  intro σ ρ w b hρ hb
  obtain ⟨cs', hc, hr⟩ := h σ ρ w hρ
  obtain ⟨h1, _⟩ := newRow_raw (P := P) hb w t hc
  refine ⟨.pointer (some ⟨w.heap.size, 0, none⟩), .cells cs'.toArray t, cs.length, by rw [hr]; simp only [Sem.run_bind, h1, Result.andThen_ok, Sem.run_pure], ?_, rowObj_rel (hc.mono (bind1_sub hb)) (by simp)⟩
  have := VR.ptr (σ := bind1 σ b ⟨w.heap.size, 0, cs.length⟩) ⟨b, 0, none⟩ _ bind1_same rfl
  simpa using this

set_option maxHeartbeats 1000000 in
theorem lay_step {P : Program} {call : Callee} {o : Oper} {R : PlanTab.Fr} {W W1 : AW} {v : Value} (hk : kindE o = 2) (h : aOpC P call o R W = some (v, W1)) :
    ∃ obj mk, (∀ cs, obj ≠ .ro cs) ∧ v = mk W.next ∧ W1 = W.add obj ∧ Lays P R o obj mk := by
  obtain ⟨dst, op, type, pos, after, guard⟩ := o
  cases op <;> simp only [kindE] at hk <;> (try (exfalso; omega)) <;> simp only [aOpC_eq, aOpS, aOp] at h
  case alloc t =>
    split at h
    · rename_i z hz
      injection h with h
      rw [AW.new_eq] at h
      injection h with h1 h2
      refine ⟨rowObj t z.cells.toList, fun b => .pointer (some ⟨b, 0, none⟩), rowObj_ne t _, h1.symm, h2.symm, lays_rowT (t := t) fun σ ρ w hρ => ?_⟩
      obtain ⟨hz1, hz2⟩ := tZero_run hz w
      refine ⟨z.cells.toList, zero_AR hz2, ?_⟩
      simp [execOp, Instr.alloc, hz1, newVar]
    · cases h
  case box t x =>
    injection h with h
    rw [AW.new_eq] at h
    injection h with h1 h2
    refine ⟨.cells (aEval R x).cells.toList, fun b => .pointer (some ⟨b, 0, none⟩), fun _ => by simp, h1.symm, h2.symm, lays_row (t := t) fun σ ρ w hρ => ?_⟩
    refine ⟨(ρ x).cells.toList, (hρ x (by simp [Op.operands])).cells, ?_⟩
    simp [execOp, Instr.box, newVar]
  case buildSlice t len ps =>
    replace h := aBuildSlice_imp h
    unfold aBuildSliceO at h
    split at h
    · rename_i e hu
      split at h
      · rename_i n z hn hz
        split at h
        · rename_i hc
          obtain ⟨hc1, hc2, hc3⟩ := hc
          split at h
          · rename_i c hf
            injection h with h
            rw [AW.new_eq] at h
            injection h with h1 h2
            refine ⟨.cells c.toList, fun b => .slice (some ⟨b, 0, none⟩) len len, fun _ => by simp, h1.symm, h2.symm, ?_⟩
            intro σ ρ w b hρ hb
            have hp := parts_rel (σ := σ) (R := R) (ρ := ρ) ps (fun p hp => hρ p.2 (by simp [Op.operands]; exact ⟨p.1, by simpa using hp⟩))
            obtain ⟨hz1, hz2⟩ := tZero_run hz w
            obtain ⟨out', h1, h2⟩ := fill_rel _ _ _ _ _ _ hp (LR.refl_of (σ := σ) (fun _ => scalar_refl) hc3) hf
            obtain ⟨k1, k2⟩ := newRow_raw (P := P) hb w e (cs := c.toList) (cs' := out'.toList) h2
            refine ⟨.slice (some ⟨w.heap.size, 0, none⟩) len len, .cells out'.toList.toArray e, c.toList.length, ?_, ?_, k2⟩
            · have hlim : ¬ len * n > 2 ^ 24 := by omega
              simp only [Array.toArray_toList] at k1
              have : (Instr.buildSlice t len (ps.map fun (i, x) => (i, ρ x))).run P w = .ok (.slice (some ⟨w.heap.size, 0, none⟩) len len) { w with heap := w.heap.push (.cells out' e) } := by
                by_cases h0 : len * n = 0
                · rw [rowOf_zero h0] at h1
                  simp only [Instr.buildSlice, Sem.run_bind, run_underlying hu, Result.andThen_ok, run_sizeOf' hn, if_neg hlim, Sem.run_pure, if_pos h0]
                  rw [show (Array.map (fun x => (#[] : Array Value)[x % (#[] : Array Value).size]!) (Array.range (len * n))) = #[] by rw [h0]; simp, h1]
                  simp [k1]
                · rw [rowOf_pos h0] at h1
                  simp only [Instr.buildSlice, Sem.run_bind, run_underlying hu, Result.andThen_ok, run_sizeOf' hn, if_neg hlim, Sem.run_pure, if_neg h0, hz1]
                  rw [show (Array.map (fun x => z.cells[x % z.cells.size]!) (Array.range (len * n))) = zrow z (len * n) from rfl, h1]
                  simp [k1]
              simp only [execOp, Sem.run_bind, this, Result.andThen_ok, Sem.run_pure, Array.toArray_toList]
            · have := VR.slice (σ := bind1 σ b ⟨w.heap.size, 0, c.toList.length⟩) ⟨b, 0, none⟩ len len len _ bind1_same rfl (.known len hc2)
              simpa using this
          · cases h
        · cases h
      · cases h
    · cases h
  case makeSlice t l c =>
    unfold aMakeSlice at h
    split at h
    · rename_i e hu
      split at h
      · rename_i n z bytes kl l0 kc c0 hn hz hbt hel hec
        split at h
        · rename_i hcond
          obtain ⟨c1, c2, c3, c4⟩ := hcond
          injection h with h
          rw [AW.new_eq] at h
          injection h with h1 h2
          refine ⟨.cells (rowOf z (c0 * n)).toList, fun b => .slice (some ⟨b, 0, none⟩) l0 c0, fun _ => by simp, h1.symm, h2.symm, ?_⟩
          intro σ ρ w b hρ hb
          have hl := hρ l (by simp [Op.operands])
          have hc := hρ c (by simp [Op.operands])
          rw [hel] at hl
          rw [hec] at hc
          have hl' := hl.int_inv
          have hc' := hc.int_inv
          obtain ⟨hz1, hz2⟩ := tZero_run hz w
          have hi : ∃ i, P.info? e = some i ∧ i.bytes = bytes := by
            cases hi : P.info? e with
            | none => rw [hi] at hbt; cases hbt
            | some i => rw [hi] at hbt; simp at hbt; exact ⟨i, rfl, hbt⟩
          obtain ⟨i, hi, hib⟩ := hi
          have hrow : LR σ (rowOf z (c0 * n)).toList (rowOf z (c0 * n)).toList := LR.refl_of (fun _ => scalar_refl) c4
          obtain ⟨k1, k2⟩ := newRow_raw (P := P) hb w e hrow
          refine ⟨.slice (some ⟨w.heap.size, 0, none⟩) l0 c0, .cells (rowOf z (c0 * n)).toList.toArray e, _, ?_, ?_, k2⟩
          · have : (Instr.makeSlice t (ρ l) (ρ c)).run P w = .ok (.slice (some ⟨w.heap.size, 0, none⟩) l0 c0) { w with heap := w.heap.push (.cells (rowOf z (c0 * n)).toList.toArray e) } := by
              rw [hl', hc']
              have hwl : IntKind.i64.wrap (Int.ofNat l0) = (l0 : Int) := wrap_nat (by omega)
              have hwc : IntKind.i64.wrap (Int.ofNat c0) = (c0 : Int) := wrap_nat c2
              have hinfo : (typeInfo e).run P w = .ok i w := by simp [typeInfo, hi]
              have hmul : (bytes : Int) * (c0 : Int) ≤ 281474976710656 := by
                have : ((c0 * bytes : Nat) : Int) ≤ 281474976710656 := by omega
                rw [Int.natCast_mul, Int.mul_comm] at this
                exact this
              simp only [Array.toArray_toList] at k1
              have hcond2 : ¬ (((decide ((c0 : Int) < 0) || decide ((i.bytes : Int) * (c0 : Int) > 2 ^ 48)) || decide ((l0 : Int) < 0) || decide ((l0 : Int) > (c0 : Int))) = true) := by
                rw [hib]
                simp
                omega
              simp only [Instr.makeSlice, Sem.run_bind, run_underlying hu, Result.andThen_ok, asInt, asIntOf, Sem.run_pure, hinfo, hwl, hwc]
              rw [if_neg (by simpa using hcond2)]
              by_cases h0 : c0 * n = 0
              · rw [rowOf_zero h0] at k1 ⊢
                simp only [Sem.run_bind, run_askRoom, Result.andThen_ok, Int.toNat_natCast, run_sizeOf' hn, if_pos h0, Sem.run_pure]
                rw [show (Array.map (fun x => (#[] : Array Value)[x % (#[] : Array Value).size]!) (Array.range (c0 * n))) = #[] by rw [h0]; simp, k1]
                simp
              · rw [rowOf_pos h0] at k1 ⊢
                simp only [Sem.run_bind, run_askRoom, Result.andThen_ok, Int.toNat_natCast, run_sizeOf' hn, if_neg h0, hz1, Sem.run_pure]
                rw [show (Array.map (fun x => z.cells[x % z.cells.size]!) (Array.range (c0 * n))) = zrow z (c0 * n) from rfl, k1]
                simp
            simp only [execOp, Sem.run_bind, this, Result.andThen_ok, Sem.run_pure]
          · have := VR.slice (σ := bind1 σ b ⟨w.heap.size, 0, (rowOf z (c0 * n)).toList.length⟩) ⟨b, 0, none⟩ l0 c0 c0 _ bind1_same rfl (.known c0 (by unfold BIG; omega))
            simpa using this
        · cases h
      · cases h
    · cases h
  case binOp op t x y yt => split at hk <;> omega
  case makeFunc fn a b => cases fn <;> simp only [] at hk <;> omega
  case call c =>
    obtain ⟨callee, args, argTypes⟩ := c
    cases callee <;> simp only at hk <;> (try omega)
    rename_i b
    cases b <;> simp only at hk <;> omega

section
variable {σ : Inj} {W : AW} {w : World}
theorem WRel.ghost (h : WRel σ W w.heap) (o : AObj) : WRel σ (W.add o) w.heap := by
  have hne : ∀ {c : Nat} {g : Seg}, σ c = some g → c ≠ W.next := fun hc e => by have := (h.dom _ _ hc).1; omega
  refine ⟨?_, ?_, ?_, ?_⟩
  · intro c hc
    have hc' : W.next + 1 ≤ c := hc
    rw [AW.get_add_ne _ _ (by omega)]
    exact h.free c (by omega)
  · intro c g hc
    have := h.dom c g hc
    simp only [AW.add_next]; omega
  · intro c o2 g hc hg
    rw [AW.get_add_ne _ _ (Ne.symm (hne hg))] at hc
    exact h.obj c o2 g hc hg
  · intro b1 b2 o1 o2 g1 g2 hbb h1 h2 k1 k2 hr
    rw [AW.get_add_ne _ _ (Ne.symm (hne k1))] at h1
    rw [AW.get_add_ne _ _ (Ne.symm (hne k2))] at h2
    exact h.disj _ _ _ _ _ _ hbb h1 h2 k1 k2 hr
theorem WRel.bind (h : WRel σ W w.heap) {b e : Nat} {o : AObj} {x : Obj} (hb : W.get b = some o) (hfr : σ b = none)
    (hnew : ORel (bind1 σ b ⟨w.heap.size, 0, e⟩) (w.heap.push x) ⟨w.heap.size, 0, e⟩ o) :
    WRel (bind1 σ b ⟨w.heap.size, 0, e⟩) W (w.heap.push x) := by
  have hs : Sub σ (bind1 σ b ⟨w.heap.size, 0, e⟩) := bind1_sub hfr
  have hold : ∀ B, B < w.heap.size → (w.heap.push x)[B]? = w.heap[B]? := fun B hB => by
    rw [Array.getElem?_push]; rw [if_neg (by omega)]
  have hinv : ∀ c g, bind1 σ b ⟨w.heap.size, 0, e⟩ c = some g → (c = b ∧ g = ⟨w.heap.size, 0, e⟩) ∨ (c ≠ b ∧ σ c = some g) := fun c g hc => by
    unfold bind1 at hc
    split at hc
    · rename_i hx; injection hc with hc; exact .inl ⟨hx, hc.symm⟩
    · rename_i hx; exact .inr ⟨hx, hc⟩
  have hbn : b < W.next := by
    rcases Nat.lt_or_ge b W.next with h1 | h1
    · exact h1
    · rw [h.free b h1] at hb; cases hb
  refine ⟨h.free, ?_, ?_, ?_⟩
  · intro c g hc
    rcases hinv c g hc with ⟨rfl, rfl⟩ | ⟨_, h2⟩
    · exact ⟨hbn, by simp⟩
    · have := h.dom c g h2
      simp; omega
  · intro c o2 g hc hk
    rcases hinv c g hk with ⟨rfl, rfl⟩ | ⟨h1, h2⟩
    · rw [hb] at hc; injection hc with hc; subst hc; exact hnew
    · exact ((h.obj c o2 g hc h2).mono hs).same (hold _ (h.dom c g h2).2)
  · intro b1 b2 o1 o2 g1 g2 hbb h1 h2 k1 k2 hr
    rcases hinv b1 g1 k1 with ⟨rfl, rfl⟩ | ⟨x1, y1⟩
    · rcases hinv b2 g2 k2 with ⟨rfl, rfl⟩ | ⟨x2, y2⟩
      · exact absurd rfl hbb
      · have := (h.dom _ _ y2).2
        exact .inl (by simp only [ne_eq]; omega)
    · rcases hinv b2 g2 k2 with ⟨rfl, rfl⟩ | ⟨x2, y2⟩
      · have := (h.dom _ _ y1).2
        exact .inl (by simp only [ne_eq]; omega)
      · exact h.disj _ _ _ _ _ _ hbb h1 h2 y1 y2 hr
theorem Ext.ghost_add {σ0 : Inj} {W0 : AW} {w0 : World} (h : Ext σ0 W0 w0 σ W w) (hw : W.get W.next = none) (o : AObj) : Ext σ0 W0 w0 σ (W.add o) w :=
  ⟨h.sub, fun b cs x => by
      have h1 := h.ro b cs x
      have : W.next ≠ b := fun e => by subst e; rw [hw] at h1; cases h1
      rw [AW.get_add_ne _ _ this]; exact h1,
    h.size, h.os, h.tape, h.output, h.keep, fun b o2 h1 h2 => by
      obtain ⟨a1, a2⟩ := h.ghost b o2 h1 h2
      have : W.next ≠ b := fun e => by subst e; rw [hw] at a1; cases a1
      exact ⟨by rw [AW.get_add_ne _ _ this]; exact a1, a2⟩, h.grow⟩
theorem Ext.bind {σ0 : Inj} {W0 : AW} {w0 : World} (h : Ext σ0 W0 w0 σ W w) {b e : Nat} (hfr : σ b = none) (h0 : W0.get b = none) {x : Obj} {o : AObj} (hnew : ORel (bind1 σ b ⟨w.heap.size, 0, e⟩) (w.heap.push x) ⟨w.heap.size, 0, e⟩ o) (hro : ∀ cs, o ≠ .ro cs) :
    Ext σ0 W0 w0 (bind1 σ b ⟨w.heap.size, 0, e⟩) W { w with heap := w.heap.push x } := by
  have hs : Sub σ (bind1 σ b ⟨w.heap.size, 0, e⟩) := bind1_sub hfr
  refine ⟨h.sub.trans hs, h.ro, by have := h.size; simp; omega, h.os, h.tape, h.output, ?_, ?_, ?_⟩
  · intro B hB hm
    rw [← h.keep B hB hm]
    have := h.size
    show (w.heap.push x)[B]? = _
    rw [Array.getElem?_push, if_neg (by omega)]
  · intro c o2 h1 h2
    obtain ⟨a1, a2⟩ := h.ghost c o2 h1 h2
    have : c ≠ b := fun e => by subst e; rw [h0] at h1; cases h1
    exact ⟨a1, by unfold bind1; rw [if_neg this]; exact a2⟩
  · intro c g hk hB
    unfold bind1 at hk
    split at hk
    · injection hk with hk; subst hk; have := h.size; simp at hB; omega
    · exact h.grow c g hk hB
end
end
section
variable [PlanTab]

theorem inD_iff {d : Option Tmp} {l : List Tmp} : inD d l = true ↔ ∃ t, d = some t ∧ t ∈ l := by
  cases d with
  | none => simp [inD]
  | some d => simp [inD, inL_iff]
theorem inD_false {d : Option Tmp} {l : List Tmp} (h : inD d l = false) {t : Tmp} (ht : d = some t) : t ∉ l := fun hm => by
  have := inD_iff.2 ⟨t, ht, hm⟩
  rw [h] at this; cases this

noncomputable def wantedA (ops : Array Oper) (R : PlanTab.Fr) (o : Oper) : Bool :=
  match o.guard with
  | none => true
  | some (j, w) => match (ops[j]?).bind (·.dst) with
    | some t => (match rget R t with | .bool b => b == w | _ => false)
    | none => false

theorem looks_op {ops : Array Oper} {o : Oper} {t : Tmp} (h : Operand.tmp t ∈ o.op.operands) : t ∈ o.looksAt ops := by
  unfold Oper.looksAt
  refine List.mem_append.2 (.inl (List.mem_filterMap.2 ⟨.tmp t, by simpa using h, rfl⟩))
theorem looks_guard {ops : Array Oper} {o : Oper} {j : Nat} {w : Bool} {t : Tmp} (h : o.guard = some (j, w)) (ht : (ops[j]?).bind (·.dst) = some t) : t ∈ o.looksAt ops := by
  unfold Oper.looksAt
  refine List.mem_append.2 (.inr ?_)
  rw [h]
  simp only
  rw [ht]
  simp
theorem aEval_agree {R R' : PlanTab.Fr} {x : Operand} (h : ∀ t, x = .tmp t → rget R' t = rget R t) : aEval R' x = aEval R x := by
  cases x with
  | tmp t => exact h t rfl
  | _ => rfl
theorem agree_of {ops : Array Oper} {o : Oper} {R R' : PlanTab.Fr} (h : ∀ t ∈ o.looksAt ops, rget R' t = rget R t) : Agree o R R' ∧ wantedA ops R' o = wantedA ops R o := by
  refine ⟨fun x hx => aEval_agree fun t ht => h t (looks_op (by rw [← ht]; exact hx)), ?_⟩
  unfold wantedA
  split
  · rfl
  · rename_i j w hg
    split
    · rename_i t ht
      rw [h t (looks_guard hg ht)]
    · rfl
theorem VR.bool_back {σ : Inj} {v : Value} {b : Bool} (h : VR σ v (.bool b)) : v = .bool b := by cases h; rfl
theorem wanted_eq {ops : Array Oper} {o : Oper} {σ : Inj} {R : PlanTab.Fr} {a : Act} (h : ∀ t ∈ o.looksAt ops, VR σ (rget R t) (a.tmps.getD t undef)) :
    Region.wanted o (yielded ops a.tmps) = wantedA ops R o := by
  unfold Region.wanted wantedA
  cases hg : o.guard with
  | none => rfl
  | some jw =>
    obtain ⟨j, w⟩ := jw
    simp only
    unfold yielded
    cases ht : (ops[j]?).bind (·.dst) with
    | none => rfl
    | some t =>
      have hv := h t (looks_guard hg ht)
      simp only [Option.bind_some]
      cases hq : a.tmps[t]? with
      | none =>
        have he : a.tmps.getD t undef = undef := by simp [hq]
        rw [he] at hv
        have : ∀ b, rget R t ≠ .bool b := fun b hb => by rw [hb] at hv; have := hv.bool_inv; simp [undef] at this
        simp only
        first
          | rfl
          | (split
             · rename_i b hb; exact absurd hb (this b)
             · rfl)
      | some u =>
        have he : a.tmps.getD t undef = u := by simp [hq]
        rw [he] at hv
        cases hr : rget R t with
        | bool b => rw [hr] at hv; have := hv.bool_inv; subst this; simp
        | _ =>
          simp only
          split
          · rename_i b hb; injection hb with hb; subst hb; have := hv.bool_back; rw [hr] at this; cases this
          · rfl

noncomputable def aStep (P : Program) (call : Callee) (ops : Array Oper) (o : Oper) (R : PlanTab.Fr) (W : AW) : Option (PlanTab.Fr × AW) :=
  if wantedA ops R o then
    match aOpC P call o R W with
    | some (v, W') => some (rput R o.dst v, W')
    | none => none
  else some (rput R o.dst undef, W)
noncomputable def aOps (P : Program) (call : Callee) (ops : Array Oper) : List Oper → PlanTab.Fr → AW → Option (PlanTab.Fr × AW)
  | [], R, W => some (R, W)
  | o :: l, R, W => match aStep P call ops o R W with
    | some (R', W') => aOps P call ops l R' W'
    | none => none

def bytesEq (a b : ByteArray) : Bool := decide (a.data.toList = b.data.toList)
def addrEq (a b : Addr) : Bool := Nat.beq a.block b.block && Nat.beq a.off b.off && a.spot.isNone && b.spot.isNone
def vs1 : Value → Value → Bool
  | .bool a, .bool b => a == b
  | .int k a, .int j b => decide (k = j) && decide (a = b)
  | .string a, .string b => bytesEq a b
  | .pointer none, .pointer none => true
  | .pointer (some a), .pointer (some b) => addrEq a b
  | .slice none l c, .slice none l' c' => Nat.beq l l' && Nat.beq c c'
  | .slice (some a) l c, .slice (some b) l' c' => addrEq a b && Nat.beq l l' && Nat.beq c c'
  | .map none, .map none => true
  | .map (some a), .map (some b) => Nat.beq a b
  | .nilFunc, .nilFunc => true
  | .nilIface, .nilIface => true
  | .func (.func f) a b, .func (.func g) c d => Nat.beq f g && a.isEmpty && b.isEmpty && c.isEmpty && d.isEmpty
  | _, _ => false
def vsL : List Value → List Value → Bool
  | [], [] => true
  | a :: l, b :: m => vs1 a b && vsL l m
  | _, _ => false
def vsame : Value → Value → Bool
  | .agg a, .agg b => vsL a.toList b.toList
  | .tuple a, .tuple b => vsL a.toList b.toList
  | .iface t a, .iface u b => Nat.beq t u && vs1 a b
  | a, b => vs1 a b
theorem bytesEq_eq {a b : ByteArray} (h : bytesEq a b = true) : a = b := by
  have := of_decide_eq_true h
  cases a; cases b
  simp only [ByteArray.mk.injEq]
  exact Array.toList_inj.1 this
theorem addrEq_eq {a b : Addr} (h : addrEq a b = true) : a = b := by
  simp only [addrEq, Bool.and_eq_true, Nat.beq_eq] at h
  obtain ⟨⟨⟨h1, h2⟩, h3⟩, h4⟩ := h
  obtain ⟨b1, o1, s1⟩ := a
  obtain ⟨b2, o2, s2⟩ := b
  cases s1 <;> cases s2 <;> simp_all
theorem vs1_eq {a b : Value} (h : vs1 a b = true) : a = b := by
  unfold vs1 at h
  split at h <;> first
    | rfl
    | (simp at h; done)
    | (simp only [Bool.and_eq_true, Nat.beq_eq, beq_iff_eq, decide_eq_true_eq] at h; simp [h]; done)
    | (rw [bytesEq_eq h]; done)
    | (rw [addrEq_eq h]; done)
    | (simp only [Bool.and_eq_true, Nat.beq_eq] at h; obtain ⟨⟨h1, h2⟩, h3⟩ := h; rw [addrEq_eq h1, h2, h3]; done)
    | (simp only [Bool.and_eq_true, Nat.beq_eq, Array.isEmpty_iff] at h; obtain ⟨⟨⟨⟨h1, h2⟩, h3⟩, h4⟩, h5⟩ := h; subst h1 h2 h3 h4 h5; rfl)
theorem vsL_eq {a b : List Value} (h : vsL a b = true) : a = b := by
  induction a generalizing b with
  | nil => cases b with | nil => rfl | cons x l => cases h
  | cons x l ih =>
    cases b with
    | nil => cases h
    | cons y m =>
      simp only [vsL, Bool.and_eq_true] at h
      rw [vs1_eq h.1, ih h.2]
theorem vsame_eq {a b : Value} (h : vsame a b = true) : a = b := by
  unfold vsame at h
  split at h
  · rw [Array.toList_inj.1 (vsL_eq h)]
  · rw [Array.toList_inj.1 (vsL_eq h)]
  · simp only [Bool.and_eq_true, Nat.beq_eq] at h; rw [h.1, vs1_eq h.2]
  · exact vs1_eq h

noncomputable def again (P : Program) (call : Callee) (ops : Array Oper) (R : PlanTab.Fr) (W : AW) (j : Nat) : Bool :=
  match ops[j]? with
  | none => false
  | some o => if wantedA ops R o then
      match aOpC P call o R W with
      | some (v, _) => (match o.dst with | some t => vsame v (rget R t) | none => true)
      | none => false
    else true
noncomputable def aPlan (P : Program) (call : Callee) (ops : Array Oper) : List (Nat × List Nat) → PlanTab.Fr → AW → Option (PlanTab.Fr × AW)
  | [], R, W => some (R, W)
  | (i, re) :: l, R, W => match ops[i]? with
    | none => none
    | some o => match aStep P call ops o R W with
      | some (R', W') => if re.all (again P call ops R' W') then aPlan P call ops l R' W' else none
      | none => none

theorem aOps_aPlan {P : Program} {call : Callee} {ops : Array Oper} : ∀ (l : List Nat) (R : PlanTab.Fr) (W : AW), (∀ i ∈ l, i < ops.size) →
    aPlan P call ops (l.map fun i => (i, [])) R W = aOps P call ops (l.filterMap fun i => ops[i]?) R W := by
  intro l
  induction l with
  | nil => intro R W _; rfl
  | cons i l ih =>
    intro R W h
    have hi : i < ops.size := h i (by simp)
    have hg : ops[i]? = some ops[i] := Array.getElem?_eq_getElem hi
    simp only [List.map_cons, aPlan, hg, List.filterMap_cons, aOps]
    split
    · rename_i R' W' hs
      simp only [List.all_nil, if_true]
      exact ih R' W' fun j hj => h j (by simp [hj])
    · rfl

theorem rget_rput_ne {R : PlanTab.Fr} {d : Option Tmp} {v : Value} {t : Tmp} (h : d ≠ some t) : rget (rput R d v) t = rget R t := by
  cases d with
  | none => rfl
  | some d => exact rget_rset_ne R v (fun e => h (by rw [e]))
theorem rget_rput {R : PlanTab.Fr} {d : Option Tmp} {v : Value} {t : Tmp} (h : d = some t) : rget (rput R d v) t = v := by
  subst h; exact rget_rset R t v
theorem put_getD_ne {a : Act} {d : Option Tmp} {v : Value} {t : Tmp} (h : d ≠ some t) : (a.put d v).tmps.getD t undef = a.tmps.getD t undef := by
  cases d with
  | none => rfl
  | some d =>
    have : d ≠ t := fun e => h (by rw [e])
    simp [Act.put, Array.getElem?_setIfInBounds_ne this]
theorem put_getD {a : Act} {d : Option Tmp} {v : Value} {t : Tmp} (h : d = some t) (ht : t < a.tmps.size) : (a.put d v).tmps.getD t undef = v := by
  subst h
  simp [Act.put, ht]
theorem put_size {a : Act} {d : Option Tmp} {v : Value} : (a.put d v).tmps.size = a.tmps.size := by cases d <;> simp [Act.put]
end
section
variable [PlanTab]

theorem nbeq_ne {a b : Nat} (h : Nat.beq a b = false) : a ≠ b := fun e => by rw [e, Nat.beq_refl] at h; cases h
theorem mask_bit {A : List Nat} {o : Oper} {j : Nat} (h : Nat.testBit (maskOf A o) j = true) :
    ∃ e ∈ o.after, Region.binds .any e = true ∧ (j = e.on ∨ Nat.testBit (A.getD e.on 0) j = true) := by
  have key : ∀ l : List Edge, Nat.testBit (l.foldr (fun e m => if Region.binds .any e then Nat.lor (Nat.lor (2 ^ e.on) (A.getD e.on 0)) m else m) 0) j = true →
      ∃ e ∈ l, Region.binds .any e = true ∧ (j = e.on ∨ Nat.testBit (A.getD e.on 0) j = true) := by
    intro l
    induction l with
    | nil => intro h; simp at h
    | cons e l ih =>
      intro h
      simp only [List.foldr_cons] at h
      split at h
      · rename_i hb
        have h' : Nat.testBit ((2 ^ e.on ||| A.getD e.on 0) ||| (l.foldr (fun e m => if Region.binds .any e then Nat.lor (Nat.lor (2 ^ e.on) (A.getD e.on 0)) m else m) 0)) j = true := h
        rw [Nat.testBit_or, Nat.testBit_or, Bool.or_eq_true, Bool.or_eq_true] at h'
        rcases h' with (h1 | h1) | h1
        · rw [Nat.testBit_two_pow] at h1
          exact ⟨e, by simp, hb, .inl (of_decide_eq_true h1).symm⟩
        · exact ⟨e, by simp, hb, .inr h1⟩
        · obtain ⟨e', a, b⟩ := ih h1
          exact ⟨e', by simp [a], b⟩
      · obtain ⟨e', a, b⟩ := ih h
        exact ⟨e', by simp [a], b⟩
  obtain ⟨e, a, b⟩ := key o.after.toList h
  exact ⟨e, by simpa using a, b⟩

structure Head (ops : Array Oper) (A : List Nat) (pre : List Did) (i : Nat) (re : List Nat) (rest : List (Nat × List Nat)) (o : Oper) (e : Bool) : Prop where
  op : ops[i]? = some o
  early : e = true → kindE o < 3 ∧ inD o.dst (o.looksAt ops) = false ∧ ∀ d ∈ pre, inD o.dst (namesOf ops d.o) = false
  new : ∀ d ∈ pre, d.i ≠ i
  top : ∀ ed ∈ o.after, Region.binds .any ed = true → ∃ d ∈ pre, d.i = ed.on
  held : ∀ d ∈ pre, d.early = true → Nat.testBit (A.getD i 0) d.i = true ∨ (inD d.o.dst (o.looksAt ops) = false ∧ (e = true ∨ (inD o.dst (namesOf ops d.o) = false ∧ (kindE d.o = 0 ∨ kindE d.o = 2 ∨ d.i ∈ re))))
  last : e = true ∨ ∀ k ∈ rest, ∃ ok, ops[k.1]? = some ok ∧ ∃ ed ∈ ok.after, Region.binds .any ed = true ∧ ∀ d ∈ pre, d.i ≠ ed.on
  go : planGo ops A (⟨i, o, e⟩ :: pre) rest = true

theorem planGo_cons {ops : Array Oper} {A : List Nat} {pre : List Did} {i : Nat} {re : List Nat} {rest : List (Nat × List Nat)} (h : planGo ops A pre ((i, re) :: rest) = true) :
    ∃ o e, Head ops A pre i re rest o e := by
  unfold planGo at h
  split at h
  · cases h
  · rename_i o ho
    simp only [Bool.and_eq_true] at h
    obtain ⟨⟨⟨⟨h1, h2⟩, h3⟩, h4⟩, h5⟩ := h
    refine ⟨o, _, ⟨ho, ?_, ?_, ?_, ?_, ?_, h5⟩⟩
    · intro he
      simp only [Bool.and_eq_true, List.all_eq_true, Bool.not_eq_true'] at he
      obtain ⟨⟨a, b⟩, c⟩ := he
      exact ⟨by simpa [Nat.blt_eq] using a, b, c⟩
    · intro d hd
      rw [List.all_eq_true] at h1
      have := h1 d hd
      exact nbeq_ne (by simpa only [Bool.not_eq_true'] using this)
    · intro ed hed hb
      rw [List.all_eq_true] at h2
      have := h2 ed (by simpa using hed)
      rw [hb] at this
      simpa using this
    · intro d hd hde
      rw [List.all_eq_true] at h3
      have := h3 d hd
      rw [hde] at this
      simp only [Bool.not_true, Bool.false_or, Bool.or_eq_true, Bool.and_eq_true, Bool.not_eq_true', Nat.beq_eq, inL_iff, or_assoc] at this
      simpa only [Bool.and_eq_true, Bool.not_eq_true', or_assoc] using this
    · rw [Bool.or_eq_true] at h4
      refine h4.imp id fun h4 => ?_
      intro k hk
      rw [List.all_eq_true] at h4
      have := h4 k hk
      split at this
      · rename_i ok hok
        rw [List.any_eq_true] at this
        obtain ⟨ed, hed, hq⟩ := this
        simp only [Bool.and_eq_true, List.all_eq_true, Bool.not_eq_true'] at hq
        refine ⟨ok, hok, ed, by simpa using hed, hq.1, fun d hd => ?_⟩
        have := hq.2 d hd
        exact nbeq_ne this
      · cases this

section
variable {P : Program} {call : Callee} {ops : Array Oper} {A : List Nat} {nt : Nat} {ng : List Nat} {σ0 : Inj} {W0 : AW} {w0 : World} {ds : List Deferred}

def Held (P : Program) (call : Callee) (ops : Array Oper) (W0 : AW) (bd : Nat → Option Nat) (σ : Inj) (R : PlanTab.Fr) (W : AW) (d : Did) : Prop :=
  (wantedA ops R d.o = false ∧ bd d.i = none ∧ ∀ t, d.o.dst = some t → rget R t = undef) ∨
  (wantedA ops R d.o = true ∧ bd d.i = none ∧ kindE d.o ≤ 1 ∧ ∃ v, aOpC P call d.o R W = some (v, W) ∧ ∀ t, d.o.dst = some t → rget R t = v) ∨
  (wantedA ops R d.o = true ∧ ∃ obj mk x, Lays P R d.o obj mk ∧ (∀ t, d.o.dst = some t → rget R t = mk x) ∧ W.get x = some obj ∧ W0.get x = none ∧ σ x = none ∧ bd d.i = some x ∧ ∀ cs, obj ≠ .ro cs)

theorem names_looks {o : Oper} {t : Tmp} (h : t ∈ o.looksAt ops) : t ∈ namesOf ops o := by unfold namesOf; simp [h]
theorem names_dst {o : Oper} {t : Tmp} (h : o.dst = some t) : t ∈ namesOf ops o := by unfold namesOf; simp [h]

theorem Held.mono {bd bd' : Nat → Option Nat} {σ σ' : Inj} {R R' : PlanTab.Fr} {W W' : AW} {d : Did} (h : Held P call ops W0 bd σ R W d)
    (hb : bd' d.i = bd d.i) (hR : ∀ t ∈ namesOf ops d.o, rget R' t = rget R t) (hg : Grow W W') (hσ : ∀ x o, W.get x = some o → σ x = none → σ' x = none) :
    Held P call ops W0 bd' σ' R' W' d := by
  obtain ⟨ha, hw⟩ := agree_of (ops := ops) (o := d.o) fun t ht => hR t (names_looks ht)
  rcases h with ⟨h1, h2, h3⟩ | ⟨h1, h2, h3, v, h4, h5⟩ | ⟨h1, obj, mk, x, h2, h3, h4, h5, h6, h7⟩
  · exact .inl ⟨by rw [hw]; exact h1, by rw [hb]; exact h2, fun t ht => by rw [hR t (names_dst ht)]; exact h3 t ht⟩
  · exact .inr (.inl ⟨by rw [hw]; exact h1, by rw [hb]; exact h2, h3, v, (keep_step h3 h4).2 R' W' ha (.inr hg), fun t ht => by rw [hR t (names_dst ht)]; exact h5 t ht⟩)
  · exact .inr (.inr ⟨by rw [hw]; exact h1, obj, mk, x, h2.agree ha, fun t ht => by rw [hR t (names_dst ht)]; exact h3 t ht, hg _ _ h4, h5, hσ _ _ h4 h6, by rw [hb]; exact h7⟩)

structure J (P : Program) (call : Callee) (ops : Array Oper) (A : List Nat) (nt : Nat) (ng : List Nat) (σ0 : Inj) (W0 : AW) (w0 : World) (ds : List Deferred)
    (pre : List Did) (listed : Array Bool) (bd : Nat → Option Nat) (σ : Inj) (R : PlanTab.Fr) (W : AW) (a : Act) (w : World) : Prop where
  wrel : WRel σ W w.heap
  glob : Glob σ ng
  ext : Ext σ0 W0 w0 σ W w
  tsz : a.tmps.size = nt
  dfs : a.defers = ds
  lsz : listed.size = ops.size
  regs : ∀ t, t < nt → (∀ d ∈ pre, listed.getD d.i true = false → d.o.dst ≠ some t) → VR σ (rget R t) (a.tmps.getD t undef)
  sub : ∀ i, i < ops.size → listed.getD i true = true → ∃ d ∈ pre, d.i = i
  op : ∀ d ∈ pre, ops[d.i]? = some d.o
  early : ∀ d ∈ pre, d.early = false → listed.getD d.i true = true
  kind : ∀ d ∈ pre, d.early = true → kindE d.o < 3
  down : ∀ i j, i < ops.size → listed.getD i true = true → Nat.testBit (A.getD i 0) j = true → listed.getD j true = true
  pairs : ∀ d ∈ pre, ∀ d' ∈ pre, d'.early = true → inD d'.o.dst (d.o.looksAt ops) = true → Nat.testBit (A.getD d.i 0) d'.i = true ∧ d.i ≠ d'.i
  pend : ∀ d ∈ pre, listed.getD d.i true = false → Held P call ops W0 bd σ R W d
  inj : ∀ d ∈ pre, ∀ d' ∈ pre, listed.getD d.i true = false → listed.getD d'.i true = false → ∀ x, bd d.i = some x → bd d'.i = some x → d.i = d'.i

theorem J.advance {pre : List Did} {listed : Array Bool} {bd : Nat → Option Nat} {σ : Inj} {R R' : PlanTab.Fr} {W W' : AW} {a : Act} {w : World} {i : Nat} {re : List Nat} {rest : List (Nat × List Nat)} {o : Oper}
    (hJ : J P call ops A nt ng σ0 W0 w0 ds pre listed bd σ R W a w) (hh : Head ops A pre i re rest o true) (hs : aStep P call ops o R W = some (R', W')) :
    ∃ bd', J P call ops A nt ng σ0 W0 w0 ds (⟨i, o, true⟩ :: pre) listed bd' σ R' W' a w := by
  obtain ⟨hk3, hself, hfresh⟩ := hh.early rfl
  have hi : i < ops.size := (Array.getElem?_eq_some_iff.1 hh.op).1
  have hnl : listed.getD i true = false := by
    cases hq : listed.getD i true with
    | false => rfl
    | true => obtain ⟨d, hd, e⟩ := hJ.sub i hi hq; exact absurd e (hh.new d hd)
  have hnext : W.get W.next = none := hJ.wrel.free _ (Nat.le_refl _)
  have build : ∀ (bd' : Nat → Option Nat) (u : Value), R' = rput R o.dst u → WRel σ W' w.heap → Ext σ0 W0 w0 σ W' w → Grow W W' → (∀ k, k ≠ i → bd' k = bd k) →
      Held P call ops W0 bd' σ R' W' ⟨i, o, true⟩ → (∀ x, bd' i = some x → W.get x = none) → J P call ops A nt ng σ0 W0 w0 ds (⟨i, o, true⟩ :: pre) listed bd' σ R' W' a w := by
    intro bd' u hR' hwr hext hg hbd hheld hbx
    have hnames : ∀ d ∈ pre, ∀ t ∈ namesOf ops d.o, rget R' t = rget R t := fun d hd t ht => by
      rw [hR']
      exact rget_rput_ne fun e => inD_false (hfresh d hd) e ht
    have hold : ∀ d ∈ pre, listed.getD d.i true = false → Held P call ops W0 bd' σ R' W' d := fun d hd hl =>
      (hJ.pend d hd hl).mono (hbd _ (hh.new d hd)) (hnames d hd) hg (fun _ _ _ h => h)
    have hpx : ∀ d ∈ pre, listed.getD d.i true = false → ∀ x, bd d.i = some x → ∃ ob, W.get x = some ob := by
      intro d hd hl x hx
      rcases hJ.pend d hd hl with ⟨_, h2, _⟩ | ⟨_, h2, _⟩ | ⟨_, obj, mk, y, _, _, h4, _, _, h7⟩
      · rw [h2] at hx; cases hx
      · rw [h2] at hx; cases hx
      · rw [h7.1] at hx; injection hx with hx; subst hx; exact ⟨obj, h4⟩
    refine ⟨hwr, hJ.glob, hext, hJ.tsz, hJ.dfs, hJ.lsz, ?_, ?_, ?_, ?_, ?_, hJ.down, ?_, ?_, ?_⟩
    · intro t ht hno
      have h1 : o.dst ≠ some t := hno ⟨i, o, true⟩ (by simp) hnl
      rw [hR', rget_rput_ne h1]
      exact hJ.regs t ht fun d hd => hno d (by simp [hd])
    · intro k hk hl
      obtain ⟨d, hd, e⟩ := hJ.sub k hk hl
      exact ⟨d, by simp [hd], e⟩
    · intro d hd
      rcases List.mem_cons.1 hd with rfl | hd
      · exact hh.op
      · exact hJ.op d hd
    · intro d hd he
      rcases List.mem_cons.1 hd with rfl | hd
      · cases he
      · exact hJ.early d hd he
    · intro d hd he
      rcases List.mem_cons.1 hd with rfl | hd
      · exact hk3
      · exact hJ.kind d hd he
    · intro d hd d' hd' he hin
      rcases List.mem_cons.1 hd with rfl | hd
      · rcases List.mem_cons.1 hd' with rfl | hd'
        · simp only at hin; rw [hself] at hin; cases hin
        · rcases hh.held d' hd' he with h1 | ⟨h1, _⟩
          · exact ⟨h1, fun e => hh.new d' hd' e.symm⟩
          · simp only at hin; rw [h1] at hin; cases hin
      · rcases List.mem_cons.1 hd' with rfl | hd'
        · exfalso
          have h1 := hfresh d hd
          obtain ⟨t, ht, hm⟩ := inD_iff.1 hin
          exact inD_false h1 ht (names_looks hm)
        · exact hJ.pairs d hd d' hd' he hin
    · intro d hd hl
      rcases List.mem_cons.1 hd with rfl | hd
      · exact hheld
      · exact hold d hd hl
    · intro d hd d' hd' hl hl' x hx hx'
      rcases List.mem_cons.1 hd with rfl | hd
      · rcases List.mem_cons.1 hd' with rfl | hd'
        · rfl
        · rw [hbd _ (hh.new d' hd')] at hx'
          obtain ⟨ob, h1⟩ := hpx d' hd' hl' x hx'
          rw [hbx x hx] at h1; cases h1
      · rcases List.mem_cons.1 hd' with rfl | hd'
        · rw [hbd _ (hh.new d hd)] at hx
          obtain ⟨ob, h1⟩ := hpx d hd hl x hx
          rw [hbx x hx'] at h1; cases h1
        · rw [hbd _ (hh.new d hd)] at hx
          rw [hbd _ (hh.new d' hd')] at hx'
          exact hJ.inj d hd d' hd' hl hl' x hx hx'
  have hag : ∀ u, (∀ t ∈ o.looksAt ops, rget (rput R o.dst u) t = rget R t) := fun u t ht => rget_rput_ne fun e => inD_false hself e ht
  unfold aStep at hs
  split at hs
  · rename_i hw
    split at hs
    · rename_i v W1 hop
      injection hs with hs
      injection hs with hs1 hs2
      subst hs1; subst hs2
      obtain ⟨ha, hwa⟩ := agree_of (hag v)
      by_cases hk1 : kindE o ≤ 1
      · obtain ⟨hW1, hk⟩ := keep_step hk1 hop
        subst hW1
        refine ⟨fun k => if k = i then none else bd k, build _ v rfl hJ.wrel hJ.ext (.refl _) (fun k hk => by simp [hk]) (.inr (.inl ⟨by rw [hwa]; exact hw, by simp, hk1, v, hk _ _ ha (.inr (.refl _)), fun t ht => rget_rput ht⟩)) (fun x hx => by simp at hx)⟩
      · have hk2 : kindE o = 2 := by omega
        obtain ⟨obj, mk, hro, rfl, rfl, hl⟩ := lay_step hk2 hop
        have hW0x : W0.get W.next = none := by
          cases hq : W0.get W.next with
          | none => rfl
          | some ob =>
            cases hq2 : σ0 W.next with
            | none => rw [(hJ.ext.ghost _ _ hq hq2).1] at hnext; cases hnext
            | some g => have := (hJ.wrel.dom _ _ (hJ.ext.sub _ _ hq2)).1; omega
        refine ⟨fun k => if k = i then some W.next else bd k, build _ _ rfl (hJ.wrel.ghost obj) (hJ.ext.ghost_add hnext obj) (.add hnext obj) (fun k hk => by simp [hk])
          (.inr (.inr ⟨by rw [hwa]; exact hw, obj, mk, W.next, hl.agree ha, fun t ht => rget_rput ht, AW.get_add _ _, hW0x, hJ.wrel.fresh, by simp, hro⟩)) (fun x hx => by simp at hx; subst hx; exact hnext)⟩
    · cases hs
  · rename_i hw
    injection hs with hs
    injection hs with hs1 hs2
    subst hs1; subst hs2
    obtain ⟨ha, hwa⟩ := agree_of (hag undef)
    refine ⟨fun k => if k = i then none else bd k, build _ undef rfl hJ.wrel hJ.ext (.refl _) (fun k hk => by simp [hk]) (.inl ⟨by rw [hwa]; simpa using hw, by simp, fun t ht => rget_rput ht⟩) (fun x hx => by simp at hx)⟩
end
end
section
variable [PlanTab]

theorem set_same {l : Array Bool} {i : Nat} (h : i < l.size) (d : Bool) : (l.setIfInBounds i true).getD i d = true := by
  simp [h]
theorem set_ne {l : Array Bool} {i j : Nat} (h : i ≠ j) (d : Bool) : (l.setIfInBounds i true).getD j d = l.getD j d := by
  simp [Array.getElem?_setIfInBounds_ne h]
theorem getD_up {l : Array Bool} {i : Nat} (h : l.getD i false = true) : l.getD i true = true ∧ i < l.size := by
  by_cases hi : i < l.size
  · simp [hi] at h ⊢; exact h
  · simp [hi] at h

theorem looks_lt {ops : Array Oper} {nt : Nat} {ng : List Nat} (hok : ∀ (i : Nat) (o : Oper), ops[i]? = some o → okOper nt ng o = true) {i : Nat} {o : Oper} (ho : ops[i]? = some o) {t : Tmp} (ht : t ∈ o.looksAt ops) : t < nt := by
  unfold Oper.looksAt at ht
  rcases List.mem_append.1 ht with h | h
  · obtain ⟨x, hx, e⟩ := List.mem_filterMap.1 h
    have := hok i o ho
    simp only [okOper, Bool.and_eq_true, List.all_eq_true] at this
    have h2 := this.1 x hx
    cases x with
    | tmp u => simp only [Option.some.injEq] at e; subst e; simpa [okOperand, Nat.blt_eq] using h2
    | _ => cases e
  · split at h
    · rename_i g b hg
      cases hq : (ops[g]?).bind (·.dst) with
      | none => rw [hq] at h; simp at h
      | some u =>
        rw [hq] at h
        simp at h
        subst h
        cases hg : ops[g]? with
        | none => rw [hg] at hq; cases hq
        | some og =>
          rw [hg] at hq
          simp only [Option.bind_some] at hq
          have := hok g og hg
          simp only [okOper, hq, Bool.and_eq_true] at this
          simpa [Nat.blt_eq] using this.2
    · simp at h
theorem operands_rel {ops : Array Oper} {nt : Nat} {ng : List Nat} {σ : Inj} {R : PlanTab.Fr} {a : Act} (hG : Glob σ ng) {o : Oper} (hok : okOper nt ng o = true)
    (h : ∀ t ∈ o.looksAt ops, VR σ (rget R t) (a.tmps.getD t undef)) : ∀ x ∈ o.op.operands, VR σ (aEval R x) (a.eval x) := by
  intro x hx
  simp only [okOper, Bool.and_eq_true, List.all_eq_true] at hok
  have hk := hok.1 x (by simpa using hx)
  cases x with
  | tmp t => exact h t (looks_op hx)
  | const v => exact plain_refl hk
  | global g =>
    obtain ⟨e, he⟩ := hG g (inL_iff.1 hk)
    have := VR.ptr (σ := σ) ⟨g, 0, none⟩ _ he rfl
    simpa [aEval, Act.eval] using this
  | func f => exact .func _ _ _ _ _ _ (.func f) rfl (fun i v v' h => by simp at h) rfl (fun i v v' h => by simp at h)
theorem notDefer {o : Oper} (h : kindE o < 3) : ∀ c, o.op ≠ .defer c := fun c e => by unfold kindE at h; rw [e] at h; simp at h

section
variable {P : Program} {call : Callee} {ops : Array Oper} {A : List Nat} {nt : Nat} {ng : List Nat} {σ0 : Inj} {W0 : AW} {w0 : World} {ds : List Deferred}

theorem J.anc {pre : List Did} {listed : Array Bool} {bd : Nat → Option Nat} {σ : Inj} {R : PlanTab.Fr} {W : AW} {a : Act} {w : World}
    (hJ : J P call ops A nt ng σ0 W0 w0 ds pre listed bd σ R W a w) (hA : ∀ (i : Nat) (o : Oper), ops[i]? = some o → A.getD i 0 = maskOf A o)
    {i : Nat} {o : Oper} (ho : ops[i]? = some o) (hr : ∀ e ∈ o.after, Region.binds .any e = true → listed.getD e.on false = true) {j : Nat} (hj : Nat.testBit (A.getD i 0) j = true) :
    listed.getD j true = true := by
  rw [hA i o ho] at hj
  obtain ⟨e, he, hb, h | h⟩ := mask_bit hj
  · rw [h]; exact (getD_up (hr e he hb)).1
  · have := getD_up (hr e he hb)
    exact hJ.down e.on j (by rw [← hJ.lsz]; exact this.2) this.1 h

theorem J.mark {pre : List Did} {listed : Array Bool} {bd : Nat → Option Nat} {σ σ' : Inj} {R : PlanTab.Fr} {W : AW} {a : Act} {w w' : World}
    (hJ : J P call ops A nt ng σ0 W0 w0 ds pre listed bd σ R W a w) {d : Did} (hd : d ∈ pre) (v' : Value) (hs : Sub σ σ') (hw : WRel σ' W w'.heap) (he : Ext σ0 W0 w0 σ' W w')
    (hv : ∀ t, d.o.dst = some t → VR σ' (rget R t) v') (hx : ∀ d' ∈ pre, d'.i ≠ d.i → listed.getD d'.i true = false → ∀ x, bd d'.i = some x → σ x = none → (∃ o, W.get x = some o) → σ' x = none)
    (hanc : ∀ j, Nat.testBit (A.getD d.i 0) j = true → listed.getD j true = true) :
    J P call ops A nt ng σ0 W0 w0 ds pre (listed.setIfInBounds d.i true) bd σ' R W (a.put d.o.dst v') w' := by
  have hi : d.i < listed.size := by rw [hJ.lsz]; exact (Array.getElem?_eq_some_iff.1 (hJ.op d hd)).1
  have hmono : ∀ k, listed.getD k true = true → (listed.setIfInBounds d.i true).getD k true = true := fun k hk => by
    by_cases e : d.i = k
    · subst e; exact set_same hi _
    · rw [set_ne e]; exact hk
  have hback : ∀ k, (listed.setIfInBounds d.i true).getD k true = false → k ≠ d.i ∧ listed.getD k true = false := fun k hk => by
    by_cases e : d.i = k
    · subst e; rw [set_same hi] at hk; cases hk
    · rw [set_ne e] at hk; exact ⟨Ne.symm e, hk⟩
  refine ⟨hw, hJ.glob.mono hs, he, by rw [put_size]; exact hJ.tsz, by rw [put_defers]; exact hJ.dfs, by simp [hJ.lsz], ?_, ?_, hJ.op, ?_, hJ.kind, ?_, hJ.pairs, ?_, ?_⟩
  · intro t ht hno
    by_cases hdt : d.o.dst = some t
    · rw [put_getD hdt (by rw [hJ.tsz]; exact ht)]
      exact hv t hdt
    · rw [put_getD_ne hdt]
      refine (hJ.regs t ht fun d' hd' hl => ?_).mono hs
      by_cases e : d'.i = d.i
      · have h1 := hJ.op d' hd'
        have h2 := hJ.op d hd
        rw [e, h2] at h1
        injection h1 with h1
        rw [← h1]; exact hdt
      · exact hno d' hd' (by rw [set_ne (Ne.symm e)]; exact hl)
  · intro k hk hl
    by_cases e : d.i = k
    · exact ⟨d, hd, e⟩
    · rw [set_ne e] at hl; exact hJ.sub k hk hl
  · intro d' hd' h; exact hmono _ (hJ.early d' hd' h)
  · intro k j hk hl hb
    by_cases e : d.i = k
    · subst e; exact hmono _ (hanc j hb)
    · rw [set_ne e] at hl; exact hmono _ (hJ.down k j hk hl hb)
  · intro d' hd' hl
    obtain ⟨h1, h2⟩ := hback _ hl
    rcases hJ.pend d' hd' h2 with k | k | ⟨k1, obj, mk, x, k2, k3, k4, k5, k6, k7⟩
    · exact .inl k
    · exact .inr (.inl k)
    · exact .inr (.inr ⟨k1, obj, mk, x, k2, k3, k4, k5, hx d' hd' h1 h2 x k7.1 k6 ⟨_, k4⟩, k7⟩)
  · intro d1 h1 d2 h2 l1 l2
    exact hJ.inj d1 h1 d2 h2 (hback _ l1).2 (hback _ l2).2

theorem J.looks {pre : List Did} {listed : Array Bool} {bd : Nat → Option Nat} {σ : Inj} {R : PlanTab.Fr} {W : AW} {a : Act} {w : World}
    (hJ : J P call ops A nt ng σ0 W0 w0 ds pre listed bd σ R W a w) (hok : ∀ (i : Nat) (o : Oper), ops[i]? = some o → okOper nt ng o = true) {i : Nat} {o : Oper} (ho : ops[i]? = some o)
    (hp : ∀ d ∈ pre, listed.getD d.i true = false → inD d.o.dst (o.looksAt ops) = false) : ∀ t ∈ o.looksAt ops, VR σ (rget R t) (a.tmps.getD t undef) :=
  fun t ht => hJ.regs t (looks_lt hok ho ht) fun d hd hl e => inD_false (hp d hd hl) e ht

theorem J.pendingEarly {pre : List Did} {listed : Array Bool} {bd : Nat → Option Nat} {σ : Inj} {R : PlanTab.Fr} {W : AW} {a : Act} {w : World}
    (hJ : J P call ops A nt ng σ0 W0 w0 ds pre listed bd σ R W a w) {d : Did} (hd : d ∈ pre) (hl : listed.getD d.i true = false) : d.early = true := by
  cases he : d.early with
  | true => rfl
  | false => rw [hJ.early d hd he] at hl; cases hl

theorem J.fire (hc : CalleeOK P ng call) (hok : ∀ (i : Nat) (o : Oper), ops[i]? = some o → okOper nt ng o = true) (hA : ∀ (i : Nat) (o : Oper), ops[i]? = some o → A.getD i 0 = maskOf A o)
    {pre : List Did} {listed : Array Bool} {bd : Nat → Option Nat} {σ : Inj} {R : PlanTab.Fr} {W : AW} {a : Act} {w : World}
    (hJ : J P call ops A nt ng σ0 W0 w0 ds pre listed bd σ R W a w) {d : Did} (hd : d ∈ pre) (hl : listed.getD d.i true = false)
    (hr : ∀ e ∈ d.o.after, Region.binds .any e = true → listed.getD e.on false = true) {ro : Option Nat} {K : Act → World → Prop} {Q : Exit → Act → World → Prop}
    (hK : ∀ σ' a' w', J P call ops A nt ng σ0 W0 w0 ds pre (listed.setIfInBounds d.i true) bd σ' R W a' w' → K a' w') : wpOpIn (FE ro) 0 P ops Q d.i K a w := by
  have ho := hJ.op d hd
  have hanc : ∀ j, Nat.testBit (A.getD d.i 0) j = true → listed.getD j true = true := fun j hj => hJ.anc hA ho hr hj
  have hlook := hJ.looks hok ho (fun d' hd' hl' => by
    cases hq : inD d'.o.dst (d.o.looksAt ops) with
    | false => rfl
    | true =>
      have := hanc _ (hJ.pairs d hd d' hd' (hJ.pendingEarly hd' hl') hq).1
      rw [hl'] at this; cases this)
  have hρ := operands_rel hJ.glob (hok _ _ ho) hlook
  have hwe := wanted_eq hlook
  have hk3 := hJ.kind d hd (hJ.pendingEarly hd hl)
  have hnd := notDefer hk3
  unfold wpOpIn
  rw [ho]
  simp only [hwe]
  rcases hJ.pend d hd hl with ⟨h1, h2, h3⟩ | ⟨h1, h2, h3, v, h4, h5⟩ | ⟨h1, obj, mk, x, h2, h3, h4, h5, h6, h7⟩
  · rw [h1, if_neg (by simp)]
    refine ⟨fun f _ => trivial, hK σ _ w (hJ.mark hd undef (.refl _) hJ.wrel hJ.ext (fun t ht => by rw [h3 t ht]; exact .undef) (fun _ _ _ _ _ _ h _ => h) hanc)⟩
  · rw [h1, if_pos rfl]
    refine aOpC_wp hc hJ.wrel hJ.glob h4 hρ fun σ' v' w' hv hw he => ?_
    exact hK σ' _ w' (hJ.mark hd v' he.sub hw (hJ.ext.trans he) (fun t ht => by rw [h5 t ht]; exact hv) (fun d' _ _ _ x _ h6 ⟨ob, hx⟩ => (he.ghost _ _ hx h6).2) hanc)
  · rw [h1, if_pos rfl]
    obtain ⟨v', xo, e, r1, r2, r3⟩ := h2 σ a.eval w x hρ h6
    refine ⟨fun f _ => trivial, ?_⟩
    rw [Oper.semAt_eq _ _ _ hnd, r1]
    refine hK (bind1 σ x ⟨w.heap.size, 0, e⟩) _ _ (hJ.mark hd v' (bind1_sub h6) (hJ.wrel.bind h4 h6 r3) (hJ.ext.bind h6 h5 r3 h7.2) (fun t ht => by rw [h3 t ht]; exact r2) ?_ hanc)
    intro d' hd' hne hl' y hy hσ _
    have : y ≠ x := fun e => by subst e; exact hne (hJ.inj d' hd' d hd hl' hl y hy h7.1)
    unfold bind1
    rw [if_neg this]; exact hσ

theorem J.force (hc : CalleeOK P ng call) (hok : ∀ (i : Nat) (o : Oper), ops[i]? = some o → okOper nt ng o = true) (hA : ∀ (i : Nat) (o : Oper), ops[i]? = some o → A.getD i 0 = maskOf A o)
    {pre : List Did} {listed : Array Bool} {bd : Nat → Option Nat} {σ : Inj} {R R' : PlanTab.Fr} {W W' : AW} {a : Act} {w : World} {i : Nat} {re : List Nat} {rest : List (Nat × List Nat)} {o : Oper}
    (hJ : J P call ops A nt ng σ0 W0 w0 ds pre listed bd σ R W a w) (hh : Head ops A pre i re rest o false) (hs : aStep P call ops o R W = some (R', W')) (hre : re.all (again P call ops R' W') = true)
    (hr : ∀ e ∈ o.after, Region.binds .any e = true → listed.getD e.on false = true) {ro : Option Nat} {K : Act → World → Prop} {Q : Exit → Act → World → Prop}
    (hK : ∀ σ' a' w', J P call ops A nt ng σ0 W0 w0 ds (⟨i, o, false⟩ :: pre) (listed.setIfInBounds i true) bd σ' R' W' a' w' → K a' w') : wpOpIn (FE ro) 0 P ops Q i K a w := by
  have ho := hh.op
  have hi : i < listed.size := by rw [hJ.lsz]; exact (Array.getElem?_eq_some_iff.1 ho).1
  have hanc : ∀ j, Nat.testBit (A.getD i 0) j = true → listed.getD j true = true := fun j hj => hJ.anc hA ho hr hj
  have hheld : ∀ d ∈ pre, listed.getD d.i true = false → inD d.o.dst (o.looksAt ops) = false ∧ inD o.dst (namesOf ops d.o) = false ∧ (kindE d.o = 0 ∨ kindE d.o = 2 ∨ d.i ∈ re) := by
    intro d hd hl
    rcases hh.held d hd (hJ.pendingEarly hd hl) with h1 | ⟨h1, h2⟩
    · rw [hanc _ h1] at hl; cases hl
    · rcases h2 with h2 | ⟨h2, h3⟩
      · cases h2
      · exact ⟨h1, h2, h3⟩
  have hlook := hJ.looks hok ho (fun d hd hl => (hheld d hd hl).1)
  have hρ := operands_rel hJ.glob (hok _ _ ho) hlook
  have hwe := wanted_eq hlook
  have hback : ∀ k, (listed.setIfInBounds i true).getD k true = false → k ≠ i ∧ listed.getD k true = false := fun k hk => by
    by_cases e : i = k
    · subst e; rw [set_same hi] at hk; cases hk
    · rw [set_ne e] at hk; exact ⟨Ne.symm e, hk⟩
  have hmono : ∀ k, listed.getD k true = true → (listed.setIfInBounds i true).getD k true = true := fun k hk => by
    by_cases e : i = k
    · subst e; exact set_same hi _
    · rw [set_ne e]; exact hk
  have build : ∀ (σ' : Inj) (u u' : Value) (w' : World), R' = rput R o.dst u → VR σ' u u' → WRel σ' W' w'.heap → Ext σ W w σ' W' w' →
      J P call ops A nt ng σ0 W0 w0 ds (⟨i, o, false⟩ :: pre) (listed.setIfInBounds i true) bd σ' R' W' (a.put o.dst u') w' := by
    intro σ' u u' w' hR' hu hw he
    refine ⟨hw, hJ.glob.mono he.sub, hJ.ext.trans he, by rw [put_size]; exact hJ.tsz, by rw [put_defers]; exact hJ.dfs, by simp [hJ.lsz], ?_, ?_, ?_, ?_, ?_, ?_, ?_, ?_, ?_⟩
    · intro t ht hno
      by_cases hdt : o.dst = some t
      · rw [put_getD hdt (by rw [hJ.tsz]; exact ht), hR', rget_rput hdt]; exact hu
      · rw [put_getD_ne hdt, hR', rget_rput_ne hdt]
        refine (hJ.regs t ht fun d' hd' hl => ?_).mono he.sub
        exact hno d' (by simp [hd']) (by rw [set_ne (Ne.symm (hh.new d' hd'))]; exact hl)
    · intro k hk hl
      by_cases e : i = k
      · exact ⟨⟨i, o, false⟩, by simp, e⟩
      · rw [set_ne e] at hl
        obtain ⟨d, hd, e⟩ := hJ.sub k hk hl
        exact ⟨d, by simp [hd], e⟩
    · intro d hd
      rcases List.mem_cons.1 hd with rfl | hd
      · exact ho
      · exact hJ.op d hd
    · intro d hd h
      rcases List.mem_cons.1 hd with rfl | hd
      · exact set_same hi _
      · exact hmono _ (hJ.early d hd h)
    · intro d hd h
      rcases List.mem_cons.1 hd with rfl | hd
      · cases h
      · exact hJ.kind d hd h
    · intro k j hk hl hb
      by_cases e : i = k
      · subst e; exact hmono _ (hanc j hb)
      · rw [set_ne e] at hl; exact hmono _ (hJ.down k j hk hl hb)
    · intro d hd d' hd' hde hin
      rcases List.mem_cons.1 hd' with rfl | hd'
      · cases hde
      · rcases List.mem_cons.1 hd with rfl | hd
        · rcases hh.held d' hd' hde with h1 | ⟨h1, _⟩
          · exact ⟨h1, fun e => hh.new d' hd' e.symm⟩
          · simp only at hin; rw [h1] at hin; cases hin
        · exact hJ.pairs d hd d' hd' hde hin
    · intro d hd hl
      rcases List.mem_cons.1 hd with rfl | hd
      · rw [set_same hi] at hl; cases hl
      · have hl' := (hback _ hl).2
        obtain ⟨g1, g2, g3⟩ := hheld d hd hl'
        have hnames : ∀ t ∈ namesOf ops d.o, rget R' t = rget R t := fun t ht => by
          rw [hR']; exact rget_rput_ne fun e => inD_false g2 e ht
        obtain ⟨ha, hwd⟩ := agree_of (ops := ops) (o := d.o) fun t ht => hnames t (names_looks ht)
        rcases hJ.pend d hd hl' with ⟨h1, h2, h3⟩ | ⟨h1, h2, h3, v, h4, h5⟩ | ⟨h1, obj, mk, x, h2, h3, h4, h5, h6, h7⟩
        · exact .inl ⟨by rw [hwd]; exact h1, h2, fun t ht => by rw [hnames t (names_dst ht)]; exact h3 t ht⟩
        · refine .inr (.inl ⟨by rw [hwd]; exact h1, h2, h3, ?_⟩)
          rcases g3 with g3 | g3 | g3
          · exact ⟨v, (keep_step h3 h4).2 R' W' ha (.inl g3), fun t ht => by rw [hnames t (names_dst ht)]; exact h5 t ht⟩
          · omega
          · have hag := List.all_eq_true.1 hre d.i g3
            unfold again at hag
            rw [hJ.op d hd] at hag
            simp only [hwd, h1, if_true] at hag
            split at hag
            · rename_i u W2 hop
              have := (keep_step h3 hop).1
              subst this
              refine ⟨u, hop, fun t ht => ?_⟩
              rw [ht] at hag
              exact (vsame_eq hag).symm
            · cases hag
        · obtain ⟨k1, k2⟩ := he.ghost _ _ h4 h6
          exact .inr (.inr ⟨by rw [hwd]; exact h1, obj, mk, x, h2.agree ha, fun t ht => by rw [hnames t (names_dst ht)]; exact h3 t ht, k1, h5, k2, h7⟩)
    · intro d1 h1 d2 h2 l1 l2 x hx1 hx2
      rcases List.mem_cons.1 h1 with rfl | h1
      · rw [set_same hi] at l1; cases l1
      · rcases List.mem_cons.1 h2 with rfl | h2
        · rw [set_same hi] at l2; cases l2
        · exact hJ.inj d1 h1 d2 h2 (hback _ l1).2 (hback _ l2).2 x hx1 hx2
  unfold wpOpIn
  rw [ho]
  simp only [hwe]
  unfold aStep at hs
  split at hs
  · rename_i hw
    rw [if_pos hw]
    split at hs
    · rename_i v W1 hop
      injection hs with hs
      injection hs with hs1 hs2
      subst hs1; subst hs2
      exact aOpC_wp hc hJ.wrel hJ.glob hop hρ fun σ' v' w' hv hw' he => hK σ' _ w' (build σ' v v' w' rfl hv hw' he)
    · cases hs
  · rename_i hw
    rw [if_neg hw]
    injection hs with hs
    injection hs with hs1 hs2
    subst hs1; subst hs2
    exact ⟨fun f _ => trivial, hK σ _ w (build σ undef undef w rfl .undef hJ.wrel (.refl _ _ _))⟩
end
end
section
variable [PlanTab]

def unl (n : Nat) (l : Array Bool) : Nat := (List.range n).countP fun i => !l.getD i true
theorem countP_lt {α : Type} {p q : α → Bool} {x : α} : ∀ {l : List α}, x ∈ l → p x = true → q x = false → (∀ y, q y = true → p y = true) → l.countP q < l.countP p := by
  intro l
  induction l with
  | nil => intro h; cases h
  | cons y l ih =>
    intro h hp hq hi
    have hle : l.countP q ≤ l.countP p := List.countP_mono_left fun z _ hz => hi z hz
    rcases List.mem_cons.1 h with rfl | h
    · rw [List.countP_cons, List.countP_cons, hp, hq]; simp; omega
    · have := ih h hp hq hi
      rw [List.countP_cons, List.countP_cons]
      cases hqy : q y with
      | true => rw [hi y hqy]; simp; omega
      | false => cases p y <;> simp <;> omega
theorem unl_set {n i : Nat} {l : Array Bool} (hi : i < n) (hs : i < l.size) (h : l.getD i true = false) : unl n (l.setIfInBounds i true) < unl n l := by
  refine countP_lt (x := i) (by simpa using hi) (by rw [h]; rfl) (by rw [set_same hs]; rfl) fun y hy => ?_
  by_cases e : i = y
  · subst e; rw [set_same hs] at hy; cases hy
  · rw [set_ne e] at hy; exact hy
theorem unl_zero {n : Nat} {l : Array Bool} (h : unl n l = 0) {i : Nat} (hi : i < n) : l.getD i true = true := by
  unfold unl at h
  rw [List.countP_eq_zero] at h
  have := h i (by simpa using hi)
  simpa using this

section
variable {P : Program} {call : Callee} {ops : Array Oper} {A : List Nat} {nt : Nat} {ng : List Nat} {σ0 : Inj} {W0 : AW} {w0 : World} {ds : List Deferred}

inductive PreOK (ops : Array Oper) : List Did → Prop where
  | nil : PreOK ops []
  | cons (d : Did) (pre : List Did) (h : PreOK ops pre) (ht : ∀ e ∈ d.o.after, Region.binds .any e = true → ∃ d' ∈ pre, d'.i = e.on) (ho : ops[d.i]? = some d.o) : PreOK ops (d :: pre)

theorem PreOK.ready {listed : Array Bool} (hsz : listed.size = ops.size) : ∀ {pre : List Did}, PreOK ops pre → (∃ d ∈ pre, listed.getD d.i true = false) → Region.ready .any ops listed ≠ [] := by
  intro pre h
  induction h with
  | nil => rintro ⟨d, hd, _⟩; cases hd
  | cons d pre h ht ho ih =>
    rintro ⟨d', hd', hl⟩ hr
    by_cases hex : ∃ d ∈ pre, listed.getD d.i true = false
    · exact ih hex hr
    · rcases List.mem_cons.1 hd' with rfl | hd'
      · have : d'.i ∈ Region.ready .any ops listed := mem_ready.2 ⟨hl, d'.o, ho, fun e he hb => by
          obtain ⟨d2, h2, e2⟩ := ht e he hb
          have hl2 : listed.getD d2.i true = true := by
            cases hq : listed.getD d2.i true with
            | true => rfl
            | false => exact absurd ⟨d2, h2, hq⟩ hex
          have hir : d2.i < ops.size := by
            have : ∀ {pre}, PreOK ops pre → ∀ d ∈ pre, d.i < ops.size := by
              intro pre h
              induction h with
              | nil => intro d hd; cases hd
              | cons d pre h ht ho ih =>
                intro d' hd'
                rcases List.mem_cons.1 hd' with rfl | hd'
                · exact (Array.getElem?_eq_some_iff.1 ho).1
                · exact ih d' hd'
            exact this h d2 h2
          rw [← e2]
          simp only [Array.getD_eq_getD_getElem?] at hl2 ⊢
          rw [Array.getElem?_eq_getElem (by omega)] at hl2 ⊢
          exact hl2⟩
        rw [hr] at this
        cases this
      · exact hex ⟨d', hd', hl⟩

theorem plan_any (hc : CalleeOK P ng call) (hok : ∀ (i : Nat) (o : Oper), ops[i]? = some o → okOper nt ng o = true) (hA : ∀ (i : Nat) (o : Oper), ops[i]? = some o → A.getD i 0 = maskOf A o)
    {ro : Option Nat} {Q : Exit → Act → World → Prop} {Rf : PlanTab.Fr} {Wf : AW}
    (hQ : ∀ σ' a' w', RegRel nt σ' Rf a'.tmps → a'.defers = ds → WRel σ' Wf w'.heap → Ext σ0 W0 w0 σ' Wf w' → Q .normal a' w') :
    ∀ (fuel : Nat) (suf : List (Nat × List Nat)) (pre : List Did) (listed : Array Bool) (bd : Nat → Option Nat) (σ : Inj) (R : PlanTab.Fr) (W : AW) (a : Act) (w : World),
      J P call ops A nt ng σ0 W0 w0 ds pre listed bd σ R W a w → PreOK ops pre → planGo ops A pre suf = true → aPlan P call ops suf R W = some (Rf, Wf) →
      (∀ i, i < ops.size → (∃ d ∈ pre, d.i = i) ∨ ∃ k ∈ suf, k.1 = i) → unl ops.size listed ≤ fuel → wpAnyIn (FE ro) 0 P .any ops Q fuel listed a w := by
  intro fuel
  induction fuel with
  | zero =>
    intro suf pre listed bd σ R W a w hJ hpre hgo hpl hcov hun
    have hall : ∀ i, i < ops.size → listed.getD i true = true := fun i hi => unl_zero (by omega) hi
    have hready : Region.ready .any ops listed = [] := by
      rw [List.eq_nil_iff_forall_not_mem]
      intro i hi
      obtain ⟨h1, o, ho, _⟩ := mem_ready.1 hi
      rw [hall i (Array.getElem?_eq_some_iff.1 ho).1] at h1
      cases h1
    refine ⟨hready, ?_⟩
    cases suf with
    | nil =>
      injection hpl with hpl
      injection hpl with h1 h2
      subst h1; subst h2
      refine hQ σ a w ⟨hJ.tsz, fun t ht => hJ.regs t ht fun d hd hl => ?_⟩ hJ.dfs hJ.wrel hJ.ext
      rw [hall d.i (Array.getElem?_eq_some_iff.1 (hJ.op d hd)).1] at hl; cases hl
    | cons k rest =>
      obtain ⟨i, re⟩ := k
      obtain ⟨o, e, hh⟩ := planGo_cons hgo
      have hi := (Array.getElem?_eq_some_iff.1 hh.op).1
      obtain ⟨d, hd, e⟩ := hJ.sub i hi (hall i hi)
      exact absurd e (hh.new d hd)
  | succ fuel ih =>
    intro suf
    induction suf with
    | nil =>
      intro pre listed bd σ R W a w hJ hpre hgo hpl hcov hun
      refine ⟨fun hr => ?_, fun i hi => ?_⟩
      · have hno : ∀ d ∈ pre, listed.getD d.i true = true := fun d hd => by
          cases hq : listed.getD d.i true with
          | true => rfl
          | false => exact absurd hr (hpre.ready hJ.lsz ⟨d, hd, hq⟩)
        injection hpl with hpl
        injection hpl with h1 h2
        subst h1; subst h2
        exact hQ σ a w ⟨hJ.tsz, fun t ht => hJ.regs t ht fun d hd hl => by rw [hno d hd] at hl; cases hl⟩ hJ.dfs hJ.wrel hJ.ext
      · obtain ⟨h1, o, ho, h2⟩ := mem_ready.1 hi
        have hlt := (Array.getElem?_eq_some_iff.1 ho).1
        rcases hcov i hlt with ⟨d, hd, e⟩ | ⟨k, hk, _⟩
        · subst e
          have hod := hJ.op d hd
          rw [ho] at hod
          injection hod with hod
          subst hod
          refine hJ.fire hc hok hA hd h1 h2 fun σ' a' w' hJ' => ?_
          exact ih [] pre _ bd σ' R W a' w' hJ' hpre hgo hpl hcov (by have := unl_set hlt (by rw [hJ.lsz]; exact hlt) h1; omega)
        · cases hk
    | cons k rest ihs =>
      intro pre listed bd σ R W a w hJ hpre hgo hpl hcov hun
      obtain ⟨i, re⟩ := k
      obtain ⟨o, e, hh⟩ := planGo_cons hgo
      have hi := (Array.getElem?_eq_some_iff.1 hh.op).1
      simp only [aPlan, hh.op] at hpl
      split at hpl
      case h_2 => cases hpl
      rename_i R' W' hs
      split at hpl
      case isFalse => cases hpl
      rename_i hre
      have hcov' : ∀ j, j < ops.size → (∃ d ∈ (⟨i, o, e⟩ :: pre : List Did), d.i = j) ∨ ∃ k ∈ rest, k.1 = j := by
        intro j hj
        rcases hcov j hj with ⟨d, hd, h1⟩ | ⟨k, hk, h1⟩
        · exact .inl ⟨d, by simp [hd], h1⟩
        · rcases List.mem_cons.1 hk with rfl | hk
          · exact .inl ⟨⟨i, o, e⟩, by simp, h1⟩
          · exact .inr ⟨k, hk, h1⟩
      have hpre' : PreOK ops (⟨i, o, e⟩ :: pre) := .cons _ _ hpre hh.top hh.op
      cases e with
      | true =>
        obtain ⟨bd', hJ'⟩ := hJ.advance hh hs
        exact ihs _ listed bd' σ R' W' a w hJ' hpre' hh.go hpl hcov' hun
      | false =>
        refine ⟨fun hr => ?_, fun j hj => ?_⟩
        · exfalso
          by_cases hex : ∃ d ∈ pre, listed.getD d.i true = false
          · exact hpre.ready hJ.lsz hex hr
          · have hl : listed.getD i true = false := by
              cases hq : listed.getD i true with
              | false => rfl
              | true => obtain ⟨d, hd, e⟩ := hJ.sub i hi hq; exact absurd e (hh.new d hd)
            have : i ∈ Region.ready .any ops listed := mem_ready.2 ⟨hl, o, hh.op, fun ed he hb => by
              obtain ⟨d2, h2, e2⟩ := hh.top ed he hb
              have hl2 : listed.getD d2.i true = true := by
                cases hq : listed.getD d2.i true with
                | true => rfl
                | false => exact absurd ⟨d2, h2, hq⟩ hex
              have hir : d2.i < listed.size := by rw [hJ.lsz]; exact (Array.getElem?_eq_some_iff.1 (hJ.op d2 h2)).1
              rw [← e2]
              simp only [Array.getD_eq_getD_getElem?] at hl2 ⊢
              rw [Array.getElem?_eq_getElem hir] at hl2 ⊢
              exact hl2⟩
            rw [hr] at this
            cases this
        · obtain ⟨h1, oj, ho, h2⟩ := mem_ready.1 hj
          have hlt := (Array.getElem?_eq_some_iff.1 ho).1
          rcases hcov j hlt with ⟨d, hd, e⟩ | ⟨k, hk, e⟩
          · subst e
            have hod := hJ.op d hd
            rw [ho] at hod
            injection hod with hod
            subst hod
            refine hJ.fire hc hok hA hd h1 h2 fun σ' a' w' hJ' => ?_
            refine ih ((i, re) :: rest) pre _ bd σ' R W a' w' hJ' hpre hgo ?_ hcov (by have := unl_set hlt (by rw [hJ.lsz]; exact hlt) h1; omega)
            simp only [aPlan, hh.op, hs, hre, if_true]
            exact hpl
          · rcases List.mem_cons.1 hk with rfl | hk
            · simp only at e
              subst e
              have hod := hh.op
              rw [ho] at hod
              injection hod with hod
              subst hod
              refine hJ.force hc hok hA hh hs hre h2 fun σ' a' w' hJ' => ?_
              exact ih rest _ _ bd σ' R' W' a' w' hJ' hpre' hh.go hpl hcov' (by have := unl_set hlt (by rw [hJ.lsz]; exact hlt) h1; omega)
            · exfalso
              rcases hh.last with h | h
              · cases h
              · obtain ⟨ok, hok', ed, hed, hb, hno⟩ := h k hk
                rw [e, ho] at hok'
                injection hok' with hok'
                subst hok'
                have h3 := getD_up (h2 ed hed hb)
                obtain ⟨d, hd, e⟩ := hJ.sub ed.on (by rw [← hJ.lsz]; exact h3.2) h3.1
                exact hno d hd e

theorem drawn_wp {P : Program} (hm : P.follows .mixedOrders = true) {ng : List Nat} {nt : Nat} {call : Callee} (hc : CalleeOK P ng call) {id : Nat} {ops : Array Oper} {pl : List (Nat × List Nat)}
    (hok : ops.toList.all (okOper nt ng) = true) (hp : planOK ops pl = true) {σ : Inj} {R Rf : PlanTab.Fr} {W Wf : AW} {a : Act} {w : World} (hW : WRel σ W w.heap) (hG : Glob σ ng) (hR : RegRel nt σ R a.tmps)
    (h : aPlan P call ops pl R W = some (Rf, Wf)) {ro : Option Nat} {Q : Exit → Act → World → Prop}
    (hQ : ∀ σ' a' w', RegRel nt σ' Rf a'.tmps → a'.defers = a.defers → WRel σ' Wf w'.heap → Ext σ W w σ' Wf w' → Q .normal a' w') :
    (Code.region id ops true).wpIn (FE ro) 0 P Q a w := by
  refine wpIn_region_any hm ?_
  unfold planOK at hp
  simp only [Bool.and_eq_true, List.all_eq_true, List.mem_range] at hp
  obtain ⟨h1, h2⟩ := hp
  have hat : ∀ i o, ops[i]? = some o → (ancM ops.toList []).getD i 0 = maskOf (ancM ops.toList []) o ∧ ∃ k ∈ pl, k.1 = i := by
    intro i o ho
    have := h1 i (Array.getElem?_eq_some_iff.1 ho).1
    rw [ho] at this
    simp only [Bool.and_eq_true, Nat.beq_eq, List.any_eq_true] at this
    exact this.1
  have hok' : ∀ (i : Nat) (o : Oper), ops[i]? = some o → okOper nt ng o = true := fun i o ho => List.all_eq_true.1 hok o (by have := Array.mem_of_getElem? ho; simpa using this)
  have hsz : ∀ i, i < ops.size → (Array.replicate ops.size false).getD i true = false := fun i hi => by simp [hi]
  have hcov : ∀ i, i < ops.size → (∃ d ∈ ([] : List Did), d.i = i) ∨ ∃ k ∈ pl, k.1 = i := fun i hi =>
    .inr (hat i ops[i] (Array.getElem?_eq_getElem hi)).2
  refine plan_any (A := ancM ops.toList []) (W0 := W) (σ0 := σ) (w0 := w) (ds := a.defers) hc hok' (fun i o ho => (hat i o ho).1) hQ ops.size pl [] _ (fun _ => none) σ R W a _ ?_ .nil h2 h hcov ?_
  · refine ⟨hW, hG, .drawn _ _ _ _, hR.1, rfl, by simp, fun t ht _ => hR.2 t ht, ?_, ?_, ?_, ?_, ?_, ?_, ?_, ?_⟩
    · intro i hi hl; rw [hsz i hi] at hl; cases hl
    · intro d hd; cases hd
    · intro d hd; cases hd
    · intro d hd; cases hd
    · intro i j hi hl; rw [hsz i hi] at hl; cases hl
    · intro d hd; cases hd
    · intro d hd; cases hd
    · intro d hd; cases hd
  · unfold unl
    have := List.countP_le_length (p := fun i => !(Array.replicate ops.size false).getD i true) (l := List.range ops.size)
    simpa using this
end
end
section
variable [PlanTab]

inductive X where
  | normal | exit (id : Nat) | ret
def X.to : X → Exit
  | .normal => .normal
  | .exit id => .exit id
  | .ret => .ret
def X.jump : X → Option Code
  | .normal => none
  | .exit id => some (.exit id)
  | .ret => some .ret

noncomputable def aLoop (body : PlanTab.Fr → AW → Option (X × PlanTab.Fr × AW)) : Nat → PlanTab.Fr → AW → Option (X × PlanTab.Fr × AW)
  | 0, _, _ => none
  | n + 1, R, W => match body R W with
    | some (.normal, R', W') => aLoop body n R' W'
    | r => r

noncomputable def aCode (P : Program) (call : Callee) (top : Bool) (nt : Nat) : Code → PlanTab.Fr → AW → Option (X × PlanTab.Fr × AW)
  | .skip, R, W => some (.normal, R, W)
  | .label _, R, W => some (.normal, R, W)
  | .region id ops draw, R, W =>
    match draw with
    | false => (aOps P call ops ops.toList R W).map fun r => (.normal, r.1, r.2)
    | true => match PlanTab.D id ops with
      | none => (aOps P call ops ops.toList R W).map fun r => (.normal, r.1, r.2)
      | some pl => (aPlan P call ops pl R W).map fun r => (.normal, r.1, r.2)
  | .seq a b, R, W => match aCode P call top nt a R W with
    | some (.normal, R', W') => aCode P call top nt b R' W'
    | r => r
  | .cond c a b, R, W => match aEval R c with
    | .bool true => aCode P call top nt a R W
    | .bool false => aCode P call top nt b R W
    | _ => none
  | .block id b, R, W => match aCode P call top nt b R W with
    | some (.exit i, R', W') => if i = id then some (.normal, R', W') else some (.exit i, R', W')
    | r => r
  | .loop b, R, W => aLoop (aCode P call top nt b) 1000000 R W
  | .rangeFunc f ps as bd, R, W =>
    match top with
    | false => none
    | true => match aEval R f with
     | .func (.func i) fs cs => W.new (.loop .ready none R nt ps as bd) fun l W1 =>
      match call (.func (.func i) fs cs) [.func (.yield l) #[] #[]] W1 with
      | some (_, W2) => match W2.get l with
        | some (.loop st pend _ _ _ _ _) => (match st with
          | .busy => none
          | _ => match pend with
            | none => some (.normal, R, W2.kill l)
            | some (.exit i) => some (.exit i, R, W2.kill l)
            | some .ret => some (.ret, R, W2.kill l)
            | _ => none)
        | _ => none
      | none => none
     | _ => none
  | .exit id, R, W => some (.exit id, R, W)
  | .ret, R, W => some (.ret, R, W)
  | .goto _, _, _ => none
  | .scope _, _, _ => none
  | .refuse _, _, _ => none

def Marks (n0 : Nat) (σ : Inj) (w : World) : List Deferred → Prop
  | [] => True
  | d :: ds => (∃ r, d = { target := .collected r, args := #[] } ∧ n0 ≤ r ∧ w.heap[r]? = some (.deferred (some [])) ∧ (∀ b g, σ b = some g → g.B ≠ r) ∧
      ∀ d' ∈ ds, ∀ r', d'.target = .collected r' → r' ≠ r) ∧ Marks n0 σ w ds

section
variable {P : Program} {σ σ' : Inj} {W W' : AW} {w w' : World} {n0 : Nat}

theorem Marks.ext (he : Ext σ W w σ' W' w') : ∀ {ds : List Deferred}, Marks n0 σ w ds → Marks n0 σ' w' ds := by
  intro ds
  induction ds with
  | nil => intro _; trivial
  | cons d ds ih =>
    rintro ⟨⟨r, h1, h2, h3, h4, h5⟩, hds⟩
    have hr : r < w.heap.size := (Array.getElem?_eq_some_iff.1 h3).1
    have hm : ¬ Mut σ W r := by rintro ⟨b, g, hg, e, _⟩; exact h4 b g hg e
    refine ⟨⟨r, h1, h2, (he.keep r hr hm).trans h3, fun b g hg e => ?_, h5⟩, ih hds⟩
    rcases he.grow b g hg (by omega) with h | h
    · exact h4 b g h e
    · rw [e] at h; exact hm h
theorem WRel.push (h : WRel σ W w.heap) (x : Obj) (hx : ∀ c t fr, x ≠ .cells c t fr) : WRel σ W (w.heap.push x) ∧ Ext σ W w σ W { w with heap := w.heap.push x } := by
  have hold : ∀ B, B < w.heap.size → (w.heap.push x)[B]? = w.heap[B]? := fun B hB => by
    rw [Array.getElem?_push]; rw [if_neg (by omega)]
  refine ⟨⟨h.free, fun b g hg => ?_, fun b o g hb hg => (h.obj b o g hb hg).same (hold _ (h.dom b g hg).2), h.disj⟩,
    ⟨.refl _, fun _ _ h => h, by simp, rfl, rfl, rfl, fun B hB _ => hold B hB, fun _ _ h k => ⟨h, k⟩, fun b g hg _ => .inl hg⟩⟩
  · have := h.dom b g hg
    simp; omega
theorem WRel.other (h : WRel σ W w.heap) {r : Nat} (hr : ∀ b g, σ b = some g → g.B ≠ r) (x : Obj) : WRel σ W (w.heap.setIfInBounds r x) := by
  refine ⟨h.free, fun b g hg => ?_, fun b o g hb hg => (h.obj b o g hb hg).same ?_, h.disj⟩
  · have := h.dom b g hg; simpa using this
  · rw [Array.getElem?_setIfInBounds_ne (Ne.symm (hr b g hg))]

theorem range_ops (ops : Array Oper) : (List.range ops.size).filterMap (fun i => ops[i]?) = ops.toList := by
  have h1 : (List.range ops.size).filterMap (fun i => ops[i]?) = (List.range ops.size).map fun i => ops.getD i default := by
    have key : ∀ l : List Nat, (∀ i ∈ l, i < ops.size) → l.filterMap (fun i => ops[i]?) = l.map fun i => ops.getD i default := by
      intro l
      induction l with
      | nil => intro _; rfl
      | cons i l ih =>
        intro h
        have hi : i < ops.size := h i (by simp)
        simp only [List.filterMap_cons, List.map_cons, Array.getElem?_eq_getElem hi]
        rw [ih fun j hj => h j (by simp [hj])]
        simp [hi]
    exact key _ fun i hi => by simpa using hi
  rw [h1]
  refine List.ext_getElem? fun i => ?_
  simp only [List.getElem?_map, Array.getElem?_toList]
  by_cases hi : i < ops.size
  · rw [List.getElem?_range hi]; simp [hi]
  · rw [List.getElem?_eq_none (by simpa using hi)]; simp [hi]

theorem ops_wp {ng : List Nat} {nt : Nat} {call : Callee} (hc : CalleeOK P ng call) {ops : Array Oper} (hok : ∀ (i : Nat) (o : Oper), ops[i]? = some o → okOper nt ng o = true) {ro : Option Nat} {Q : Exit → Act → World → Prop} {Rf : PlanTab.Fr} {Wf : AW} :
    ∀ (l : List Nat) (σ : Inj) (R : PlanTab.Fr) (W : AW) (a : Act) (w : World), (∀ i ∈ l, i < ops.size) → WRel σ W w.heap → Glob σ ng → RegRel nt σ R a.tmps →
      aOps P call ops (l.filterMap fun i => ops[i]?) R W = some (Rf, Wf) →
      (∀ σ' a' w', RegRel nt σ' Rf a'.tmps → a'.defers = a.defers → WRel σ' Wf w'.heap → Ext σ W w σ' Wf w' → Q .normal a' w') → wpOpsIn (FE ro) 0 P ops Q l a w := by
  intro l
  induction l with
  | nil =>
    intro σ R W a w _ hW hG hR h hQ
    injection h with h
    injection h with h1 h2
    subst h1; subst h2
    exact hQ σ a w hR rfl hW (.refl _ _ _)
  | cons i l ih =>
    intro σ R W a w hl hW hG hR h hQ
    have hi : i < ops.size := hl i (by simp)
    have hg : ops[i]? = some ops[i] := Array.getElem?_eq_getElem hi
    simp only [List.filterMap_cons, hg, aOps] at h
    split at h
    case h_2 => cases h
    rename_i R' W' hs
    have hlook : ∀ t ∈ (ops[i]).looksAt ops, VR σ (rget R t) (a.tmps.getD t undef) := fun t ht => hR.2 t (looks_lt hok hg ht)
    have hρ := operands_rel hG (hok _ _ hg) hlook
    have hwe := wanted_eq hlook
    simp only [wpOpsIn, hg, hwe]
    unfold aStep at hs
    split at hs
    · rename_i hw
      rw [if_pos hw]
      split at hs
      · rename_i v W1 hop
        injection hs with hs
        injection hs with hs1 hs2
        subst hs1; subst hs2
        refine aOpC_wp hc hW hG hop hρ fun σ' v' w' hv hw' he => ?_
        exact ih σ' _ _ _ w' (fun j hj => hl j (by simp [hj])) hw' (hG.mono he.sub) ((hR.mono he.sub).put _ hv) h
          (fun σ'' a' w'' k1 k2 k3 k4 => hQ σ'' a' w'' k1 (by rw [k2, put_defers]) k3 (he.trans k4))
      · cases hs
    · rename_i hw
      rw [if_neg hw]
      injection hs with hs
      injection hs with hs1 hs2
      subst hs1; subst hs2
      exact ⟨fun f _ => trivial, ih σ _ _ _ w (fun j hj => hl j (by simp [hj])) hW hG (hR.put _ .undef) h
        (fun σ'' a' w'' k1 k2 k3 k4 => hQ σ'' a' w'' k1 (by rw [k2, put_defers]) k3 k4)⟩
end
end
section
variable [PlanTab]

section
variable {P : Program}

theorem map_normal {x : X} {R' : PlanTab.Fr} {W' : AW} {y : Option (PlanTab.Fr × AW)} (h : (y.map fun r => ((X.normal, r.1, r.2) : X × PlanTab.Fr × AW)) = some (x, R', W')) : x = .normal ∧ y = some (R', W') := by
  cases y with
  | none => cases h
  | some r =>
    simp only [Option.map_some, Option.some.injEq, Prod.mk.injEq] at h
    obtain ⟨h1, h2, h3⟩ := h
    exact ⟨h1.symm, by rw [← h2, ← h3]⟩

def Walks (P : Program) (ng : List Nat) (nt n0 : Nat) (ro : Option Nat) (c : Code) (x : X) (R : PlanTab.Fr) (W : AW) (R' : PlanTab.Fr) (W' : AW) : Prop :=
  ∀ (σ : Inj) (a : Act) (w : World) (Q : Exit → Act → World → Prop), WRel σ W w.heap → Glob σ ng → RegRel nt σ R a.tmps → Marks n0 σ w a.defers → n0 ≤ w.heap.size →
    (∀ σ' a' w', RegRel nt σ' R' a'.tmps → Marks n0 σ' w' a'.defers → WRel σ' W' w'.heap → Ext σ W w σ' W' w' → Q x.to a' w') → c.wpIn (FE ro) 0 P Q a w

theorem then_ne {x : X} (hx : x ≠ .normal) {N : Act → World → Prop} {Q : Exit → Act → World → Prop} {a : Act} {w : World} (h : Q x.to a w) : Exit.then N Q x.to a w := by
  cases x with
  | normal => exact absurd rfl hx
  | exit id => exact h
  | ret => exact h
theorem block_to {x : X} {id : Nat} {Q : Exit → Act → World → Prop} {a : Act} {w : World} (h : (match x with | .exit i => if i = id then Q .normal a w else Q (.exit i) a w | x => Q x.to a w)) : Exit.inBlock id Q x.to a w := by
  cases x with
  | normal => exact h
  | exit i => exact h
  | ret => exact h

theorem aLoop_wp {ng : List Nat} {nt n0 : Nat} {ro : Option Nat} {b : Code} {body : PlanTab.Fr → AW → Option (X × PlanTab.Fr × AW)} (hb : ∀ x R W R' W', body R W = some (x, R', W') → Walks P ng nt n0 ro b x R W R' W') :
    ∀ (m : Nat) (x : X) (R : PlanTab.Fr) (W : AW) (R' : PlanTab.Fr) (W' : AW), aLoop body m R W = some (x, R', W') → x ≠ .normal ∧ ∀ (σ : Inj) (a : Act) (w : World) (Q : Exit → Act → World → Prop), WRel σ W w.heap → Glob σ ng → RegRel nt σ R a.tmps → Marks n0 σ w a.defers → n0 ≤ w.heap.size →
      (∀ σ' a' w', RegRel nt σ' R' a'.tmps → Marks n0 σ' w' a'.defers → WRel σ' W' w'.heap → Ext σ W w σ' W' w' → Q x.to a' w') → Code.roundsIn (FE ro) 0 P b Q m a w := by
  intro m
  induction m with
  | zero => intro x R W R' W' h; cases h
  | succ m ih =>
    intro x R W R' W' h
    unfold aLoop at h
    split at h
    · rename_i R1 W1 h1
      obtain ⟨hx, hrest⟩ := ih x R1 W1 R' W' h
      refine ⟨hx, fun σ a w Q hW hG hR hM hn hQ => ?_⟩
      refine hb _ _ _ _ _ h1 σ a w _ hW hG hR hM hn fun σ1 a1 w1 k1 k2 k3 k4 => ?_
      exact hrest σ1 a1 w1 Q k3 (hG.mono k4.sub) k1 k2 (Nat.le_trans hn k4.size) fun σ2 a2 w2 g1 g2 g3 g4 => hQ σ2 a2 w2 g1 g2 g3 (k4.trans g4)
    · rename_i hne
      have hx : x ≠ .normal := by
        rintro rfl
        exact hne R' W' h
      refine ⟨hx, fun σ a w Q hW hG hR hM hn hQ => ?_⟩
      exact hb _ _ _ _ _ h σ a w _ hW hG hR hM hn fun σ1 a1 w1 k1 k2 k3 k4 => then_ne hx (hQ σ1 a1 w1 k1 k2 k3 k4)

theorem aCode_walks (hm : P.follows .mixedOrders = true) {ng : List Nat} {nt n0 : Nat} (hng : ng = PlanTab.ng) {call : Callee} (hc : CalleeOK P ng call) {top : Bool} {ro : Option Nat} (hro : top = true → ro = none) :
    ∀ (c : Code), codeOk nt ng c = true → ∀ (x : X) (R : PlanTab.Fr) (W : AW) (R' : PlanTab.Fr) (W' : AW), aCode P call top nt c R W = some (x, R', W') → Walks P ng nt n0 ro c x R W R' W' := by
  intro c
  induction c with
  | skip =>
    intro _ x R W R' W' h σ a w Q hW hG hR hM hn hQ
    injection h with h; injection h with h1 h2; injection h2 with h2 h3; subst h1; subst h2; subst h3
    exact wpIn_skip (hQ σ a w hR hM hW (.refl _ _ _))
  | label l =>
    intro _ x R W R' W' h σ a w Q hW hG hR hM hn hQ
    injection h with h; injection h with h1 h2; injection h2 with h2 h3; subst h1; subst h2; subst h3
    exact wpIn_label (hQ σ a w hR hM hW (.refl _ _ _))
  | exit id =>
    intro _ x R W R' W' h σ a w Q hW hG hR hM hn hQ
    injection h with h; injection h with h1 h2; injection h2 with h2 h3; subst h1; subst h2; subst h3
    exact wpIn_exit (hQ σ a w hR hM hW (.refl _ _ _))
  | ret =>
    intro _ x R W R' W' h σ a w Q hW hG hR hM hn hQ
    injection h with h; injection h with h1 h2; injection h2 with h2 h3; subst h1; subst h2; subst h3
    exact wpIn_ret (hQ σ a w hR hM hW (.refl _ _ _))
  | goto l => intro _ x R W R' W' h; cases h
  | scope b _ => intro _ x R W R' W' h; cases h
  | refuse s => intro _ x R W R' W' h; cases h
  | region id ops draw =>
    intro hok x R W R' W' h σ a w Q hW hG hR hM hn hQ
    simp only [codeOk, Bool.and_eq_true, Bool.or_eq_true, Bool.not_eq_true'] at hok
    have hok' : ∀ (i : Nat) (o : Oper), ops[i]? = some o → okOper nt ng o = true := fun i o ho => List.all_eq_true.1 hok.1 o (by have := Array.mem_of_getElem? ho; simpa using this)
    unfold aCode at h
    split at h
    · obtain ⟨hx, hy⟩ := map_normal h
      subst hx
      refine wpIn_region (ops_wp hc hok' (List.range ops.size) σ R W a w (by simp) hW hG hR (by rw [range_ops]; exact hy) fun σ' a' w' k1 k2 k3 k4 => ?_)
      exact hQ σ' a' w' k1 (by rw [k2]; exact hM.ext k4) k3 k4
    · have hpl : planOK ops (planOf ops (PlanTab.D id ops)) = true := hok.2.resolve_left (by simp)
      split at h
      · rename_i hD
        obtain ⟨hx, hy⟩ := map_normal h
        subst hx
        rw [hD] at hpl
        refine drawn_wp hm hc hok.1 hpl hW hG hR (Rf := R') (Wf := W') ?_ fun σ' a' w' k1 k2 k3 k4 => hQ σ' a' w' k1 (by rw [k2]; exact hM.ext k4) k3 k4
        show aPlan P call ops ((List.range ops.size).map fun i => (i, [])) R W = _
        rw [aOps_aPlan _ _ _ (by simp), range_ops]
        exact hy
      · rename_i pl hD
        obtain ⟨hx, hy⟩ := map_normal h
        subst hx
        rw [hD] at hpl
        exact drawn_wp hm hc hok.1 hpl hW hG hR hy fun σ' a' w' k1 k2 k3 k4 => hQ σ' a' w' k1 (by rw [k2]; exact hM.ext k4) k3 k4
  | seq b c ihb ihc =>
    intro hok x R W R' W' h σ a w Q hW hG hR hM hn hQ
    simp only [codeOk, Bool.and_eq_true] at hok
    unfold aCode at h
    split at h
    · rename_i R1 W1 h1
      refine wpIn_seq (ihb hok.1 _ _ _ _ _ h1 σ a w _ hW hG hR hM hn fun σ1 a1 w1 k1 k2 k3 k4 => ?_)
      exact ihc hok.2 _ _ _ _ _ h σ1 a1 w1 Q k3 (hG.mono k4.sub) k1 k2 (Nat.le_trans hn k4.size) fun σ2 a2 w2 g1 g2 g3 g4 => hQ σ2 a2 w2 g1 g2 g3 (k4.trans g4)
    · rename_i hne
      have hx : x ≠ .normal := by rintro rfl; exact hne R' W' h
      exact wpIn_seq (ihb hok.1 _ _ _ _ _ h σ a w _ hW hG hR hM hn fun σ1 a1 w1 k1 k2 k3 k4 => then_ne hx (hQ σ1 a1 w1 k1 k2 k3 k4))
  | cond o b c ihb ihc =>
    intro hok x R W R' W' h σ a w Q hW hG hR hM hn hQ
    simp only [codeOk, Bool.and_eq_true] at hok
    obtain ⟨⟨h1, h2⟩, h3⟩ := hok
    have hv := aEval_rel hR hG h1
    unfold aCode at h
    split at h
    · rename_i he
      rw [he] at hv
      exact wpIn_cond_true hv.bool_inv (ihb h2 _ _ _ _ _ h σ a w Q hW hG hR hM hn hQ)
    · rename_i he
      rw [he] at hv
      exact wpIn_cond_false hv.bool_inv (ihc h3 _ _ _ _ _ h σ a w Q hW hG hR hM hn hQ)
    · cases h
  | block id b ih =>
    intro hok x R W R' W' h σ a w Q hW hG hR hM hn hQ
    simp only [codeOk] at hok
    unfold aCode at h
    split at h
    · rename_i i R1 W1 h1
      refine wpIn_block (ih hok _ _ _ _ _ h1 σ a w _ hW hG hR hM hn fun σ1 a1 w1 k1 k2 k3 k4 => block_to ?_)
      simp only
      split at h
      · rename_i hi
        injection h with h; injection h with e1 e2; injection e2 with e2 e3; subst e1; subst e2; subst e3
        rw [if_pos hi]; exact hQ σ1 a1 w1 k1 k2 k3 k4
      · rename_i hi
        injection h with h; injection h with e1 e2; injection e2 with e2 e3; subst e1; subst e2; subst e3
        rw [if_neg hi]; exact hQ σ1 a1 w1 k1 k2 k3 k4
    · rename_i hne
      refine wpIn_block (ih hok _ _ _ _ _ h σ a w _ hW hG hR hM hn fun σ1 a1 w1 k1 k2 k3 k4 => block_to ?_)
      cases x with
      | normal => exact hQ σ1 a1 w1 k1 k2 k3 k4
      | exit i => exact absurd h (hne i R' W')
      | ret => exact hQ σ1 a1 w1 k1 k2 k3 k4
  | loop b ih =>
    intro hok x R W R' W' h σ a w Q hW hG hR hM hn hQ
    simp only [codeOk] at hok
    unfold aCode at h
    exact wpIn_loop_rounds _ ((aLoop_wp (fun x R W R' W' hh => ih hok x R W R' W' hh) _ x R W R' W' h).2 σ a w Q hW hG hR hM hn hQ)
  | rangeFunc f ps as bd _ _ =>
    intro hok x R W R' W' h σ a w Q hW hG hR hM hn hQ
    simp only [codeOk, Bool.and_eq_true] at hok
    obtain ⟨⟨⟨h1, h2⟩, h3⟩, h4⟩ := hok
    unfold aCode at h
    split at h
    · cases h
    have hro' : ro = none := hro rfl
    subst hro'
    split at h
    case h_2 => cases h
    rename_i i0 fs0 cs0 hf0
    rw [AW.new_eq] at h
    split at h
    case h_2 => cases h
    rename_i u W2 hcall
    split at h
    case h_2 => cases h
    rename_i st pend R9 nt9 ps9 as9 bd9 hget
    obtain ⟨p1, p2⟩ := hW.push (.deferred (some [])) (fun _ _ _ e => by cases e)
    let w0 : World := { w with heap := w.heap.push (.deferred (some [])) }
    let rec_ : Nat → Loop := fun fn => { state := .ready, pending := none, fn, tmps := a.tmps, params := ps, assign := as, body := bd, defers := w.heap.size }
    refine wpIn_rangeFunc fun fn _ => ?_
    have hsub0 : Sub σ (bind1 σ W.next ⟨w0.heap.size, 0, 1⟩) := bind1_sub hW.fresh
    obtain ⟨q1, q2⟩ := WRel.alloc (w := w0) p1 (o := .loop .ready none R nt ps as bd) (x := .loop (rec_ fn)) (e := 1)
      ⟨rfl, rfl, rec_ fn, by simp, rfl, rfl, hR.mono hsub0, rfl, rfl, rfl, ⟨by rw [← hng]; exact hG.mono hsub0, by rw [← hng]; exact h3⟩, ⟨by rw [← hng]; exact hG.mono hsub0, by rw [← hng]; exact h4⟩, h2⟩
    have hfv := (aEval_rel hR hG h1).mono hsub0
    rw [hf0] at hfv
    have hargs : LR (bind1 σ W.next ⟨w0.heap.size, 0, 1⟩) [.func (.yield W.next) #[] #[]] [.func (.yield w0.heap.size) #[] #[]] :=
      .cons (.func _ _ _ _ _ _ (.yield _ _ bind1_same) rfl (fun i v v' x => by simp at x) rfl (fun i v v' x => by simp at x)) .nil
    have hcv := hc _ _ _ _ _ hcall _ { w0 with heap := w0.heap.push (.loop (rec_ fn)) } _ _ q1 (hG.mono hsub0) hfv hargs
    have hszl : w0.heap.size = w.heap.size + 1 := by simp [w0]
    have hmark0 : Marks n0 (bind1 σ W.next ⟨w0.heap.size, 0, 1⟩) { w0 with heap := w0.heap.push (.loop (rec_ fn)) } ([{ target := .collected w.heap.size, args := #[] }] ++ a.defers) := by
      refine ⟨⟨w.heap.size, rfl, hn, ?_, ?_, ?_⟩, (hM.ext p2).ext q2⟩
      · show (w0.heap.push _)[w.heap.size]? = _
        rw [Array.getElem?_push, if_neg (by omega)]
        simp [w0]
      · intro b g hg e
        unfold bind1 at hg
        split at hg
        · injection hg with hg; subst hg; simp at e; omega
        · have := (hW.dom b g hg).2; omega
      · intro d' hd' r' ht e
        have : ∀ {ds : List Deferred}, Marks n0 σ w ds → ∀ d' ∈ ds, ∀ r', d'.target = .collected r' → r' < w.heap.size := by
          intro ds
          induction ds with
          | nil => intro _ d' hd'; cases hd'
          | cons d ds ih =>
            rintro ⟨⟨r, e1, e2, e3, _⟩, hds⟩ d' hd' r' ht
            rcases List.mem_cons.1 hd' with rfl | hd'
            · rw [e1] at ht; injection ht with ht; subst ht; exact (Array.getElem?_eq_some_iff.1 e3).1
            · exact ih hds d' hd' r' ht
        have := this hM d' hd' r' ht
        omega
    unfold CallV at hcv
    split at hcv
    case h_3 => exact hcv.elim
    · rename_i fv i fs cs heq
      obtain ⟨c1, c2⟩ := hcv
      refine ⟨w0.heap.size, [{ target := .collected w.heap.size, args := #[] }], { w0 with heap := w0.heap.push (.loop (rec_ fn)) }, { target := .fn (.func i) cs, args := fs ++ #[.func (.yield w0.heap.size) #[] #[]] }, { w0 with heap := w0.heap.push (.loop (rec_ fn)) }, i, fs ++ #[.func (.yield w0.heap.size) #[] #[]] ++ cs, { w0 with heap := w0.heap.push (.loop (rec_ fn)) }, ?_, ?_, fun _ _ => trivial, ?_, fun hd => by rw [FE_depth] at hd; simp at hd, ?_⟩
      · show (Instr.enterLoop fn a.tmps ps as bd none).run P w = _
        rw [run_enterLoop_outer, hszl]
        rfl
      · show (resolve a.eval (rangeCall f w0.heap.size) 0).run P _ = .ok _ { w0 with heap := w0.heap.push (.loop (rec_ fn)) }
        have : a.eval f = .func (.func i) fs cs := heq
        have hcst : a.eval (.const (.func (.yield w0.heap.size) #[] #[])) = .func (.yield w0.heap.size) #[] #[] := rfl
        simp [resolve, this, Deferred.ofValue, hcst]
      · show (invoke (.fn (.func i) cs) (fs ++ #[.func (.yield w0.heap.size) #[] #[]])).run P _ = _
        have c1' : (callFunc i (fs ++ #[.func (.yield w0.heap.size) #[] #[]] ++ cs)).run P { w0 with heap := w0.heap.push (.loop (rec_ fn)) } = _ := c1
        simpa [invoke] using c1'
      · refine CallsIn.mono (callsIn_FE c2) ?_
        rintro e w' ⟨v', rfl, σ', k1, k2, k3⟩
        obtain ⟨hz, hzz⟩ : σ' W.next = some ⟨w0.heap.size, 0, 1⟩ ∧ True := ⟨k3.sub _ _ bind1_same, trivial⟩
        obtain ⟨_, _, r, r1, r2, r3, r4, r5, r6, r7, r8, r9, r10⟩ := k2.obj _ _ _ hget hz
        have hstb : st ≠ .busy := by rintro rfl; simp at h
        have hend := run_endLoop (P := P) r1 (by rw [r2]; exact hstb)
        obtain ⟨s1, s2⟩ := k2.setObj (w := w') (o' := .loop .exhausted pend R9 nt9 ps9 as9 bd9) (x := .loop { r with state := .exhausted }) hget (fun _ => by simp) hz ⟨rfl, rfl⟩ (fun c t fr e => by rw [r1] at e; cases e)
          ⟨rfl, rfl, { r with state := .exhausted }, by simp [(k2.dom _ _ hz).2], rfl, r3, r4, r5, r6, r7, r8, r9, r10⟩
        obtain ⟨t1, t2⟩ := WRel.kill (w := { w' with heap := w'.heap.setIfInBounds w0.heap.size (.loop { r with state := .exhausted }) }) s1 (b := W.next) (g0 := ⟨w0.heap.size, 0, 1⟩) (fun cs => by rw [AW.get_put]; simp) hz
        have hkill : (W2.put W.next (.loop .exhausted pend R9 nt9 ps9 as9 bd9)).kill W.next = W2.kill W.next := by
          simp only [AW.kill, AW.put]
          congr 1
          exact T.set_set _ _ _ _
        rw [hkill] at t1 t2
        have hext : Ext σ W w σ' (W2.kill W.next) { w' with heap := w'.heap.setIfInBounds w0.heap.size (.loop { r with state := .exhausted }) } :=
          (((p2.trans q2).trans k3).trans s2).trans t2
        have hmarks : Marks n0 σ' { w' with heap := w'.heap.setIfInBounds w0.heap.size (.loop { r with state := .exhausted }) } ([{ target := .collected w.heap.size, args := #[] }] ++ a.defers) :=
          ((hmark0.ext k3).ext s2).ext t2
        refine ⟨pend, { w' with heap := w'.heap.setIfInBounds w0.heap.size (.loop { r with state := .exhausted }) }, by rw [hend, r3]; rfl, ?_⟩
        have fin : ∀ x', x = x' → R' = R → W' = W2.kill W.next → Q x'.to { a with defers := [{ target := .collected w.heap.size, args := #[] }] ++ a.defers } { w' with heap := w'.heap.setIfInBounds w0.heap.size (.loop { r with state := .exhausted }) } := by
          rintro x' rfl rfl rfl
          exact hQ σ' _ _ (hR.mono hext.sub) hmarks t1 hext
        cases pend with
        | none =>
          have : x = .normal ∧ R' = R ∧ W' = W2.kill W.next := by cases st <;> simp at h <;> simp_all
          exact fin .normal this.1 this.2.1 this.2.2
        | some cc =>
          cases cc <;> first
            | (exfalso; cases st <;> simp at h; done)
            | skip
          · rename_i id
            have : x = .exit id ∧ R' = R ∧ W' = W2.kill W.next := by cases st <;> simp at h <;> simp_all
            exact wpIn_exit (fin (.exit id) this.1 this.2.1 this.2.2)
          · have : x = .ret ∧ R' = R ∧ W' = W2.kill W.next := by cases st <;> simp at h <;> simp_all
            exact wpIn_ret (fin .ret this.1 this.2.1 this.2.2)
    · rename_i fv l fs cs heq
      exfalso
      obtain ⟨fn', fs', cs', k1, _, _, k4⟩ := hfv.func_inv
      cases k1
      rw [heq] at k4
      cases k4
end
end
section
variable [PlanTab]

noncomputable def argGo : Nat → List Value → PlanTab.Fr → PlanTab.Fr
  | _, [], R => R
  | k, v :: l, R => argGo (k + 1) l (rset R k v)
noncomputable def zipGo : List Tmp → List Value → PlanTab.Fr → PlanTab.Fr
  | t :: ts, v :: l, R => zipGo ts l (rset R t v)
  | _, _, R => R
noncomputable def aRes (P : Program) (W : AW) (R : PlanTab.Fr) : List ResultVar → Option (List Value)
  | [] => some []
  | .tmp t :: l => match aRes P W R l with
    | some vs => some (rget R t :: vs)
    | none => none
  | .cell a t :: l => match aLoad P W t (rget R a) with
    | some v => match aRes P W R l with
      | some vs => some (v :: vs)
      | none => none
    | none => none
noncomputable def aResults (P : Program) (W : AW) (R : PlanTab.Fr) (rs : Array ResultVar) : Option Value :=
  match aRes P W R rs.toList with
  | some [v] => some v
  | some vs => some (.tuple vs.toArray)
  | none => none
def resOk (nt : Nat) : ResultVar → Bool
  | .tmp t => Nat.blt t nt
  | .cell a _ => Nat.blt a nt
def funOk (ng : List Nat) (fn : Func) : Bool :=
  match fn.body with
  | some c => codeOk fn.ntmps ng c && fn.results.toList.all (resOk fn.ntmps) && !(fn.name == "runtime.NumGoroutine")
  | none => true
def funsOk (ng : List Nat) (bad : List Nat) : Nat → List Func → Bool
  | _, [] => true
  | i, fn :: l => (inL i bad || funOk ng fn) && funsOk ng bad (i + 1) l

noncomputable def bodyC (P : Program) (bad : List Nat) (spec call : Callee) : Callee := fun f args W =>
    match f with
    | .func (.func i) fs cs => match inL i bad with
      | true => spec (.func (.func i) fs cs) args W
      | false => match P.funcs[i]? with
        | some fn => match fn.body with
          | some c => match Nat.ble (fs.toList.length + (args.length + cs.toList.length)) fn.ntmps with
            | true => match aCode P call true fn.ntmps c (argGo 0 (fs.toList ++ (args ++ cs.toList)) PlanTab.blank) W with
              | some (x, R, W') => match x with
                | .exit _ => none
                | _ => match aResults P W' R fn.results with
                  | some v => some (v, W')
                  | none => none
              | none => none
            | false => none
          | none => none
        | none => none
    | .func (.yield l) fs _ => match W.get l with
      | some (.loop .ready none R nt ps as bd) => match Nat.beq (fs.toList.length + args.length) ps.size with
        | true => match aCode P call false nt as (zipGo ps.toList (fs.toList ++ args) R) W with
          | some (.normal, R1, W1) => match W1.get l with
            | some (.loop .ready pd9 R9 nt9 ps9 as9 bd9) => match aCode P call false nt bd R1 (W1.put l (.loop .busy pd9 R9 nt9 ps9 as9 bd9)) with
              | some (x, _, W2) => match W2.get l with
                | some (.loop _ _ R8 nt8 ps8 as8 bd8) => match x with
                  | .normal => some (.bool true, W2.put l (.loop .ready none R8 nt8 ps8 as8 bd8))
                  | x => some (.bool false, W2.put l (.loop .done x.jump R8 nt8 ps8 as8 bd8))
                | _ => none
              | none => none
            | _ => none
          | _ => none
        | false => none
      | _ => none
    | _ => none
noncomputable def aCallF (P : Program) (bad : List Nat) (spec : Callee) : Nat → Callee
  | 0 => fun _ _ _ => none
  | n + 1 => bodyC P bad spec (aCallF P bad spec n)

theorem funsOk_get {ng : List Nat} {bad : List Nat} : ∀ (l : List Func) (k : Nat), funsOk ng bad k l = true → ∀ (i : Nat) (fn : Func), l[i]? = some fn → inL (k + i) bad = false → funOk ng fn = true := by
  intro l
  induction l with
  | nil => intro k _ i fn h; simp at h
  | cons f l ih =>
    intro k h i fn hi hb
    simp only [funsOk, Bool.and_eq_true, Bool.or_eq_true] at h
    cases i with
    | zero =>
      simp at hi
      subst hi
      rcases h.1 with h1 | h1
      · simp at hb; rw [h1] at hb; cases hb
      · exact h1
    | succ i =>
      simp at hi
      exact ih (k + 1) h.2 i fn hi (by rw [← hb]; congr 1; omega)

theorem rget_lf (t : Nat) : rget PlanTab.blank t = undef := PlanTab.get_blank t
theorem argGo_get : ∀ (l : List Value) (k : Nat) (R : PlanTab.Fr) (t : Nat), rget (argGo k l R) t = if k ≤ t ∧ t < k + l.length then l.getD (t - k) undef else rget R t := by
  intro l
  induction l with
  | nil => intro k R t; simp [argGo]; intro h1 h2; omega
  | cons v l ih =>
    intro k R t
    simp only [argGo, ih, List.length_cons]
    by_cases h : k = t
    · subst h
      rw [if_neg (by omega), if_pos (by omega), rget_rset]
      simp
    · rw [rget_rset_ne _ _ h]
      by_cases h2 : k + 1 ≤ t ∧ t < k + 1 + l.length
      · rw [if_pos h2, if_pos (by omega)]
        obtain ⟨j, hj⟩ : ∃ j, t - k = j + 1 := ⟨t - k - 1, by omega⟩
        have : t - (k + 1) = j := by omega
        rw [this, hj]
        simp
      · rw [if_neg h2, if_neg (by omega)]

section
variable {P : Program} {σ : Inj} {W : AW} {w : World}

theorem args_rel {nt : Nat} {l : List Value} {a : Array Value} (h : LR σ l a.toList) (hn : l.length ≤ nt) : RegRel nt σ (argGo 0 l PlanTab.blank) (a ++ Array.replicate (nt - a.size) undef) := by
  have hlen : l.length = a.size := by have := h.1; simpa using this
  refine ⟨by simp; omega, fun t ht => ?_⟩
  rw [argGo_get]
  by_cases hlt : t < l.length
  · rw [if_pos (by omega)]
    have h1 : l[t]? = some l[t] := List.getElem?_eq_getElem hlt
    obtain ⟨v', e, hv⟩ := h.get h1
    have e1 : l.getD (t - 0) undef = l[t] := by simp [hlt]
    have e2 : (a ++ Array.replicate (nt - a.size) undef).getD t undef = v' := by
      rw [Array.getElem?_toList] at e
      have : t < a.size := by omega
      simp [Array.getElem?_append, this]
      rw [Array.getElem?_eq_getElem this] at e
      injection e
    rw [e1, e2]; exact hv
  · rw [if_neg (by omega), rget_lf]
    have e2 : (a ++ Array.replicate (nt - a.size) undef).getD t undef = undef := by
      simp only [Array.getD_eq_getD_getElem?, Array.getElem?_append]
      rw [if_neg (by omega)]
      simp [Array.getElem?_replicate]
      split <;> rfl
    rw [e2]; exact .undef

theorem zip_rel {nt : Nat} : ∀ (ts : List Tmp) (l l' : List Value) (R : PlanTab.Fr) (tm : Array Value), LR σ l l' → ts.all (fun t => Nat.blt t nt) = true → RegRel nt σ R tm →
    RegRel nt σ (zipGo ts l R) ((ts.zip l').foldl (fun tmps (x : Tmp × Value) => tmps.setIfInBounds x.1 x.2) tm) := by
  intro ts
  induction ts with
  | nil => intro l l' R tm h _ hR; cases l <;> exact hR
  | cons t ts ih =>
    intro l l' R tm h ha hR
    cases l with
    | nil => have := h.of_nil; subst this; exact hR
    | cons v l =>
      obtain ⟨v', l'', rfl, hv, hl⟩ := h.of_cons
      simp only [List.all_cons, Bool.and_eq_true] at ha
      exact ih l l'' _ _ hl ha.2 (hR.set t hv)

theorem load_result (hW : WRel σ W w.heap) {t : TypeId} {x x' v : Value} (h : aLoad P W t x = some v) (hx : VR σ x x') :
    ∃ v', (do loadVar t (← asAddr x') : Sem Value).run P w = .ok v' w ∧ VR σ v v' := by
  obtain ⟨v', h1, h2⟩ := aLoad_run hW h hx
  refine ⟨v', ?_, h2⟩
  rw [← h1]
  unfold aLoad at h
  split at h
  · obtain ⟨g, hg, hs, rfl⟩ := hx.ptr_inv
    simp [asAddr, Instr.loadAt, Instr.sureAddr]
  · cases h

def resOne (tmps : Array Value) (r : ResultVar) : Sem Value :=
  match r with
  | .tmp t => pure (tmps.getD t undef)
  | .cell a t => do loadVar t (← asAddr (tmps.getD a undef))
theorem results_eq (fn : Func) (tmps : Array Value) : results fn tmps = (do let vs ← fn.results.mapM (resOne tmps); pure (if h : vs.size = 1 then vs[0] else .tuple vs)) := rfl

theorem aRes_run (hW : WRel σ W w.heap) {nt : Nat} {R : PlanTab.Fr} {tmps : Array Value} (hR : RegRel nt σ R tmps) : ∀ (rs : List ResultVar) (vs : List Value), rs.all (resOk nt) = true → aRes P W R rs = some vs →
    ∃ vs', LR σ vs vs' ∧ (rs.mapM (resOne tmps)).run P w = .ok vs' w := by
  intro rs
  induction rs with
  | nil => intro vs _ h; injection h with h; subst h; exact ⟨[], .nil, by simp⟩
  | cons r rs ih =>
    intro vs hok h
    simp only [List.all_cons, Bool.and_eq_true] at hok
    cases r with
    | tmp t =>
      unfold aRes at h
      split at h
      · rename_i vs0 h0
        injection h with h; subst h
        obtain ⟨vs', k1, k2⟩ := ih vs0 hok.2 h0
        refine ⟨_, .cons (hR.2 t (by simpa [resOk, Nat.blt_eq] using hok.1)) k1, ?_⟩
        have h1 : (resOne tmps (.tmp t)).run P w = .ok (tmps.getD t undef) w := rfl
        rw [List.mapM_cons, Sem.run_bind, h1, Result.andThen_ok, Sem.run_bind, k2, Result.andThen_ok]
        rfl
      · cases h
    | cell a t =>
      unfold aRes at h
      split at h
      · rename_i v hv
        split at h
        · rename_i vs0 h0
          injection h with h; subst h
          obtain ⟨vs', k1, k2⟩ := ih vs0 hok.2 h0
          obtain ⟨v', k3, k4⟩ := load_result hW hv (hR.2 a (by simpa [resOk, Nat.blt_eq] using hok.1))
          refine ⟨_, .cons k4 k1, ?_⟩
          have h1 : (resOne tmps (.cell a t)).run P w = .ok v' w := k3
          rw [List.mapM_cons, Sem.run_bind, h1, Result.andThen_ok, Sem.run_bind, k2, Result.andThen_ok]
          rfl
        · cases h
      · cases h

theorem aResults_run (hW : WRel σ W w.heap) {fn : Func} {R : PlanTab.Fr} {tmps : Array Value} {v : Value} (hok : fn.results.toList.all (resOk fn.ntmps) = true) (hR : RegRel fn.ntmps σ R tmps) (h : aResults P W R fn.results = some v) :
    ∃ v', (results fn tmps).run P w = .ok v' w ∧ VR σ v v' := by
  unfold aResults at h
  have key : ∀ vs, aRes P W R fn.results.toList = some vs → ∃ vs', LR σ vs vs' ∧ (results fn tmps).run P w = .ok (if h : vs'.toArray.size = 1 then vs'.toArray[0] else .tuple vs'.toArray) w := by
    intro vs hvs
    obtain ⟨vs', k1, k2⟩ := aRes_run hW hR _ _ hok hvs
    refine ⟨vs', k1, ?_⟩
    rw [results_eq, Sem.run_bind, Array.mapM_eq_mapM_toList, Sem.run_map, k2]
    rfl
  split at h
  · rename_i u hu
    injection h with h; subst h
    obtain ⟨vs', k1, k2⟩ := key _ hu
    obtain ⟨v', l', rfl, k3, k4⟩ := k1.of_cons
    have := k4.of_nil
    subst this
    exact ⟨v', by rw [k2]; simp, k3⟩
  · rename_i vs hne hvs
    injection h with h; subst h
    obtain ⟨vs', k1, k2⟩ := key _ hvs
    refine ⟨.tuple vs'.toArray, ?_, VR.tuple' (by simpa using k1)⟩
    rw [k2]
    have : vs'.toArray.size ≠ 1 := by
      intro e
      have e2 : vs.length = 1 := by have := k1.1; simp at e; omega
      match vs, e2 with
      | [u], _ => exact hne u rfl
    rw [dif_neg this]
  · cases h
end

section
variable {P : Program} {σ σ0 : Inj} {W W0 : AW} {w w0 : World}

theorem Ext.other (he : Ext σ0 W0 w0 σ W w) {r : Nat} (hr : w0.heap.size ≤ r) {x y : Obj} (hy : w.heap[r]? = some y) (hx : ∀ c t fr, x ≠ .cells c t fr) (hy' : ∀ c t fr, y ≠ .cells c t fr) : Ext σ0 W0 w0 σ W (w.putObj r x) :=
  ⟨he.sub, he.ro, by simpa [World.putObj] using he.size, he.os, he.tape, he.output, fun B hB hm => by
    rw [World.putObj_heap_other (by omega)]; exact he.keep B hB hm, he.ghost, he.grow⟩

theorem leaves {fn : Func} {R : PlanTab.Fr} {tmps : Array Value} {v : Value} (hok : fn.results.toList.all (resOk fn.ntmps) = true) (hR : RegRel fn.ntmps σ R tmps) (h : aResults P W R fn.results = some v) :
    ∀ (ds : List Deferred) (w : World), Marks w0.heap.size σ w ds → WRel σ W w.heap → Ext σ0 W0 w0 σ W w →
      LeavesInM (FE none) 0 P fn tmps (fun e w' => ∃ v', e = .returned v' ∧ ∃ σ', VR σ' v v' ∧ WRel σ' W w'.heap ∧ Ext σ0 W0 w0 σ' W w') ds .returning w := by
  intro ds
  induction ds with
  | nil =>
    intro w _ hW he
    obtain ⟨v', k1, k2⟩ := aResults_run hW hok hR h
    exact ⟨v', k1, v', rfl, σ, k2, hW, he⟩
  | cons d ds ih =>
    rintro w ⟨⟨r, e1, e2, e3, e4, e5⟩, hds⟩ hW he
    refine ⟨by simp, .inl ⟨r, w.putObj r (.deferred none), by rw [e1], run_takeDeferred e3, ih _ ?_ (hW.other e4 _) (he.other e2 e3 (fun _ _ _ e => by cases e) (fun _ _ _ e => by cases e))⟩⟩
    have : ∀ {ds : List Deferred}, (∀ d' ∈ ds, ∀ r', d'.target = .collected r' → r' ≠ r) → Marks w0.heap.size σ w ds → Marks w0.heap.size σ (w.putObj r (.deferred none)) ds := by
      intro ds
      induction ds with
      | nil => intro _ _; trivial
      | cons d ds ih =>
        rintro hne ⟨⟨r', a1, a2, a3, a4, a5⟩, hds⟩
        exact ⟨⟨r', a1, a2, by rw [World.putObj_heap_other (hne d (by simp) r' (by rw [a1]))]; exact a3, a4, a5⟩, ih (fun d' hd' => hne d' (by simp [hd'])) hds⟩
    exact this e5 hds
end
end
section
variable [PlanTab]

theorem FE_inRound (l : Nat) : (FE none).inRound l = FE (some l) := rfl
theorem run_callFunc_enter' {P : Program} {f : FuncId} {fn : Func} {c : Code} (hf : P.funcs[f]? = some fn) (hname : (fn.name == "runtime.NumGoroutine") = false) (hb : fn.body = some c) (args : Array Value) (w : World) :
    (callFunc f args).run P w = .ok (.enter f args) w := by
  have h1 : fn.name ≠ "runtime.NumGoroutine" := by simpa using hname
  simp [callFunc, hf, h1, hb]

theorem callee_step {P : Program} (hm : P.follows .mixedOrders = true) {ng : List Nat} (hng : ng = PlanTab.ng) {bad : List Nat} (hP : funsOk ng bad 0 P.funcs.toList = true) {spec : Callee} (hs : CalleeOK P ng spec) {call : Callee} (ih : CalleeOK P ng call) :
    CalleeOK P ng (bodyC P bad spec call) := by
    intro f args W v W' h σ w f' args' hW hG hf hargs
    unfold bodyC at h
    split at h
    · -- a function
      rename_i i fs cs
      split at h
      · exact hs _ _ _ _ _ h σ w f' args' hW hG hf hargs
      rename_i hbad
      split at h
      case h_2 => cases h
      rename_i fn hfn
      split at h
      case h_2 => cases h
      rename_i c hbody
      split at h
      case h_2 => cases h
      rename_i hlen
      split at h
      case h_2 => cases h
      rename_i x R W1 hcode
      have hfok : funOk ng fn = true := funsOk_get _ _ hP i fn (by rw [Array.getElem?_toList]; exact hfn) (by simpa using hbad)
      unfold funOk at hfok
      rw [hbody] at hfok
      simp only [Bool.and_eq_true, Bool.not_eq_true'] at hfok
      obtain ⟨⟨hco, hres⟩, hname⟩ := hfok
      obtain ⟨fn', fs', cs', hfr, hfs, hcs, rfl⟩ := hf.func_inv
      cases hfr
      have hx : (∀ id, x ≠ .exit id) ∧ ∃ v0, aResults P W1 R fn.results = some v0 ∧ v0 = v ∧ W1 = W' := by
        cases x with
        | exit id => cases h
        | normal =>
          refine ⟨fun id e => X.noConfusion e, ?_⟩
          simp only at h
          split at h
          · rename_i v0 hv0; injection h with h; injection h with h1 h2; exact ⟨v0, hv0, h1, h2⟩
          · cases h
        | ret =>
          refine ⟨fun id e => X.noConfusion e, ?_⟩
          simp only at h
          split at h
          · rename_i v0 hv0; injection h with h; injection h with h1 h2; exact ⟨v0, hv0, h1, h2⟩
          · cases h
      obtain ⟨hxe, v0, hv0, rfl, rfl⟩ := hx
      have hall : LR σ (fs.toList ++ (args ++ cs.toList)) (fs' ++ args'.toArray ++ cs').toList := by
        have h1 := (hfs.append (hargs.append hcs))
        simpa [List.append_assoc] using h1
      have hlen' : (fs.toList ++ (args ++ cs.toList)).length ≤ fn.ntmps := by
        have := Nat.le_of_ble_eq_true hlen
        simpa using this
      refine ⟨run_callFunc_enter' hfn hname hbody _ w, ?_⟩
      refine callsIn_of_wp_marks hfn hbody trivial ?_
      refine aCode_walks hm hng ih (n0 := w.heap.size) (fun _ => rfl) c hco x _ _ _ _ hcode σ _ w _ hW hG (args_rel hall hlen') trivial (Nat.le_refl _) fun σ' a' w' k1 k2 k3 k4 => ?_
      have hl := leaves hres k1 hv0 a'.defers w' k2 k3 k4
      cases x with
      | exit id => exact absurd rfl (hxe id)
      | normal => exact hl
      | ret => exact hl
    · -- a round
      rename_i l fs cs
      split at h
      case h_2 => cases h
      rename_i R nt ps as bd hget
      split at h
      case h_2 => cases h
      rename_i hlen
      split at h
      case h_2 => cases h
      rename_i R1 W1 hcode1
      split at h
      case h_2 => cases h
      rename_i pd9 R9 nt9 ps9 as9 bd9 hget1
      split at h
      case h_2 => cases h
      rename_i x R2 W2 hcode2
      split at h
      case h_2 => cases h
      rename_i st8 pd8 R8 nt8 ps8 as8 bd8 hget2
      obtain ⟨fn', fs', cs', hfr, hfs, hcs, rfl⟩ := hf.func_inv
      cases hfr with
      | yield _ g hg =>
      obtain ⟨g1, g2, r, r1, r2, r3, r4, r5, r6, r7, ⟨hG1, hk1⟩, ⟨hG2, hk2⟩, hps⟩ := hW.obj _ _ _ hget hg
      have hall : LR σ (fs.toList ++ args) (fs' ++ args'.toArray).toList := by
        have h1 := hfs.append hargs
        simpa using h1
      have hsz : (fs' ++ args'.toArray).size = r.params.size := by
        have h1 := hall.1
        have h2 : fs.toList.length + args.length = ps.size := Nat.eq_of_beq_eq_true hlen
        rw [List.length_append, h2, Array.length_toList] at h1
        rw [r5]
        exact h1.symm
      refine ⟨r.fn, _, r.assign, r.body, run_yield r1 hsz, ?_⟩
      rw [r6, r7]
      refine roundIn_of_wpIn trivial ?_
      have hR0 : RegRel nt σ (zipGo ps.toList (fs.toList ++ args) R) ((r.params.zip (fs' ++ args'.toArray)).foldl (fun tmps (x : Tmp × Value) => tmps.setIfInBounds x.1 x.2) r.tmps) := by
        have := zip_rel ps.toList _ _ R r.tmps hall hps r4
        rw [r5, ← Array.foldl_toList, Array.toList_zip]
        exact this
      rw [← hng] at hk1 hk2
      rw [FE_inRound]
      refine aCode_walks hm hng ih (n0 := w.heap.size) (ro := some g.B) (fun e => by cases e) as hk1 .normal _ _ _ _ hcode1 σ _ w _ hW hG hR0 trivial (Nat.le_refl _) fun σ1 a1 w1 k1 k2 k3 k4 => ?_
      have hg1 : σ1 l = some g := k4.sub _ _ hg
      obtain ⟨_, _, rr, q1, q2, q3, q4, q5, q6, q7, q8, q9, q10⟩ := k3.obj _ _ _ hget1 hg1
      have hgse : g.s = 0 ∧ g.e = 1 := ⟨g1, g2⟩
      obtain ⟨s1, s2⟩ := k3.setObj (w := w1) (o' := .loop .busy pd9 R9 nt9 ps9 as9 bd9) (x := .loop { rr with state := .busy }) hget1 (fun _ => by simp) hg1 hgse (fun c t fr e => by rw [q1] at e; cases e)
        ⟨g1, g2, { rr with state := .busy }, by simp [(k3.dom _ _ hg1).2], rfl, q3, q4, q5, q6, q7, q8, q9, q10⟩
      refine ⟨_, run_beginRound q1 q2, ?_⟩
      refine aCode_walks hm hng ih (n0 := w.heap.size) (ro := some g.B) (fun e => by cases e) bd hk2 x _ _ _ _ hcode2 σ1 a1 (w1.putObj g.B (.loop { rr with state := .busy })) _ s1 (hG.mono k4.sub) k1 (k2.ext s2) (by have := k4.size; simpa using this) fun σ2 a2 w2 _ _ t3 t4 => ?_
      have hg2 : σ2 l = some g := t4.sub _ _ hg1
      obtain ⟨_, _, r8, u1, u2, u3, u4, u5, u6, u7, u8, u9, u10⟩ := t3.obj _ _ _ hget2 hg2
      have fin : ∀ (jump : Option Code) (st' : LoopState), st' = (if jump.isNone then .ready else .done) → v = .bool jump.isNone → W' = W2.put l (.loop st' jump R8 nt8 ps8 as8 bd8) →
          ∃ v' w', (Instr.endRound g.B jump).run P w2 = .ok v' w' ∧ ∃ v'', Ending.returned v' = .returned v'' ∧ ∃ σ', VR σ' v v'' ∧ WRel σ' W' w'.heap ∧ Ext σ W w σ' W' w' := by
        intro jump st' hst hv hW'
        subst hst
        subst hv
        subst hW'
        obtain ⟨z1, z2⟩ := t3.setObj (w := w2) (o' := .loop (if jump.isNone then .ready else .done) jump R8 nt8 ps8 as8 bd8) (x := .loop { r8 with state := if jump.isNone then .ready else .done, pending := jump }) hget2 (fun _ => by simp) hg2 hgse (fun c t fr e => by rw [u1] at e; cases e)
          ⟨g1, g2, { r8 with state := if jump.isNone then .ready else .done, pending := jump }, by simp [(t3.dom _ _ hg2).2], rfl, rfl, u4, u5, u6, u7, u8, u9, u10⟩
        exact ⟨_, _, run_endRound jump u1, _, rfl, σ2, .bool _, z1, ((k4.trans s2).trans t4).trans z2⟩
      cases x with
      | normal =>
        simp only at h
        injection h with h; injection h with h1 h2
        exact fin none .ready rfl h1.symm h2.symm
      | exit id =>
        simp only at h
        injection h with h; injection h with h1 h2
        exact fin (some (.exit id)) .done rfl h1.symm h2.symm
      | ret =>
        simp only at h
        injection h with h; injection h with h1 h2
        exact fin (some .ret) .done rfl h1.symm h2.symm
    · cases h
theorem callee_ok {P : Program} (hm : P.follows .mixedOrders = true) {ng : List Nat} (hng : ng = PlanTab.ng) {bad : List Nat} (hP : funsOk ng bad 0 P.funcs.toList = true) {spec : Callee} (hs : CalleeOK P ng spec) :
    ∀ n, CalleeOK P ng (aCallF P bad spec n)
  | 0 => fun f args W v W' h => by cases h
  | n + 1 => callee_step hm hng hP hs (callee_ok hm hng hP hs n)
end
section
variable [PlanTab]
end
section
variable [PlanTab]

theorem bndX : ∃ f : (∀ (α ρ : Type), Option α → (α → Option ρ) → Option ρ), f = fun _ _ x g => x.bind g := ⟨_, rfl⟩
noncomputable def bnd {α ρ : Type} (x : Option α) (g : α → Option ρ) : Option ρ := Classical.choose bndX α ρ x g
noncomputable def bIf {ρ : Type} (c : Bool) (a b : ρ) : ρ := Bool.rec (motive := fun _ => ρ) b a c
noncomputable def kNorm {ρ : Type} (x : X) (a b : Option ρ) : Option ρ := X.rec (motive := fun _ => Option ρ) a (fun _ => b) b x
noncomputable def kExit {ρ : Type} (id : Nat) (x : X) (a b : Option ρ) : Option ρ := X.rec (motive := fun _ => Option ρ) b (fun i => bIf (Nat.beq i id) a b) b x
noncomputable def vIf {ρ : Type} (v : Value) (a b : Option ρ) : Option ρ := match v with | .bool c => bIf c a b | _ => none

noncomputable def kRetX {ρ : Type} (x : X) (a : Option ρ) : Option ρ := X.rec (motive := fun _ => Option ρ) none (fun _ => none) a x
section
variable {P : Program} {call : Callee}
end
end
noncomputable def setF (R : Nat → Value) (t : Nat) (v : Value) : Nat → Value := fun u => Bool.rec (motive := fun _ => Value) (R u) v (Nat.beq u t)
noncomputable def blankF : Nat → Value := fun _ => undef
theorem setF_same (R : Nat → Value) (t : Nat) (v : Value) : setF R t v t = v := by unfold setF; rw [Nat.beq_refl]
theorem setF_ne (R : Nat → Value) (t u : Nat) (v : Value) (h : t ≠ u) : setF R t v u = R u := by
  unfold setF
  have : Nat.beq u t = false := by
    cases hb : Nat.beq u t with
    | true => exact absurd (Nat.eq_of_beq_eq_true hb).symm h
    | false => rfl
  rw [this]
@[reducible] noncomputable def funTab (D : Nat → Array Oper → Option (List (Nat × List Nat))) (ng : List Nat) (ex : TypeId → Bool := fun _ => false) : PlanTab where
  D := D
  ex := ex
  ng := ng
  Fr := Nat → Value
  fget := fun R t => R t
  fset := setF
  blank := blankF
  get_set := setF_same
  get_set_ne := setF_ne
  get_blank := fun _ => rfl
section
variable [PlanTab]

section
variable {P : Program}
section
variable {c : Nat → Callee} {o : Callee}
end
end
end
section
variable [PlanTab]

section
variable (P : Program) (bad : List Nat) (spec : Callee)
variable {P bad spec}
end
end
section
variable [PlanTab]

section
variable {P : Program} {W : AW}
end

section
variable {P : Program} {W : AW}
end
end
section
variable [PlanTab]
end
section
variable [PlanTab]
@[congr] theorem bnd_congr {α ρ : Type} {x y : Option α} {g : α → Option ρ} (h : x = y) : bnd x g = bnd y g := by rw [h]
@[congr] theorem bIf_congr {ρ : Type} {c d : Bool} {a b : ρ} (h : c = d) : bIf c a b = bIf d a b := by rw [h]
@[congr] theorem vIf_congr {ρ : Type} {c d : Value} {a b : Option ρ} (h : c = d) : vIf c a b = vIf d a b := by rw [h]
@[congr] theorem kExit_congr {ρ : Type} {i : Nat} {x y : X} {a b : Option ρ} (h : x = y) : kExit i x a b = kExit i y a b := by rw [h]
@[congr] theorem kNorm_congr {ρ : Type} {x y : X} {a b : Option ρ} (h : x = y) : kNorm x a b = kNorm y a b := by rw [h]
@[congr] theorem kRetX_congr {ρ : Type} {x y : X} {a : Option ρ} (h : x = y) : kRetX x a = kRetX y a := by rw [h]


section
variable {P : Program} {W : AW}
end
end
section
variable [PlanTab]
section
variable {P : Program} {W : AW}
end
end

section
variable [PlanTab]
section
variable {P : Program} {W : AW} {α : Type}
end
end
section
variable [PlanTab]
section
variable {P : Program} {bad : List Nat} {spec : Callee}
end
end
end Go.Eng
namespace Go.Eng
open Go Go.RowKit
section
variable [PlanTab]

def okTrue : Option (Value × AW) → Bool
  | some (v, _) => match v with
    | .bool b => b
    | _ => false
  | none => false
theorem okTrue_eq {r : Option (Value × AW)} (h : okTrue r = true) : ∃ W, r = some (.bool true, W) := by
  unfold okTrue at h
  split at h
  · rename_i v W
    split at h
    · subst h; exact ⟨W, rfl⟩
    · cases h
  · cases h

theorem noSpec {P : Program} {ng : List Nat} : CalleeOK P ng (fun _ _ _ => none) := fun f args W v W' h => by cases h

def GrownB (W w' : World) : Prop := W.keptBut w' (fun _ => False) ∧ (∀ a : Addr, a.block < W.heap.size → w'.frozen? a = W.frozen? a) ∧ W.heap.size ≤ w'.heap.size
theorem GrownB.frame {W w' : World} (h : GrownB W w') (may : MemPlace → Prop) : W.keptBut w' may := World.keptBut_mono (fun _ f => f.elim) h.1
theorem plains_rel {σ : Inj} : ∀ {args : List Value}, args.all plain = true → LR σ args args := by
  intro args h
  exact LR.refl_of (fun v => plain_refl) h
end
section
variable [PlanTab]

def σG (gs : List (Nat × List Value)) : Inj := fun b => (gs.find? (fun x => x.1 == b)).map fun x => ⟨x.1, 0, x.2.length⟩
noncomputable def treeG (gs : List (Nat × List Value)) : T AObj := gs.foldr (fun x t => T.set (some (.ro x.2)) (path x.1) t) .lf
noncomputable def WG (gs : List (Nat × List Value)) (N : Nat) : AW := ⟨treeG gs, N⟩
theorem treeG_get (b : Nat) : ∀ gs : List (Nat × List Value), T.get (path b) (treeG gs) = (gs.find? (fun x => x.1 == b)).map fun x => AObj.ro x.2
  | [] => T.get_lf _
  | x :: gs => by
    show T.get (path b) (T.set (some (.ro x.2)) (path x.1) (treeG gs)) = _
    by_cases h : x.1 = b
    · subst h
      rw [T.get_set]
      simp
    · rw [T.get_set_ne _ _ _ _ (path_ne h), treeG_get b gs]
      have hb : (x.1 == b) = false := by simpa using h
      rw [List.find?_cons, hb]
def LaidG (gs : List (Nat × List Value)) (h : Array Obj) : Prop :=
  ∀ x ∈ gs, ∃ c t fr, h[x.1]? = some (.cells c t fr) ∧ ∀ (i : Nat) (v : Value), x.2[i]? = some v → c[i]? = some v ∧ scalar v = true
theorem σG_some {gs : List (Nat × List Value)} {b : Nat} {g : Seg} (h : σG gs b = some g) : ∃ x ∈ gs, x.1 = b ∧ g = ⟨b, 0, x.2.length⟩ ∧ T.get (path b) (treeG gs) = some (AObj.ro x.2) := by
  unfold σG at h
  cases hf : gs.find? (fun x => x.1 == b) with
  | none => rw [hf] at h; cases h
  | some x =>
    rw [hf] at h
    have hb : x.1 = b := by simpa using List.find?_some hf
    refine ⟨x, List.mem_of_find?_eq_some hf, hb, ?_, ?_⟩
    · cases h; subst hb; rfl
    · show T.get (path b) (treeG gs) = _
      rw [treeG_get, hf]; rfl
theorem rel_G {gs : List (Nat × List Value)} {N : Nat} (hN : gs.all (fun x => Nat.blt x.1 N) = true) {h : Array Obj} (hl : LaidG gs h) : WRel (σG gs) (WG gs N) h where
  free b hb := by
    show T.get (path b) (treeG gs) = none
    rw [treeG_get]
    cases hf : gs.find? (fun x => x.1 == b) with
    | none => rfl
    | some x =>
      have hxb : x.1 = b := by simpa using List.find?_some hf
      have := List.all_eq_true.1 hN x (List.mem_of_find?_eq_some hf)
      have : x.1 < N := by simpa [Nat.blt_eq] using this
      exact absurd hb (by show ¬ N ≤ b; omega)
  dom b g hb := by
    obtain ⟨x, hx, rfl, rfl, _⟩ := σG_some hb
    obtain ⟨c, t, fr, h1, _⟩ := hl x hx
    have := List.all_eq_true.1 hN x hx
    have h3 : x.1 < N := by simpa [Nat.blt_eq] using this
    exact ⟨h3, (Array.getElem?_eq_some_iff.1 h1).1⟩
  obj b o g hb hg := by
    obtain ⟨x, hx, rfl, rfl, ht⟩ := σG_some hg
    obtain ⟨c, t, fr, h1, h2⟩ := hl x hx
    obtain rfl : o = .ro x.2 := Option.some.inj (hb.symm.trans ht)
    exact ⟨c, t, fr, h1, by simp, fun i v hv => ⟨v, by simpa using (h2 i v hv).1, scalar_refl (h2 i v hv).2⟩⟩
  disj b1 b2 o1 o2 g1 g2 hne _ _ h1 h2 _ := by
    obtain ⟨x1, _, rfl, rfl, _⟩ := σG_some h1
    obtain ⟨x2, _, rfl, rfl, _⟩ := σG_some h2
    exact .inl hne
theorem glob_G {gs : List (Nat × List Value)} {ng : List Nat} (h : ng.all (fun g => (gs.find? (fun x => x.1 == g)).isSome) = true) : Glob (σG gs) ng := by
  intro g hg
  have := List.all_eq_true.1 h g hg
  cases hf : gs.find? (fun x => x.1 == g) with
  | none => rw [hf] at this; cases this
  | some x =>
    have hxb : x.1 = g := by simpa using List.find?_some hf
    exact ⟨x.2.length, by unfold σG; rw [hf]; subst hxb; rfl⟩
theorem mut_G {gs : List (Nat × List Value)} {N : Nat} {B : Nat} : ¬ Mut (σG gs) (WG gs N) B := by
  rintro ⟨b, g, hg, _, hro⟩
  obtain ⟨x, _, _, _, ht⟩ := σG_some hg
  exact hro x.2 ht
end
end Go.Eng
namespace Go.Eng
open Go Go.RowKit Go.ChangeShapes
def flatFs (g : TypeId → Option (List IntKind)) (P : Program) : Nat → List Field → Option (List IntKind)
  | _, [] => some []
  | off, f :: fs => if f.offset = off then (g f.type).bind fun ks => if ks.length = P.cellsOf f.type then (flatFs g P (off + ks.length) fs).map fun r => ks ++ r else none else none
def flatK (P : Program) : Nat → TypeId → Option (List IntKind)
  | 0, _ => none
  | n + 1, t => match P.underlying t with
    | some (.int k) => some [k]
    | some (.struct fs) => (flatFs (flatK P n) P 0 fs.toList).bind fun ks => if ks.length = P.cellsOf t then some ks else none
    | _ => none
def intCells (ks : List IntKind) (ns : List Int) : List Value := List.zipWith Value.int ks ns
theorem intCells_append {ks ks' : List IntKind} {ns ns' : List Int} (h : ns.length = ks.length) : intCells (ks ++ ks') (ns ++ ns') = intCells ks ns ++ intCells ks' ns' := by
  unfold intCells
  exact List.zipWith_append h.symm

section
variable {H : Type} {enc : TypeId × Value → H} {P : Program} {w : World} {base : Nat} {spare : Nat → Bool} {held : Bool}

def Flat (enc : TypeId × Value → H) (P : Program) (held : Bool) (m : Nat) (t : TypeId) (ks : List IntKind) (cs : List Value) (x : DataW H × List MemPlace) : Prop :=
  (∃ ns : List Int, ns.length = ks.length ∧ cs = intCells ks ns) ∧ x.2 = [] ∧ ∀ (w' : World) (base' : Nat) (spare' : Nat → Bool), DataW.trod enc P w' base' spare' held m t cs = some x

theorem flat_fields {m : Nat} {g : TypeId → Option (List IntKind)} (ih : ∀ {t ks cs x}, g t = some ks → DataW.trod enc P w base spare held m t cs = some x → Flat enc P held m t ks cs x) :
    ∀ {fs : List Field} {off : Nat} {ks : List IntKind} {cs : List Value} {xs : List (DataW H × List MemPlace)}, flatFs g P off fs = some ks →
      (fs.mapM fun f => DataW.trod enc P w base spare held m f.type ((cs.drop f.offset).take (P.cellsOf f.type))) = some xs →
      (∃ ns : List Int, ns.length = ks.length ∧ (cs.drop off).take ks.length = intCells ks ns) ∧ xs.flatMap (·.2) = [] ∧
        ∀ (w' : World) (base' : Nat) (spare' : Nat → Bool), (fs.mapM fun f => DataW.trod enc P w' base' spare' held m f.type ((cs.drop f.offset).take (P.cellsOf f.type))) = some xs := by
  intro fs
  induction fs with
  | nil =>
    intro off ks cs xs h hx
    simp only [flatFs, Option.some.injEq] at h
    subst h
    simp only [List.mapM_nil, Option.pure_def, Option.some.injEq] at hx
    subst hx
    exact ⟨⟨[], rfl, by simp [intCells]⟩, rfl, fun _ _ _ => rfl⟩
  | cons f fs ihf =>
    intro off ks cs xs h hx
    simp only [flatFs] at h
    split at h
    case isFalse => cases h
    rename_i hoff
    cases hg : g f.type with
    | none => rw [hg] at h; simp at h
    | some k1 =>
      rw [hg] at h
      simp only [Option.bind_some] at h
      split at h
      case isFalse => cases h
      rename_i hl
      cases hr : flatFs g P (off + k1.length) fs with
      | none => rw [hr] at h; simp at h
      | some k2 =>
        rw [hr] at h
        simp only [Option.map_some, Option.some.injEq] at h
        subst h
        simp only [List.mapM_cons, Option.bind_eq_bind, Option.pure_def] at hx
        cases h1 : DataW.trod enc P w base spare held m f.type ((cs.drop f.offset).take (P.cellsOf f.type)) with
        | none => rw [h1] at hx; simp at hx
        | some x1 =>
          rw [h1] at hx
          simp only [Option.bind_some] at hx
          cases h2 : fs.mapM fun f => DataW.trod enc P w base spare held m f.type ((cs.drop f.offset).take (P.cellsOf f.type)) with
          | none => rw [h2] at hx; simp at hx
          | some xs2 =>
            rw [h2] at hx
            simp only [Option.bind_some, Option.some.injEq] at hx
            subst hx
            obtain ⟨⟨n1, e1, c1⟩, p1, r1⟩ := ih hg h1
            obtain ⟨⟨n2, e2, c2⟩, p2, r2⟩ := ihf hr h2
            refine ⟨⟨n1 ++ n2, by simp [e1, e2], ?_⟩, by simp [p1, p2], fun w' base' spare' => ?_⟩
            · rw [intCells_append e1, ← c1, ← c2, hoff, List.length_append, ← hl, List.take_add, List.drop_drop]
            · simp only [List.mapM_cons, Option.bind_eq_bind, Option.pure_def, r1 w' base' spare', r2 w' base' spare', Option.bind_some]

theorem flat_trod : ∀ {n m : Nat} {t : TypeId} {ks : List IntKind} {cs : List Value} {x : DataW H × List MemPlace}, flatK P n t = some ks → DataW.trod enc P w base spare held m t cs = some x → Flat enc P held m t ks cs x := by
  intro n
  induction n with
  | zero => intro m t ks cs x h; cases h
  | succ n ih =>
    intro m t ks cs x h hx
    cases m with
    | zero => simp [DataW.trod] at hx
    | succ m =>
      unfold flatK at h
      split at h
      · rename_i k ht
        simp only [Option.some.injEq] at h
        subst h
        obtain ⟨z, rfl, rfl, hw⟩ := DataW.trod_int ht hx
        exact ⟨⟨[z], rfl, rfl⟩, rfl, fun _ _ _ => by simp [DataW.trod, ht, hw]⟩
      · rename_i fs ht
        cases hf : flatFs (flatK P n) P 0 fs.toList with
        | none => rw [hf] at h; simp at h
        | some ks' =>
          rw [hf] at h
          simp only [Option.bind_some] at h
          split at h
          case isFalse => cases h
          rename_i hl
          simp only [Option.some.injEq] at h
          subst h
          unfold DataW.trod at hx
          simp only [ht] at hx
          split at hx
          case isFalse => cases hx
          rename_i hlen
          cases hm : fs.toList.mapM fun f => DataW.trod enc P w base spare held m f.type ((cs.drop f.offset).take (P.cellsOf f.type)) with
          | none => rw [hm] at hx; simp at hx
          | some xs =>
            rw [hm] at hx
            simp only [Option.map_some, Option.some.injEq] at hx
            subst hx
            obtain ⟨⟨ns, e1, c1⟩, p1, r1⟩ := flat_fields (g := flatK P n) (m := m) (fun a b => ih a b) hf hm
            refine ⟨⟨ns, e1, ?_⟩, p1, fun w' base' spare' => ?_⟩
            · rw [← c1, List.drop_zero, List.take_of_length_le (by omega)]
            · unfold DataW.trod
              simp only [ht, if_pos hlen, r1 w' base' spare', Option.map_some]
      · cases h

theorem open_flat {r : Reach} {b0 : Nat} {t : TypeId} {n : Nat} {fs : Array Field} {ks : List IntKind} {v : Value} {d : DataW H} {p : List MemPlace} (hs : P.underlying t = some (.struct fs)) (hk : flatK P n t = some ks)
    (hv : Value.okWide P w r b0 t v) (h : DataW.Trod enc P w base spare held t v d p) :
    ∃ ns : List Int, ns.length = ks.length ∧ v = .agg (intCells ks ns).toArray ∧ p = [] ∧ ∀ (w' : World) (base' : Nat) (spare' : Nat → Bool), DataW.Trod enc P w' base' spare' held t v d [] := by
  unfold Value.okWide at hv
  rw [hs] at hv
  obtain ⟨cs, rfl, hsz, _⟩ := hv
  obtain ⟨m, hm⟩ := h
  obtain ⟨⟨ns, e, c⟩, p0, r0⟩ := flat_trod hk hm
  simp only at p0
  subst p0
  refine ⟨ns, e, ?_, rfl, fun w' b' s' => ⟨m, r0 w' b' s'⟩⟩
  have : cs.toList = intCells ks ns := by simpa [Value.cells] using c
  rw [← this]
end
end Go.Eng
namespace Go.Eng
open Go Go.RowKit
open Go.Maps (Keyed)
section
variable [PlanTab]

section
variable {H : Type}
def ent (j : Nat) (g b : Bool) : List (Lit × DataW H) := match g with | true => [(.int .i64 ((2 ^ j : Nat) : Int), .lit (.bool b))] | false => []
def Dof (g0 g1 g2 g3 g4 g5 g6 g7 b0 b1 b2 b3 b4 b5 b6 b7 : Bool) : DataW H :=
  .map (ent 0 g0 b0 ++ (ent 1 g1 b1 ++ (ent 2 g2 b2 ++ (ent 3 g3 b3 ++ (ent 4 g4 b4 ++ (ent 5 g5 b5 ++ (ent 6 g6 b6 ++ ent 7 g7 b7)))))))
variable (g0 g1 g2 g3 g4 g5 g6 g7 b0 b1 b2 b3 b4 b5 b6 b7 : Bool)
theorem put0 : (Dof (H := H) g0 g1 g2 g3 g4 g5 g6 g7 b0 b1 b2 b3 b4 b5 b6 b7).put (.int .i64 1) (.lit (.bool b0)) = Dof true g1 g2 g3 g4 g5 g6 g7 b0 b1 b2 b3 b4 b5 b6 b7 := by
  cases g0 <;> cases g1 <;> cases g2 <;> cases g3 <;> cases g4 <;> cases g5 <;> cases g6 <;> cases g7 <;> rfl
theorem put1 : (Dof (H := H) g0 g1 g2 g3 g4 g5 g6 g7 b0 b1 b2 b3 b4 b5 b6 b7).put (.int .i64 2) (.lit (.bool b1)) = Dof g0 true g2 g3 g4 g5 g6 g7 b0 b1 b2 b3 b4 b5 b6 b7 := by
  cases g0 <;> cases g1 <;> cases g2 <;> cases g3 <;> cases g4 <;> cases g5 <;> cases g6 <;> cases g7 <;> rfl
theorem put2 : (Dof (H := H) g0 g1 g2 g3 g4 g5 g6 g7 b0 b1 b2 b3 b4 b5 b6 b7).put (.int .i64 4) (.lit (.bool b2)) = Dof g0 g1 true g3 g4 g5 g6 g7 b0 b1 b2 b3 b4 b5 b6 b7 := by
  cases g0 <;> cases g1 <;> cases g2 <;> cases g3 <;> cases g4 <;> cases g5 <;> cases g6 <;> cases g7 <;> rfl
theorem put3 : (Dof (H := H) g0 g1 g2 g3 g4 g5 g6 g7 b0 b1 b2 b3 b4 b5 b6 b7).put (.int .i64 8) (.lit (.bool b3)) = Dof g0 g1 g2 true g4 g5 g6 g7 b0 b1 b2 b3 b4 b5 b6 b7 := by
  cases g0 <;> cases g1 <;> cases g2 <;> cases g3 <;> cases g4 <;> cases g5 <;> cases g6 <;> cases g7 <;> rfl
theorem put4 : (Dof (H := H) g0 g1 g2 g3 g4 g5 g6 g7 b0 b1 b2 b3 b4 b5 b6 b7).put (.int .i64 16) (.lit (.bool b4)) = Dof g0 g1 g2 g3 true g5 g6 g7 b0 b1 b2 b3 b4 b5 b6 b7 := by
  cases g0 <;> cases g1 <;> cases g2 <;> cases g3 <;> cases g4 <;> cases g5 <;> cases g6 <;> cases g7 <;> rfl
theorem put5 : (Dof (H := H) g0 g1 g2 g3 g4 g5 g6 g7 b0 b1 b2 b3 b4 b5 b6 b7).put (.int .i64 32) (.lit (.bool b5)) = Dof g0 g1 g2 g3 g4 true g6 g7 b0 b1 b2 b3 b4 b5 b6 b7 := by
  cases g0 <;> cases g1 <;> cases g2 <;> cases g3 <;> cases g4 <;> cases g5 <;> cases g6 <;> cases g7 <;> rfl
theorem put6 : (Dof (H := H) g0 g1 g2 g3 g4 g5 g6 g7 b0 b1 b2 b3 b4 b5 b6 b7).put (.int .i64 64) (.lit (.bool b6)) = Dof g0 g1 g2 g3 g4 g5 true g7 b0 b1 b2 b3 b4 b5 b6 b7 := by
  cases g0 <;> cases g1 <;> cases g2 <;> cases g3 <;> cases g4 <;> cases g5 <;> cases g6 <;> cases g7 <;> rfl
theorem put7 : (Dof (H := H) g0 g1 g2 g3 g4 g5 g6 g7 b0 b1 b2 b3 b4 b5 b6 b7).put (.int .i64 128) (.lit (.bool b7)) = Dof g0 g1 g2 g3 g4 g5 g6 true b0 b1 b2 b3 b4 b5 b6 b7 := by
  cases g0 <;> cases g1 <;> cases g2 <;> cases g3 <;> cases g4 <;> cases g5 <;> cases g6 <;> cases g7 <;> rfl
end

theorem own_update {H : Type} {P : Program} {k e t : TypeId} {w : World} {R : Value → Option (DataW H × List MemPlace)} {b n : Nat} {D : DataW H} (h : w.ownsMap P k R b n D) (K : Keyed P k) (ht : P.underlying t = some (.map k e)) (hn : n < maxLen) {key val : Value} {kl : Lit} {d : DataW H} {ps : List MemPlace}
    (hkey : keyOf P k key = some kl) (hv : R val = some (d, ps)) : ∃ w', (Instr.mapUpdate t (.map (some b)) key val).run P w = .ok () w' ∧ w'.ownsMap P k R b (n + 1) (D.put kl d) ∧ w.grownBy w' (some b) ∧ w'.heap.size = w.heap.size := by
  obtain ⟨w', h1, h2, h3⟩ := h.update K ht hn hkey hv
  obtain ⟨es, clock, hb, F, hs, rfl⟩ := h
  obtain ⟨es', clock', hrun, _⟩ := Maps.fit_store (R' := R) K ht hb F (Nat.lt_of_le_of_lt hs hn) (fun _ _ _ _ hz => hz) hkey hv
  refine ⟨w', h1, h2, h3, ?_⟩
  rw [hrun] at h1
  injection h1 with _ h1
  rw [← h1]
  simp [Go.ChangeMaps.setBlock]

theorem own_cold {H : Type} {P : Program} {k : TypeId} {w : World} {R : Value → Option (DataW H × List MemPlace)} {b n : Nat} {D : DataW H} (h : w.ownsMap P k R b n D) {a : Addr} (ha : a.block = b) : w.frozen? a = false := by
  obtain ⟨es, clock, hb, _⟩ := h
  unfold World.frozen?
  rw [ha, hb]
theorem none_cold {w : World} {a : Addr} (h : w.heap.size ≤ a.block) : w.frozen? a = false := by
  unfold World.frozen?
  rw [Array.getElem?_eq_none h]

theorem ext_other {σ0 σ : Inj} {W0 W : AW} {w0 w w' : World} (h : Ext σ0 W0 w0 σ W w) {m : Nat} (hm : w0.heap.size ≤ m) (hg : w.grownBy w' (some m)) (hfr : ∀ a, w'.frozen? a = w.frozen? a) : Ext σ0 W0 w0 σ W w' :=
  ⟨h.sub, h.ro, Nat.le_trans h.size hg.size, hg.os.trans h.os, hg.tape.trans h.tape, hg.output.trans h.output,
   fun B hB hn => (hg.block B (Nat.lt_of_lt_of_le hB h.size) (fun e => by injection e with e; omega)).trans (h.keep B hB hn), h.ghost, h.grow⟩
theorem rel_other {σ : Inj} {W : AW} {w w' : World} (h : WRel σ W w.heap) {m : Nat} (hm : ∀ b g, σ b = some g → g.B ≠ m) (hg : w.grownBy w' (some m)) : WRel σ W w'.heap where
  free := h.free
  dom b g hb := ⟨(h.dom b g hb).1, Nat.lt_of_lt_of_le (h.dom b g hb).2 hg.size⟩
  obj b o g hb hσ := (h.obj b o g hb hσ).same (hg.block _ (h.dom b g hσ).2 (fun e => by injection e with e; exact hm b g hσ e))
  disj := h.disj

def edgeTo (e : Nat) (o : Oper) : Bool := o.after.any fun x => Region.binds .any x && Nat.beq x.on e
theorem edgeTo_listed {e : Nat} {o : Oper} {listed : Array Bool} (h : edgeTo e o = true) (hr : ∀ x ∈ o.after, Region.binds .any x = true → listed.getD x.on false = true) : listed.getD e false = true := by
  unfold edgeTo at h
  rw [Array.any_eq_true'] at h
  obtain ⟨x, hx, hb⟩ := h
  rw [Bool.and_eq_true, Nat.beq_eq] at hb
  obtain ⟨hb, rfl⟩ := hb
  exact hr x hx hb
def argOK (ops : Array Oper) (o : Oper) (x : Operand) : Bool := match x with
  | .const v => plain v
  | .tmp t => Nat.beq t 1 || o.after.any fun e => Region.binds .any e && (match ops[e.on]? with | some o' => (match o'.dst with | some d => Nat.beq d t && (Nat.blt 14 d && Nat.blt d 40) | none => false) | none => false)
  | _ => false
def pureOK (ops : Array Oper) (o : Oper) : Bool := o.guard.isNone && (match o.dst with | some d => Nat.blt 14 d && Nat.blt d 40 | none => false) && o.op.operands.toList.all (argOK ops o)
def insOK (ops : Array Oper) (TM key s k : Nat) (o : Oper) : Bool := o.guard.isNone && o.dst.isNone && edgeTo 0 o && edgeTo k o &&
  (match o.op with | .insert t (.tmp m) (.const (.int .i64 (.ofNat n))) (.tmp v) => Nat.beq t TM && Nat.beq m 14 && Nat.beq n key && Nat.beq v s && Nat.blt 14 s && Nat.blt s 40 | _ => false) &&
  (match ops[k]? with | some o' => (match o'.dst with | some d => Nat.beq d s | none => false) | none => false)
def shapeAt (ops : Array Oper) (TM : Nat) (i : Nat) (o : Oper) : Bool := match i with
  | 0 => o.guard.isNone && (match o.op, o.dst with | .makeMap t none, some d => Nat.beq t TM && Nat.beq d 14 | _, _ => false)
  | 4 => insOK ops TM 1 17 3 o
  | 8 => insOK ops TM 2 20 7 o
  | 12 => insOK ops TM 4 23 11 o
  | 16 => insOK ops TM 8 26 15 o
  | 20 => insOK ops TM 16 29 19 o
  | 24 => insOK ops TM 32 32 23 o
  | 29 => insOK ops TM 64 36 28 o
  | 33 => insOK ops TM 128 39 32 o
  | 34 => o.guard.isNone && (match o.op, o.dst with | .move (.tmp x), some d => Nat.beq x 14 && Nat.beq d 40 | _, _ => false) && (List.range 34).all fun e => edgeTo e o
  | 35 => o.guard.isNone && (match o.op, o.dst with | .range t (.tmp x), some d => Nat.beq t TM && Nat.beq x 40 && Nat.beq d 41 | _, _ => false) && edgeTo 34 o
  | _ => pureOK ops o
def isPure (i : Nat) : Bool := match i with | 0 | 4 | 8 | 12 | 16 | 20 | 24 | 29 | 33 | 34 | 35 => false | _ => true
def backOK (i : Nat) (o : Oper) : Bool := o.after.all fun e => Nat.blt e.on i
def shapeOK (ops : Array Oper) (TM : Nat) : Bool := Nat.beq ops.size 36 && (List.range 36).all fun i => match ops[i]? with | some o => shapeAt ops TM i o && backOK i o | none => false

theorem wpOp_value {P : Program} {ops : Array Oper} {Q : Exit → Act → World → Prop} {i : Nat} {K : Act → World → Prop} {a : Act} {w w' : World} {o : Oper} {v : Value} (ho : ops[i]? = some o) (hg : o.guard = none)
    (h : (execOp a.eval o).run P w = .ok (.value v) w') (hk : K (a.put o.dst v) w') : wpOp P ops Q i K a w := by
  unfold wpOp
  rw [ho]
  have : Region.wanted o (yielded ops a.tmps) = true := by unfold Region.wanted; rw [hg]
  simp only [this, if_true]
  refine .inl ?_
  unfold Oper.wp
  rw [h]
  exact hk
theorem wpOp_skip {P : Program} {ops : Array Oper} {Q : Exit → Act → World → Prop} {i : Nat} {K : Act → World → Prop} {a : Act} {w w' : World} {o : Oper} (ho : ops[i]? = some o) (hg : o.guard = none)
    (h : (execOp a.eval o).run P w = .ok .skip w') (hk : K (a.put o.dst undef) w') : wpOp P ops Q i K a w := by
  unfold wpOp
  rw [ho]
  have : Region.wanted o (yielded ops a.tmps) = true := by unfold Region.wanted; rw [hg]
  simp only [this, if_true]
  refine .inl ?_
  unfold Oper.wp
  rw [h]
  exact hk

section
variable {P : Program} {ops : Array Oper} {nt TM TK TE : Nat} {σ0 : Inj} {W : AW} {R : PlanTab.Fr} {w0 : World} {tm0 : Array Value} {ds : List Deferred} {b0 b1 b2 b3 b4 b5 b6 b7 : Bool} {l : Array Bool} {a : Act} {w : World}

def Dl (l : Array Bool) (b0 b1 b2 b3 b4 b5 b6 b7 : Bool) : DataW Unit :=
  Dof (l.getD 4 false) (l.getD 8 false) (l.getD 12 false) (l.getD 16 false) (l.getD 20 false) (l.getD 24 false) (l.getD 29 false) (l.getD 33 false) b0 b1 b2 b3 b4 b5 b6 b7

structure RB (ops : Array Oper) (nt : Nat) (tm0 : Array Value) (ds : List Deferred) (l : Array Bool) (a : Act) : Prop where
  lsz : l.size = 36
  tsz : a.tmps.size = nt
  dfs : a.defers = ds
  down : ∀ i, l.getD i false = true → ∀ o, ops[i]? = some o → ∀ e ∈ o.after, Region.binds .any e = true → l.getD e.on false = true
  old : ∀ t, (t < 14 ∨ 41 < t) → a.tmps[t]? = tm0[t]?
def RM (P : Program) (TK TE : Nat) (w0 : World) (b0 b1 b2 b3 b4 b5 b6 b7 : Bool) (l : Array Bool) (a : Act) (w : World) (σ : Inj) (m n : Nat) : Prop :=
  (∀ b g, σ b = some g → g.B ≠ m) ∧ w0.heap.size ≤ m ∧ a.tmps.getD 14 undef = .map (some m) ∧ n ≤ (List.range 36).countP (fun i => l.getD i false) ∧ (l.getD 34 false = true → a.tmps.getD 40 undef = .map (some m)) ∧
      (l.getD 35 false = false → w.ownsMap P TK (plainElem P TE) m n (Dl l b0 b1 b2 b3 b4 b5 b6 b7)) ∧
      (l.getD 35 false = true → ∃ r, a.tmps.getD 41 undef = .pointer (some ⟨r, 0, none⟩) ∧ (∀ b g, σ b = some g → g.B ≠ r) ∧ w0.heap.size ≤ r ∧
        w.ranges P TK (plainElem P TE) m r n (Dl l b0 b1 b2 b3 b4 b5 b6 b7) (Maps.has (Dl l b0 b1 b2 b3 b4 b5 b6 b7)) (Maps.size (Dl l b0 b1 b2 b3 b4 b5 b6 b7)))
structure RI (P : Program) (ops : Array Oper) (nt TK TE : Nat) (σ0 : Inj) (W : AW) (R : PlanTab.Fr) (w0 : World) (tm0 : Array Value) (ds : List Deferred) (b0 b1 b2 b3 b4 b5 b6 b7 : Bool)
    (l : Array Bool) (a : Act) (w : World) : Prop where
  base : RB ops nt tm0 ds l a
  world : ∃ σ, WRel σ W w.heap ∧ Ext σ0 W w0 σ W w ∧ (∀ i o d, ops[i]? = some o → isPure i = true → l.getD i false = true → o.dst = some d → VR σ (rget R d) (a.tmps.getD d undef)) ∧
    (l.getD 0 false = true → ∃ m n, RM P TK TE w0 b0 b1 b2 b3 b4 b5 b6 b7 l a w σ m n)
structure RF (P : Program) (ops : Array Oper) (nt TM TK TE : Nat) (σ0 : Inj) (W : AW) (R : PlanTab.Fr) (tm0 : Array Value) (b0 b1 b2 b3 b4 b5 b6 b7 : Bool) : Prop where
  size : ops.size = 36
  shape : ∀ i o, ops[i]? = some o → shapeAt ops TM i o = true
  back : ∀ i o, ops[i]? = some o → backOK i o = true
  does : ∀ i o d, ops[i]? = some o → isPure i = true → o.dst = some d → ∀ (σ : Inj) (w : World) (ρ : Operand → Value), WRel σ W w.heap → (∀ x ∈ o.op.operands, VR σ (aEval R x) (ρ x)) → Does P σ W w (execOp ρ o) (rget R d) W
  v0 : rget R 17 = .bool b0
  v1 : rget R 20 = .bool b1
  v2 : rget R 23 = .bool b2
  v3 : rget R 26 = .bool b3
  v4 : rget R 29 = .bool b4
  v5 : rget R 32 = .bool b5
  v6 : rget R 36 = .bool b6
  v7 : rget R 39 = .bool b7
  ptr : VR σ0 (rget R 1) (tm0.getD 1 undef)
  nt : 42 ≤ nt
  TM : P.underlying TM = some (.map TK TE)
  TK : P.underlying TK = some (.int .i64)
  TE : P.underlying TE = some .bool

theorem count_set {l : Array Bool} {i : Nat} (hi : i < 36) (hs : l.size = 36) (h : l.getD i false = false) : (List.range 36).countP (fun k => l.getD k false) + 1 ≤ (List.range 36).countP (fun k => (l.setIfInBounds i true).getD k false) := by
  refine countP_lt (x := i) (by simpa using hi) (set_same (by omega) false) h fun y hy => ?_
  by_cases e : i = y
  · subst e; exact set_same (by omega) false
  · rw [set_ne e]; exact hy
theorem count_le {l : Array Bool} : (List.range 36).countP (fun k => l.getD k false) ≤ 36 := by
  have := List.countP_le_length (p := fun k => l.getD k false) (l := List.range 36)
  simpa using this
theorem same_false {l : Array Bool} {i : Nat} (h : l.getD i true = false) (hi : i < l.size) : l.getD i false = false := by
  simp only [Array.getD_eq_getD_getElem?] at h ⊢
  rw [Array.getElem?_eq_getElem hi] at h ⊢
  exact h

theorem dst_in (hF : RF P ops nt TM TK TE σ0 W R tm0 b0 b1 b2 b3 b4 b5 b6 b7) {i : Nat} {o : Oper} (ho : ops[i]? = some o) : o.guard = none ∧ (isPure i = true → (∃ d, o.dst = some d ∧ 14 < d ∧ d < 40) ∧ o.op.operands.toList.all (argOK ops o) = true) ∧
    (∀ d, o.dst = some d → 14 ≤ d ∧ d ≤ 41) ∧ (∀ d, o.dst = some d → 14 < d → d < 40 → isPure i = true) := by
  have hs := hF.shape i o ho
  by_cases hp : isPure i = true
  · have hq : pureOK ops o = true := by
      unfold shapeAt at hs
      unfold isPure at hp
      split at hs <;> first | exact hs | (simp at hp; done)
    unfold pureOK at hq
    simp only [Bool.and_eq_true, Option.isNone_iff_eq_none] at hq
    obtain ⟨⟨h1, h2⟩, h3⟩ := hq
    cases hd : o.dst with
    | none => rw [hd] at h2; cases h2
    | some d =>
      rw [hd] at h2
      simp only [Bool.and_eq_true, Nat.blt_eq] at h2
      refine ⟨h1, fun _ => ⟨⟨d, rfl, h2⟩, h3⟩, fun d' e => ?_, fun _ _ _ _ => hp⟩
      injection e with e; subst e
      exact ⟨Nat.le_of_lt h2.1, Nat.le_of_lt (Nat.lt_trans h2.2 (by decide))⟩
  · refine ⟨?_, fun h => absurd h hp, ?_, ?_⟩
    · unfold shapeAt at hs
      unfold isPure at hp
      split at hs <;> simp_all [insOK]
    · intro d hd
      unfold shapeAt at hs
      unfold isPure at hp
      split at hs <;> simp_all [insOK]
      all_goals (first | (split at hs <;> simp_all) | skip)
      all_goals omega
    · intro d hd h1 h2
      exfalso
      unfold shapeAt at hs
      unfold isPure at hp
      split at hs <;> simp_all [insOK]
      all_goals (first | (split at hs <;> simp_all) | skip)
      all_goals omega

theorem RB.step (hB : RB ops nt tm0 ds l a) (hF : RF P ops nt TM TK TE σ0 W R tm0 b0 b1 b2 b3 b4 b5 b6 b7) {i : Nat} {o : Oper} (ho : ops[i]? = some o)
    (hr : ∀ e ∈ o.after, Region.binds .any e = true → l.getD e.on false = true) (v : Value) : RB ops nt tm0 ds (l.setIfInBounds i true) (a.put o.dst v) := by
  obtain ⟨_, _, hd, _⟩ := dst_in hF ho
  have hi : i < l.size := by rw [hB.lsz, ← hF.size]; exact (Array.getElem?_eq_some_iff.1 ho).1
  have hmono : ∀ k, l.getD k false = true → (l.setIfInBounds i true).getD k false = true := fun k hk => by
    by_cases e : i = k
    · subst e; exact set_same hi _
    · rw [set_ne e]; exact hk
  refine ⟨by simp [hB.lsz], by rw [put_size]; exact hB.tsz, by rw [put_defers]; exact hB.dfs, ?_, ?_⟩
  · intro k hk o' ho' e he hb
    by_cases e1 : i = k
    · subst e1
      rw [ho] at ho'
      injection ho' with ho'
      subst ho'
      exact hmono _ (hr e he hb)
    · rw [set_ne e1] at hk
      exact hmono _ (hB.down k hk o' ho' e he hb)
  · intro t ht
    rw [← hB.old t ht]
    cases hq : o.dst with
    | none => rfl
    | some d =>
      have := hd d hq
      show (a.tmps.setIfInBounds d v)[t]? = a.tmps[t]?
      rw [Array.getElem?_setIfInBounds_ne]
      rintro rfl
      rcases ht with h | h
      · exact absurd (Nat.lt_of_lt_of_le h this.1) (Nat.lt_irrefl _)
      · exact absurd (Nat.lt_of_lt_of_le h this.2) (Nat.lt_irrefl _)

theorem nm_keep {σ σ' : Inj} {W W' : AW} {w w' : World} (he : Ext σ W w σ' W' w') {m : Nat} (hm : m < w.heap.size) (hn : ∀ b g, σ b = some g → g.B ≠ m) : (∀ b g, σ' b = some g → g.B ≠ m) ∧ w'.heap[m]? = w.heap[m]? := by
  have hnm : ¬ Mut σ W m := by
    rintro ⟨b, g, h1, h2, _⟩
    exact hn b g h1 h2
  refine ⟨fun b g hb e => ?_, he.keep m hm hnm⟩
  subst e
  rcases he.grow b g hb hm with h1 | h1
  · exact hn b g h1 rfl
  · exact hnm h1
theorem own_same {H : Type} {k : TypeId} {w w' : World} {Re : Value → Option (DataW H × List MemPlace)} {b n : Nat} {D : DataW H} (h : w.ownsMap P k Re b n D) (e : w'.heap[b]? = w.heap[b]?) : w'.ownsMap P k Re b n D := by
  obtain ⟨es, clock, hb, r⟩ := h
  exact ⟨es, clock, e.trans hb, r⟩

theorem step_pure (hF : RF P ops nt TM TK TE σ0 W R tm0 b0 b1 b2 b3 b4 b5 b6 b7) (hI : RI P ops nt TK TE σ0 W R w0 tm0 ds b0 b1 b2 b3 b4 b5 b6 b7 l a w) {i : Nat} {o : Oper} (ho : ops[i]? = some o) (hl : l.getD i true = false)
    (hr : ∀ e ∈ o.after, Region.binds .any e = true → l.getD e.on false = true) (hp : isPure i = true) {Q : Exit → Act → World → Prop} {K : Act → World → Prop}
    (hK : ∀ a' w', RI P ops nt TK TE σ0 W R w0 tm0 ds b0 b1 b2 b3 b4 b5 b6 b7 (l.setIfInBounds i true) a' w' → K a' w') : wpOp P ops Q i K a w := by
  obtain ⟨hg, hpd, _, hback⟩ := dst_in hF ho
  obtain ⟨⟨d, hd, hd1, hd2⟩, hargs⟩ := hpd hp
  obtain ⟨hB, σ, hW, hE, hregs, hmap⟩ := hI
  have hi : i < l.size := by rw [hB.lsz, ← hF.size]; exact (Array.getElem?_eq_some_iff.1 ho).1
  have hlf := same_false hl hi
  have hρ : ∀ x ∈ o.op.operands, VR σ (aEval R x) (a.eval x) := by
    intro x hx
    have hx1 := List.all_eq_true.1 hargs x (by simpa using hx)
    unfold argOK at hx1
    split at hx1
    · exact plain_refl hx1
    · rename_i t
      rw [Bool.or_eq_true] at hx1
      show VR σ (rget R t) (a.tmps.getD t undef)
      rcases hx1 with h1 | h1
      · obtain rfl : t = 1 := by simpa using h1
        have : a.tmps.getD 1 undef = tm0.getD 1 undef := by
          simp only [Array.getD_eq_getD_getElem?]; rw [hB.old 1 (.inl (by decide))]
        rw [this]
        exact hF.ptr.mono hE.sub
      · rw [Array.any_eq_true'] at h1
        obtain ⟨e, he, hb⟩ := h1
        rw [Bool.and_eq_true] at hb
        obtain ⟨hb1, hb2⟩ := hb
        split at hb2
        · rename_i o' ho'
          split at hb2
          · rename_i d' hd'
            simp only [Bool.and_eq_true, Nat.beq_eq, Nat.blt_eq] at hb2
            obtain ⟨rfl, h3, h4⟩ := hb2
            exact hregs e.on o' d' ho' ((dst_in hF ho').2.2.2 d' hd' h3 h4) (hr e he hb1) hd'
          · cases hb2
        · cases hb2
    · cases hx1
  obtain ⟨σ', nx, v', w', hrun, hnx, hv, hW', hE'⟩ := hF.does i o d ho hp hd σ w a.eval hW hρ
  have fin : RI P ops nt TK TE σ0 W R w0 tm0 ds b0 b1 b2 b3 b4 b5 b6 b7 (l.setIfInBounds i true) (a.put o.dst v') w' := by
    refine ⟨hB.step hF ho hr v', σ', hW', hE.trans hE', ?_, ?_⟩
    · intro k o' d' ho' hp' hl' hd'
      by_cases e : i = k
      · subst e
        rw [ho] at ho'
        injection ho' with ho'
        subst ho'
        rw [hd] at hd'
        injection hd' with hd'
        subst hd'
        rw [put_getD hd (by rw [hB.tsz]; exact Nat.lt_of_lt_of_le hd2 (Nat.le_trans (by decide) hF.nt))]
        exact hv
      · rw [set_ne e] at hl'
        by_cases e2 : d' = d
        · subst e2
          rw [put_getD hd (by rw [hB.tsz]; exact Nat.lt_of_lt_of_le hd2 (Nat.le_trans (by decide) hF.nt))]
          exact hv
        · rw [put_getD_ne (by rw [hd]; intro e3; injection e3 with e3; exact e2 e3.symm)]
          exact (hregs k o' d' ho' hp' hl' hd').mono hE'.sub
    · intro h0
      have hne : ∀ k, isPure k = false → (l.setIfInBounds i true).getD k false = l.getD k false := fun k hk => set_ne (fun e => by subst e; rw [hp] at hk; cases hk) _
      have hget : ∀ t, (t = 14 ∨ 39 < t) → (a.put o.dst v').tmps.getD t undef = a.tmps.getD t undef := fun t ht => put_getD_ne (by
        rw [hd]; intro e3; injection e3 with e3; subst e3
        rcases ht with h | h
        · subst h; exact absurd hd1 (by decide)
        · exact absurd hd2 (by intro h5; exact absurd (Nat.lt_of_lt_of_le h5 h) (Nat.lt_irrefl _)))
      rw [hne 0 rfl] at h0
      obtain ⟨m, n, k1, k2, k3, k4, k5, k6, k7⟩ := hmap h0
      have hD : Dl (l.setIfInBounds i true) b0 b1 b2 b3 b4 b5 b6 b7 = Dl l b0 b1 b2 b3 b4 b5 b6 b7 := by
        unfold Dl
        rw [hne 4 rfl, hne 8 rfl, hne 12 rfl, hne 16 rfl, hne 20 rfl, hne 24 rfl, hne 29 rfl, hne 33 rfl]
      have hlt : m < w.heap.size := by
        cases hq : l.getD 35 false with
        | false => exact (k6 hq).lt
        | true => obtain ⟨r, _, _, _, hrg⟩ := k7 hq; exact hrg.owns.lt
      obtain ⟨q1, q2⟩ := nm_keep hE' hlt k1
      refine ⟨m, n, q1, k2, by rw [hget 14 (.inl rfl)]; exact k3, Nat.le_trans k4 (Nat.le_trans (Nat.le_succ _) (count_set (by rw [← hB.lsz]; exact hi) hB.lsz hlf)), fun h => ?_, fun h => ?_, fun h => ?_⟩
      · rw [hne 34 rfl] at h; rw [hget 40 (.inr (by decide))]; exact k5 h
      · rw [hne 35 rfl] at h; rw [hD]; exact own_same (k6 h) q2
      · rw [hne 35 rfl] at h
        obtain ⟨r, p1, p2, p3, p4⟩ := k7 h
        have hrlt : r < w.heap.size := by
          obtain ⟨es, clock, since, seen, c0, _, _, _, _, hr, _⟩ := p4
          exact (Array.getElem?_eq_some_iff.1 hr).1
        obtain ⟨q3, q4⟩ := nm_keep hE' hrlt p2
        refine ⟨r, by rw [hget 41 (.inr (by decide))]; exact p1, q3, p3, ?_⟩
        rw [hD]
        obtain ⟨es, clock, since, seen, c0, z1, z2, z3, z4, z5, z6⟩ := p4
        exact ⟨es, clock, since, seen, c0, q2.trans z1, z2, z3, z4, q4.trans z5, z6⟩
  rcases hnx with rfl | ⟨rfl, rfl⟩
  · exact wpOp_value ho hg hrun (hK _ _ fin)
  · exact wpOp_skip ho hg hrun (hK _ _ fin)

theorem needs (hF : RF P ops nt TM TK TE σ0 W R tm0 b0 b1 b2 b3 b4 b5 b6 b7) (hB : RB ops nt tm0 ds l a) :
    (l.getD 35 false = true → l.getD 34 false = true) ∧ (l.getD 34 false = true → ∀ e, e < 34 → l.getD e false = true) ∧ (∀ i, (i = 4 ∨ i = 8 ∨ i = 12 ∨ i = 16 ∨ i = 20 ∨ i = 24 ∨ i = 29 ∨ i = 33) → l.getD i false = true → l.getD 0 false = true) := by
  have at_ : ∀ i, i < 36 → ∃ o, ops[i]? = some o := fun i hi => ⟨ops[i]'(by rw [hF.size]; exact hi), Array.getElem?_eq_getElem _⟩
  refine ⟨fun h => ?_, fun h e he => ?_, fun i hi h => ?_⟩
  · obtain ⟨o, ho⟩ := at_ 35 (by decide)
    have hs := hF.shape 35 o ho
    simp only [shapeAt, Bool.and_eq_true] at hs
    exact edgeTo_listed hs.2 (hB.down 35 h o ho)
  · obtain ⟨o, ho⟩ := at_ 34 (by decide)
    have hs := hF.shape 34 o ho
    simp only [shapeAt, Bool.and_eq_true, List.all_eq_true] at hs
    exact edgeTo_listed (hs.2 e (by simpa using he)) (hB.down 34 h o ho)
  · obtain ⟨o, ho⟩ := at_ i (by omega)
    have hs := hF.shape i o ho
    have : edgeTo 0 o = true := by
      rcases hi with rfl | rfl | rfl | rfl | rfl | rfl | rfl | rfl <;> (simp only [shapeAt, insOK, Bool.and_eq_true] at hs; exact hs.1.1.1.2)
    exact edgeTo_listed this (hB.down i h o ho)

theorem regs_other {σ : Inj} (hF : RF P ops nt TM TK TE σ0 W R tm0 b0 b1 b2 b3 b4 b5 b6 b7) {i : Nat} {o : Oper} (ho : ops[i]? = some o) (hp : isPure i = false)
    (h : ∀ i o d, ops[i]? = some o → isPure i = true → l.getD i false = true → o.dst = some d → VR σ (rget R d) (a.tmps.getD d undef)) (v : Value) :
    ∀ k o' d, ops[k]? = some o' → isPure k = true → (l.setIfInBounds i true).getD k false = true → o'.dst = some d → VR σ (rget R d) ((a.put o.dst v).tmps.getD d undef) := by
  intro k o' d ho' hp' hl hd
  have e : i ≠ k := fun e => by subst e; rw [hp] at hp'; cases hp'
  rw [set_ne e] at hl
  obtain ⟨_, hpd, _, _⟩ := dst_in hF ho'
  obtain ⟨⟨d', hd', h1, h2⟩, _⟩ := hpd hp'
  rw [hd] at hd'
  injection hd' with hd'
  subst hd'
  rw [put_getD_ne]
  · exact h k o' d ho' hp' hl hd
  · intro e2
    have := (dst_in hF ho).2.2.2 d e2 h1 h2
    rw [hp] at this; cases this

theorem frozen_alloc {w : World} {o : Obj} (ho : ∀ c t f, o ≠ .cells c t f) (x : Addr) : (w.alloc o).frozen? x = w.frozen? x := by
  by_cases h : x.block < w.heap.size
  · exact World.frozen?_of_block ((World.grownBy_alloc w o none).block _ h (by simp))
  · rw [none_cold (w := w) (by omega)]
    by_cases e : x.block = w.heap.size
    · unfold World.frozen?
      rw [e]
      have : (w.alloc o).heap[w.heap.size]? = some o := (MapKept.heap_alloc w o).1
      rw [this]
      cases o <;> first | rfl | exact absurd rfl (ho _ _ _)
    · refine none_cold ?_
      have : (w.alloc o).heap.size = w.heap.size + 1 := by simp
      omega

theorem step_make (hF : RF P ops nt TM TK TE σ0 W R tm0 b0 b1 b2 b3 b4 b5 b6 b7) (hI : RI P ops nt TK TE σ0 W R w0 tm0 ds b0 b1 b2 b3 b4 b5 b6 b7 l a w) {o : Oper} (ho : ops[0]? = some o) (hl : l.getD 0 true = false)
    (hr : ∀ e ∈ o.after, Region.binds .any e = true → l.getD e.on false = true) {Q : Exit → Act → World → Prop} {K : Act → World → Prop}
    (hK : ∀ a' w', RI P ops nt TK TE σ0 W R w0 tm0 ds b0 b1 b2 b3 b4 b5 b6 b7 (l.setIfInBounds 0 true) a' w' → K a' w') : wpOp P ops Q 0 K a w := by
  obtain ⟨hB, σ, hW, hE, hregs, hmap⟩ := hI
  have hi : 0 < l.size := by rw [hB.lsz]; decide
  have hlf := same_false hl hi
  obtain ⟨n1, n2, n3⟩ := needs hF hB
  have hs := hF.shape 0 o ho
  simp only [shapeAt, Bool.and_eq_true, Option.isNone_iff_eq_none] at hs
  obtain ⟨hg, hs⟩ := hs
  split at hs
  case h_2 => cases hs
  rename_i t d hop hd
  simp only [Bool.and_eq_true, Nat.beq_eq] at hs
  obtain ⟨rfl, rfl⟩ := hs
  have hrun : (execOp a.eval o).run P w = .ok (.value (.map (some w.heap.size))) (w.alloc (.map #[] 0)) := by
    simp [execOp, hop, run_makeMap]
  refine wpOp_value ho hg hrun (hK _ _ ⟨hB.step hF ho hr _, σ, ?_, ?_, regs_other hF ho rfl hregs _, fun _ => ⟨w.heap.size, 0, ?_, hE.size, ?_, Nat.zero_le _, ?_, ?_, ?_⟩⟩)
  · exact rel_other (m := w.heap.size) hW (fun b g hb => Nat.ne_of_lt (hW.dom b g hb).2) ((World.grownBy_alloc w _ none).but _)
  · exact ext_other (m := w.heap.size) hE hE.size ((World.grownBy_alloc w _ none).but _) (frozen_alloc (fun _ _ _ h => by cases h))
  · exact fun b g hb => Nat.ne_of_lt (hW.dom b g hb).2
  · exact put_getD hd (by rw [hB.tsz]; exact Nat.lt_of_lt_of_le (by decide) hF.nt)
  · intro h
    rw [set_ne (by decide)] at h
    rw [n2 h 0 (by decide)] at hlf; cases hlf
  · intro _
    have hno : ∀ i, (i = 4 ∨ i = 8 ∨ i = 12 ∨ i = 16 ∨ i = 20 ∨ i = 24 ∨ i = 29 ∨ i = 33) → (l.setIfInBounds 0 true).getD i false = false := fun i hi => by
      rw [set_ne (by omega)]
      cases hq : l.getD i false with
      | false => rfl
      | true => rw [n3 i hi hq] at hlf; cases hlf
    have hD : Dl (l.setIfInBounds 0 true) b0 b1 b2 b3 b4 b5 b6 b7 = .map [] := by
      unfold Dl
      rw [hno 4 (by simp), hno 8 (by simp), hno 12 (by simp), hno 16 (by simp), hno 20 (by simp), hno 24 (by simp), hno 29 (by simp), hno 33 (by simp)]
      rfl
    rw [hD]
    exact World.ownsMap_made _ _ _ _
  · intro h
    rw [set_ne (by decide)] at h
    rw [n2 (n1 h) 0 (by decide)] at hlf; cases hlf

theorem step_ins (hF : RF P ops nt TM TK TE σ0 W R tm0 b0 b1 b2 b3 b4 b5 b6 b7) (hI : RI P ops nt TK TE σ0 W R w0 tm0 ds b0 b1 b2 b3 b4 b5 b6 b7 l a w) {i key s k : Nat} {bj : Bool} {o : Oper} (ho : ops[i]? = some o) (hl : l.getD i true = false)
    (hr : ∀ e ∈ o.after, Region.binds .any e = true → l.getD e.on false = true) (hs : insOK ops TM key s k o = true) (hp : isPure i = false) (hi34 : i < 34) (hi0 : i ≠ 0) (hv : rget R s = .bool bj) (hwf : (Lit.int .i64 key).wf = true)
    (hput : (Dl l b0 b1 b2 b3 b4 b5 b6 b7).put (.int .i64 key) (.lit (.bool bj)) = Dl (l.setIfInBounds i true) b0 b1 b2 b3 b4 b5 b6 b7) {Q : Exit → Act → World → Prop} {K : Act → World → Prop}
    (hK : ∀ a' w', RI P ops nt TK TE σ0 W R w0 tm0 ds b0 b1 b2 b3 b4 b5 b6 b7 (l.setIfInBounds i true) a' w' → K a' w') : wpOp P ops Q i K a w := by
  obtain ⟨hB, σ, hW, hE, hregs, hmap⟩ := hI
  have hi : i < l.size := by rw [hB.lsz]; omega
  have hlf := same_false hl hi
  obtain ⟨n1, n2, n3⟩ := needs hF hB
  unfold insOK at hs
  simp only [Bool.and_eq_true, Option.isNone_iff_eq_none] at hs
  obtain ⟨⟨⟨⟨⟨hg, hd⟩, e0⟩, ek⟩, hop⟩, hk⟩ := hs
  split at hop
  case h_2 => cases hop
  rename_i t m' n' v' hop'
  simp only [Bool.and_eq_true, Nat.beq_eq, Nat.blt_eq] at hop
  obtain ⟨⟨⟨⟨⟨rfl, rfl⟩, rfl⟩, rfl⟩, hs1⟩, hs2⟩ := hop
  split at hk
  case h_2 => cases hk
  rename_i ok hok
  split at hk
  case h_2 => cases hk
  rename_i dk hdk
  obtain rfl : dk = v' := by simpa using hk
  have hval : a.tmps.getD dk undef = .bool bj := by
    have := hregs k ok dk hok ((dst_in hF hok).2.2.2 dk hdk hs1 hs2) (edgeTo_listed ek hr) hdk
    rw [hv] at this
    exact this.bool_inv
  obtain ⟨m, n, k1, k2, k3, k4, k5, k6, k7⟩ := hmap (edgeTo_listed e0 hr)
  have h34 : l.getD 34 false = false := by
    cases hq : l.getD 34 false with
    | false => rfl
    | true => rw [n2 hq i hi34] at hlf; cases hlf
  have h35 : l.getD 35 false = false := by
    cases hq : l.getD 35 false with
    | false => rfl
    | true => rw [n1 hq] at h34; cases h34
  have hkey : keyOf P TK (.int .i64 (n' : Int)) = some (.int .i64 (n' : Int)) := by
    simp [keyOf, mapKey, hF.TK, hwf]
  obtain ⟨w', hrun, hown', hgr, hsz⟩ := own_update (k6 h35) (Go.Maps.int_keyed hF.TK) hF.TM (Nat.lt_of_le_of_lt (Nat.le_trans k4 count_le) (by decide)) hkey (plainElem_bool hF.TE bj)
  have hrun' : (execOp a.eval o).run P w = .ok .skip w' := by
    have e1 : a.eval (.tmp 14) = .map (some m) := k3
    have e2 : a.eval (.tmp dk) = .bool bj := hval
    have e3 : a.eval (.const (.int .i64 (Int.ofNat n'))) = .int .i64 (n' : Int) := rfl
    simp only [execOp, hop', e1, e2, e3]
    simp [hrun]
  refine wpOp_skip ho hg hrun' (hK _ _ ⟨hB.step hF ho hr _, σ, ?_, ?_, regs_other hF ho hp hregs _, fun _ => ⟨m, n + 1, k1, k2, ?_, ?_, ?_, ?_, ?_⟩⟩)
  · exact rel_other hW k1 hgr
  · refine ext_other hE k2 hgr fun x => ?_
    by_cases e : x.block = m
    · rw [own_cold (k6 h35) e, own_cold hown' e]
    · by_cases h : x.block < w.heap.size
      · exact World.frozen?_of_block (hgr.block _ h (fun e2 => by injection e2 with e2; exact e e2))
      · rw [none_cold (w := w) (by omega), none_cold (w := w') (by omega)]
  · rw [hd]; exact k3
  · exact Nat.le_trans (Nat.succ_le_succ k4) (count_set (by rw [← hB.lsz]; exact hi) hB.lsz hlf)
  · intro h; rw [set_ne (by omega), h34] at h; cases h
  · intro _; rw [← hput]; exact hown'
  · intro h; rw [set_ne (by omega), h35] at h; cases h

theorem step_move (hF : RF P ops nt TM TK TE σ0 W R tm0 b0 b1 b2 b3 b4 b5 b6 b7) (hI : RI P ops nt TK TE σ0 W R w0 tm0 ds b0 b1 b2 b3 b4 b5 b6 b7 l a w) {o : Oper} (ho : ops[34]? = some o) (hl : l.getD 34 true = false)
    (hr : ∀ e ∈ o.after, Region.binds .any e = true → l.getD e.on false = true) {Q : Exit → Act → World → Prop} {K : Act → World → Prop}
    (hK : ∀ a' w', RI P ops nt TK TE σ0 W R w0 tm0 ds b0 b1 b2 b3 b4 b5 b6 b7 (l.setIfInBounds 34 true) a' w' → K a' w') : wpOp P ops Q 34 K a w := by
  obtain ⟨hB, σ, hW, hE, hregs, hmap⟩ := hI
  have hi : 34 < l.size := by rw [hB.lsz]; decide
  have hlf := same_false hl hi
  obtain ⟨n1, n2, n3⟩ := needs hF hB
  have hs := hF.shape 34 o ho
  simp only [shapeAt, Bool.and_eq_true, Option.isNone_iff_eq_none, List.all_eq_true] at hs
  obtain ⟨⟨hg, hs⟩, hed⟩ := hs
  split at hs
  case h_2 => cases hs
  rename_i x d hop hd
  simp only [Bool.and_eq_true, Nat.beq_eq] at hs
  obtain ⟨rfl, rfl⟩ := hs
  have h0 : l.getD 0 false = true := edgeTo_listed (hed 0 (by simp)) hr
  obtain ⟨m, n, k1, k2, k3, k4, k5, k6, k7⟩ := hmap h0
  have h35 : l.getD 35 false = false := by
    cases hq : l.getD 35 false with
    | false => rfl
    | true => rw [n1 hq] at hlf; cases hlf
  have hrun : (execOp a.eval o).run P w = .ok (.value (.map (some m))) w := by
    have e1 : a.eval (.tmp 14) = .map (some m) := k3
    simp only [execOp, hop, e1]
    rfl
  have hD : Dl (l.setIfInBounds 34 true) b0 b1 b2 b3 b4 b5 b6 b7 = Dl l b0 b1 b2 b3 b4 b5 b6 b7 := by
    unfold Dl
    rw [set_ne (by decide), set_ne (by decide), set_ne (by decide), set_ne (by decide), set_ne (by decide), set_ne (by decide), set_ne (by decide), set_ne (by decide)]
  refine wpOp_value ho hg hrun (hK _ _ ⟨hB.step hF ho hr _, σ, hW, hE, regs_other hF ho rfl hregs _, fun _ => ⟨m, n, k1, k2, ?_, ?_, ?_, ?_, ?_⟩⟩)
  · rw [put_getD_ne (by rw [hd]; intro e; injection e with e; cases e)]; exact k3
  · exact Nat.le_trans k4 (Nat.le_trans (Nat.le_succ _) (count_set (by decide) hB.lsz hlf))
  · intro _; exact put_getD hd (by rw [hB.tsz]; exact Nat.lt_of_lt_of_le (by decide) hF.nt)
  · intro _; rw [hD]; exact k6 h35
  · intro h; rw [set_ne (by decide), h35] at h; cases h

theorem step_range (hF : RF P ops nt TM TK TE σ0 W R tm0 b0 b1 b2 b3 b4 b5 b6 b7) (hI : RI P ops nt TK TE σ0 W R w0 tm0 ds b0 b1 b2 b3 b4 b5 b6 b7 l a w) {o : Oper} (ho : ops[35]? = some o) (hl : l.getD 35 true = false)
    (hr : ∀ e ∈ o.after, Region.binds .any e = true → l.getD e.on false = true) {Q : Exit → Act → World → Prop} {K : Act → World → Prop}
    (hK : ∀ a' w', RI P ops nt TK TE σ0 W R w0 tm0 ds b0 b1 b2 b3 b4 b5 b6 b7 (l.setIfInBounds 35 true) a' w' → K a' w') : wpOp P ops Q 35 K a w := by
  obtain ⟨hB, σ, hW, hE, hregs, hmap⟩ := hI
  have hi : 35 < l.size := by rw [hB.lsz]; decide
  have hlf := same_false hl hi
  obtain ⟨n1, n2, n3⟩ := needs hF hB
  have hs := hF.shape 35 o ho
  simp only [shapeAt, Bool.and_eq_true, Option.isNone_iff_eq_none] at hs
  obtain ⟨⟨hg, hs⟩, hed⟩ := hs
  split at hs
  case h_2 => cases hs
  rename_i t x d hop hd
  simp only [Bool.and_eq_true, Nat.beq_eq] at hs
  obtain ⟨⟨rfl, rfl⟩, rfl⟩ := hs
  have h34 : l.getD 34 false = true := edgeTo_listed hed hr
  obtain ⟨m, n, k1, k2, k3, k4, k5, k6, k7⟩ := hmap (n2 h34 0 (by decide))
  obtain ⟨w', hrun, hrg, hgr, hsz⟩ := (k6 hlf).range (Go.Maps.int_keyed hF.TK) hF.TM
  have hrun' : (execOp a.eval o).run P w = .ok (.value (.pointer (some ⟨w.heap.size, 0, none⟩))) w' := by
    have e1 : a.eval (.tmp 40) = .map (some m) := k5 h34
    simp only [execOp, hop, e1]
    simp [hrun]
  have hcold : ∀ x : Addr, x.block = w.heap.size → w'.frozen? x = false := fun x e => by
    obtain ⟨es, clock, since, seen, c0, _, _, _, _, hr, _⟩ := hrg
    unfold World.frozen?
    rw [e, hr]
  have hD : Dl (l.setIfInBounds 35 true) b0 b1 b2 b3 b4 b5 b6 b7 = Dl l b0 b1 b2 b3 b4 b5 b6 b7 := by
    unfold Dl
    rw [set_ne (by decide), set_ne (by decide), set_ne (by decide), set_ne (by decide), set_ne (by decide), set_ne (by decide), set_ne (by decide), set_ne (by decide)]
  refine wpOp_value ho hg hrun' (hK _ _ ⟨hB.step hF ho hr _, σ, ?_, ?_, regs_other hF ho rfl hregs _, fun _ => ⟨m, n, k1, k2, ?_, ?_, ?_, ?_, ?_⟩⟩)
  · exact rel_other (m := w.heap.size) hW (fun b g hb => Nat.ne_of_lt (hW.dom b g hb).2) (hgr.but _)
  · refine ext_other (m := w.heap.size) hE hE.size (hgr.but _) fun x => ?_
    by_cases h : x.block < w.heap.size
    · exact World.frozen?_of_block (hgr.block _ h (by simp))
    · rw [none_cold (w := w) (by omega)]
      by_cases e : x.block = w.heap.size
      · exact hcold x e
      · exact none_cold (by omega)
  · rw [put_getD_ne (by rw [hd]; intro e; injection e with e; cases e)]; exact k3
  · exact Nat.le_trans k4 (Nat.le_trans (Nat.le_succ _) (count_set (by decide) hB.lsz hlf))
  · intro _; rw [put_getD_ne (by rw [hd]; intro e; injection e with e; cases e)]; exact k5 h34
  · intro h; rw [set_same hi] at h; cases h
  · intro _
    refine ⟨w.heap.size, put_getD hd (by rw [hB.tsz]; exact Nat.lt_of_lt_of_le (by decide) hF.nt), fun b g hb => Nat.ne_of_lt (hW.dom b g hb).2, hE.size, ?_⟩
    rw [hD]
    exact hrg

theorem ready_nil (hF : RF P ops nt TM TK TE σ0 W R tm0 b0 b1 b2 b3 b4 b5 b6 b7) (hB : RB ops nt tm0 ds l a) (h : Region.ready .any ops l = []) : ∀ i, i < 36 → l.getD i false = true := by
  have key : ∀ n i, i < n → i < 36 → l.getD i false = true := by
    intro n
    induction n with
    | zero => intro i h; exact absurd h (Nat.not_lt_zero _)
    | succ n ih =>
      intro i hi hi36
      by_cases hlt : i < n
      · exact ih i hlt hi36
      · have hin : i < ops.size := by rw [hF.size]; exact hi36
        have ho : ops[i]? = some ops[i] := Array.getElem?_eq_getElem hin
        cases hq : l.getD i false with
        | true => rfl
        | false =>
          exfalso
          have hb := hF.back i _ ho
          unfold backOK at hb
          have hil : i < l.size := by rw [hB.lsz]; exact hi36
          have : i ∈ Region.ready .any ops l := mem_ready.2 ⟨by
            simp only [Array.getD_eq_getD_getElem?] at hq ⊢
            rw [Array.getElem?_eq_getElem hil] at hq ⊢
            exact hq, _, ho, fun e he hbd => by
            rw [Array.all_eq_true'] at hb
            have h1 := hb e he
            rw [Nat.blt_eq] at h1
            exact ih e.on (by omega) (by omega)⟩
          rw [h] at this
          cases this
  exact fun i hi => key (i + 1) i (Nat.lt_succ_self i) hi

theorem step_any (hF : RF P ops nt TM TK TE σ0 W R tm0 b0 b1 b2 b3 b4 b5 b6 b7) (hI : RI P ops nt TK TE σ0 W R w0 tm0 ds b0 b1 b2 b3 b4 b5 b6 b7 l a w) {i : Nat} (hi : i ∈ Region.ready .any ops l) {Q : Exit → Act → World → Prop} {K : Act → World → Prop}
    (hK : ∀ a' w', RI P ops nt TK TE σ0 W R w0 tm0 ds b0 b1 b2 b3 b4 b5 b6 b7 (l.setIfInBounds i true) a' w' → K a' w') : wpOp P ops Q i K a w := by
  obtain ⟨hl, o, ho, hr⟩ := mem_ready.1 hi
  have hsz : l.size = 36 := hI.base.lsz
  cases hp : isPure i with
  | true => exact step_pure hF hI ho hl hr hp hK
  | false =>
    have hs := hF.shape i o ho
    have hc : i = 0 ∨ i = 4 ∨ i = 8 ∨ i = 12 ∨ i = 16 ∨ i = 20 ∨ i = 24 ∨ i = 29 ∨ i = 33 ∨ i = 34 ∨ i = 35 := by
      unfold isPure at hp
      split at hp <;> first | simp | cases hp
    rcases hc with rfl | rfl | rfl | rfl | rfl | rfl | rfl | rfl | rfl | rfl | rfl
    · exact step_make hF hI ho hl hr hK
    · exact step_ins hF hI ho hl hr hs rfl (by decide) (by decide) hF.v0 rfl (by unfold Dl; rw [set_same (by omega), set_ne (show (4 : Nat) ≠ 8 by decide), set_ne (show (4 : Nat) ≠ 12 by decide), set_ne (show (4 : Nat) ≠ 16 by decide), set_ne (show (4 : Nat) ≠ 20 by decide), set_ne (show (4 : Nat) ≠ 24 by decide), set_ne (show (4 : Nat) ≠ 29 by decide), set_ne (show (4 : Nat) ≠ 33 by decide)]; exact put0 ..) hK
    · exact step_ins hF hI ho hl hr hs rfl (by decide) (by decide) hF.v1 rfl (by unfold Dl; rw [set_same (by omega), set_ne (show (8 : Nat) ≠ 4 by decide), set_ne (show (8 : Nat) ≠ 12 by decide), set_ne (show (8 : Nat) ≠ 16 by decide), set_ne (show (8 : Nat) ≠ 20 by decide), set_ne (show (8 : Nat) ≠ 24 by decide), set_ne (show (8 : Nat) ≠ 29 by decide), set_ne (show (8 : Nat) ≠ 33 by decide)]; exact put1 ..) hK
    · exact step_ins hF hI ho hl hr hs rfl (by decide) (by decide) hF.v2 rfl (by unfold Dl; rw [set_same (by omega), set_ne (show (12 : Nat) ≠ 4 by decide), set_ne (show (12 : Nat) ≠ 8 by decide), set_ne (show (12 : Nat) ≠ 16 by decide), set_ne (show (12 : Nat) ≠ 20 by decide), set_ne (show (12 : Nat) ≠ 24 by decide), set_ne (show (12 : Nat) ≠ 29 by decide), set_ne (show (12 : Nat) ≠ 33 by decide)]; exact put2 ..) hK
    · exact step_ins hF hI ho hl hr hs rfl (by decide) (by decide) hF.v3 rfl (by unfold Dl; rw [set_same (by omega), set_ne (show (16 : Nat) ≠ 4 by decide), set_ne (show (16 : Nat) ≠ 8 by decide), set_ne (show (16 : Nat) ≠ 12 by decide), set_ne (show (16 : Nat) ≠ 20 by decide), set_ne (show (16 : Nat) ≠ 24 by decide), set_ne (show (16 : Nat) ≠ 29 by decide), set_ne (show (16 : Nat) ≠ 33 by decide)]; exact put3 ..) hK
    · exact step_ins hF hI ho hl hr hs rfl (by decide) (by decide) hF.v4 rfl (by unfold Dl; rw [set_same (by omega), set_ne (show (20 : Nat) ≠ 4 by decide), set_ne (show (20 : Nat) ≠ 8 by decide), set_ne (show (20 : Nat) ≠ 12 by decide), set_ne (show (20 : Nat) ≠ 16 by decide), set_ne (show (20 : Nat) ≠ 24 by decide), set_ne (show (20 : Nat) ≠ 29 by decide), set_ne (show (20 : Nat) ≠ 33 by decide)]; exact put4 ..) hK
    · exact step_ins hF hI ho hl hr hs rfl (by decide) (by decide) hF.v5 rfl (by unfold Dl; rw [set_same (by omega), set_ne (show (24 : Nat) ≠ 4 by decide), set_ne (show (24 : Nat) ≠ 8 by decide), set_ne (show (24 : Nat) ≠ 12 by decide), set_ne (show (24 : Nat) ≠ 16 by decide), set_ne (show (24 : Nat) ≠ 20 by decide), set_ne (show (24 : Nat) ≠ 29 by decide), set_ne (show (24 : Nat) ≠ 33 by decide)]; exact put5 ..) hK
    · exact step_ins hF hI ho hl hr hs rfl (by decide) (by decide) hF.v6 rfl (by unfold Dl; rw [set_same (by omega), set_ne (show (29 : Nat) ≠ 4 by decide), set_ne (show (29 : Nat) ≠ 8 by decide), set_ne (show (29 : Nat) ≠ 12 by decide), set_ne (show (29 : Nat) ≠ 16 by decide), set_ne (show (29 : Nat) ≠ 20 by decide), set_ne (show (29 : Nat) ≠ 24 by decide), set_ne (show (29 : Nat) ≠ 33 by decide)]; exact put6 ..) hK
    · exact step_ins hF hI ho hl hr hs rfl (by decide) (by decide) hF.v7 rfl (by unfold Dl; rw [set_same (by omega), set_ne (show (33 : Nat) ≠ 4 by decide), set_ne (show (33 : Nat) ≠ 8 by decide), set_ne (show (33 : Nat) ≠ 12 by decide), set_ne (show (33 : Nat) ≠ 16 by decide), set_ne (show (33 : Nat) ≠ 20 by decide), set_ne (show (33 : Nat) ≠ 24 by decide), set_ne (show (33 : Nat) ≠ 29 by decide)]; exact put7 ..) hK
    · exact step_move hF hI ho hl hr hK
    · exact step_range hF hI ho hl hr hK

def Dall (b0 b1 b2 b3 b4 b5 b6 b7 : Bool) : DataW Unit := Dof true true true true true true true true b0 b1 b2 b3 b4 b5 b6 b7
structure RQ (P : Program) (nt TK TE : Nat) (σ0 : Inj) (W : AW) (w0 : World) (tm0 : Array Value) (ds : List Deferred) (b0 b1 b2 b3 b4 b5 b6 b7 : Bool) (a : Act) (w : World) (σ : Inj) (m r n : Nat) : Prop where
  tsz : a.tmps.size = nt
  dfs : a.defers = ds
  old : ∀ t, (t < 14 ∨ 41 < t) → a.tmps[t]? = tm0[t]?
  it : a.tmps.getD 41 undef = .pointer (some ⟨r, 0, none⟩)
  rel : WRel σ W w.heap
  ext : Ext σ0 W w0 σ W w
  nm : ∀ b g, σ b = some g → g.B ≠ m
  nr : ∀ b g, σ b = some g → g.B ≠ r
  gm : w0.heap.size ≤ m
  gr : w0.heap.size ≤ r
  rg : w.ranges P TK (plainElem P TE) m r n (Dall b0 b1 b2 b3 b4 b5 b6 b7) (Maps.has (Dall b0 b1 b2 b3 b4 b5 b6 b7)) (Maps.size (Dall b0 b1 b2 b3 b4 b5 b6 b7))

theorem RI.done (hF : RF P ops nt TM TK TE σ0 W R tm0 b0 b1 b2 b3 b4 b5 b6 b7) (hI : RI P ops nt TK TE σ0 W R w0 tm0 ds b0 b1 b2 b3 b4 b5 b6 b7 l a w) (h : ∀ i, i < 36 → l.getD i false = true) :
    ∃ σ m r n, RQ P nt TK TE σ0 W w0 tm0 ds b0 b1 b2 b3 b4 b5 b6 b7 a w σ m r n := by
  obtain ⟨hB, σ, hW, hE, hregs, hmap⟩ := hI
  obtain ⟨m, n, k1, k2, k3, k4, k5, k6, k7⟩ := hmap (h 0 (by decide))
  obtain ⟨r, p1, p2, p3, p4⟩ := k7 (h 35 (by decide))
  have hD : Dl l b0 b1 b2 b3 b4 b5 b6 b7 = Dall b0 b1 b2 b3 b4 b5 b6 b7 := by
    unfold Dl Dall
    rw [h 4 (by decide), h 8 (by decide), h 12 (by decide), h 16 (by decide), h 20 (by decide), h 24 (by decide), h 29 (by decide), h 33 (by decide)]
  rw [hD] at p4
  exact ⟨σ, m, r, n, hB.tsz, hB.dfs, hB.old, p1, hW, hE, k1, p2, k2, p3, p4⟩

theorem region_any (hF : RF P ops nt TM TK TE σ0 W R tm0 b0 b1 b2 b3 b4 b5 b6 b7) {Q : Exit → Act → World → Prop} (hQ : ∀ a' w' σ m r n, RQ P nt TK TE σ0 W w0 tm0 ds b0 b1 b2 b3 b4 b5 b6 b7 a' w' σ m r n → Q .normal a' w') :
    ∀ (fuel : Nat) (l : Array Bool) (a : Act) (w : World), RI P ops nt TK TE σ0 W R w0 tm0 ds b0 b1 b2 b3 b4 b5 b6 b7 l a w → unl 36 l ≤ fuel → wpAny P .any ops Q fuel l a w := by
  intro fuel
  induction fuel with
  | zero =>
    intro l a w hI hu
    have hall : ∀ i, i < 36 → l.getD i false = true := fun i hi => by
      have h1 := unl_zero (n := 36) (l := l) (by omega) hi
      have hil : i < l.size := by rw [hI.base.lsz]; exact hi
      simp only [Array.getD_eq_getD_getElem?] at h1 ⊢
      rw [Array.getElem?_eq_getElem hil] at h1 ⊢
      exact h1
    refine ⟨?_, ?_⟩
    · rw [List.eq_nil_iff_forall_not_mem]
      intro i hi
      obtain ⟨h1, o, ho, _⟩ := mem_ready.1 hi
      have hi36 : i < 36 := by rw [← hF.size]; exact (Array.getElem?_eq_some_iff.1 ho).1
      have := hall i hi36
      rw [same_false h1 (by rw [hI.base.lsz]; exact hi36)] at this
      cases this
    · obtain ⟨σ, m, r, n, h⟩ := hI.done hF hall
      exact hQ _ _ _ _ _ _ h
  | succ fuel ih =>
    intro l a w hI hu
    refine ⟨fun hr => ?_, fun i hi => ?_⟩
    · obtain ⟨σ, m, r, n, h⟩ := hI.done hF (ready_nil hF hI.base hr)
      exact hQ _ _ _ _ _ _ h
    · refine step_any hF hI hi fun a' w' hI' => ih _ a' w' hI' ?_
      obtain ⟨h1, o, ho, _⟩ := mem_ready.1 hi
      have hi36 : i < 36 := by rw [← hF.size]; exact (Array.getElem?_eq_some_iff.1 ho).1
      have := unl_set (l := l) hi36 (by rw [hI.base.lsz]; exact hi36) h1
      omega

theorem region_map (hm : P.follows .mixedOrders = true) {id : Nat} (hF : RF P ops nt TM TK TE σ0 W R a.tmps b0 b1 b2 b3 b4 b5 b6 b7) (hnt : a.tmps.size = nt) (hW : WRel σ0 W w.heap) {Q : Exit → Act → World → Prop}
    (hQ : ∀ a' w' σ m r n, RQ P nt TK TE σ0 W w a.tmps a.defers b0 b1 b2 b3 b4 b5 b6 b7 a' w' σ m r n → Q .normal a' w') : (Code.region id ops true).wp P Q a w := by
  refine wp_region_any hm ?_
  have hno : ∀ i, (Array.replicate ops.size false).getD i false = false := fun i => by
    simp only [Array.getD_eq_getD_getElem?, Array.getElem?_replicate]
    split <;> rfl
  refine region_any (w0 := w) (tm0 := a.tmps) (ds := a.defers) hF hQ _ _ _ _ ⟨⟨by simp [hF.size], hnt, rfl, ?_, fun _ _ => rfl⟩, σ0, hW, .drawn _ _ _ _, ?_, ?_⟩ ?_
  · intro i hi; rw [hno] at hi; cases hi
  · intro i o d _ _ hl; rw [hno] at hl; cases hl
  · intro hl; rw [hno] at hl; cases hl
  · unfold unl
    have := List.countP_le_length (p := fun i => !(Array.replicate ops.size false).getD i true) (l := List.range 36)
    rw [hF.size] at this ⊢
    simpa using this
end
end
end Go.Eng
namespace Go.Eng
open Go Go.RowKit
section
variable [PlanTab]

structure Quiet (w w' : World) : Prop where
  os : w'.os = w.os
  tape : w'.tape = w.tape
  output : w'.output = w.output
  size : w.heap.size ≤ w'.heap.size
  block : ∀ B, B < w.heap.size → w'.heap[B]? = w.heap[B]?
theorem Quiet.grown {w w' : World} (h : Quiet w w') : GrownB w w' := by
  refine ⟨⟨h.os, h.output, fun i hi => ?_⟩, fun a ha => frozen_same (h.block _ ha), h.size⟩
  rw [h.block i hi]
  cases w.heap[i]? with
  | none => rfl
  | some o => cases o <;> first | rfl | exact ⟨rfl, rfl, rfl, fun _ _ => rfl⟩ | exact .inr ⟨rfl, rfl⟩
theorem Quiet.cell {w w' : World} (h : Quiet w w') {a : Addr} {v : Value} (hc : w.cell? a = some v) : w'.cell? a = some v := by
  have hlt : a.block < w.heap.size := by
    rcases Nat.lt_or_ge a.block w.heap.size with h' | h'
    · exact h'
    · unfold World.cell? at hc; rw [Array.getElem?_eq_none h'] at hc; simp at hc
  rw [World.cell?_of_block (h.block _ hlt)]; exact hc
theorem Quiet.rel {w w' : World} (h : Quiet w w') {σ : Inj} {W : AW} (hW : WRel σ W w.heap) : WRel σ W w'.heap where
  free := hW.free
  dom b g hb := ⟨(hW.dom b g hb).1, Nat.lt_of_lt_of_le (hW.dom b g hb).2 h.size⟩
  obj b o g hb hσ := (hW.obj b o g hb hσ).same (h.block _ (hW.dom b g hσ).2)
  disj := hW.disj
theorem Quiet.ext {w w' : World} (h : Quiet w w') (σ : Inj) (W : AW) : Ext σ W w σ W w' :=
  ⟨.refl _, fun _ _ h => h, h.size, h.os, h.tape, h.output, fun B hB _ => h.block B hB, fun _ _ a b => ⟨a, b⟩, fun _ _ a _ => .inl a⟩
theorem Quiet.other {w w' w'' : World} (h : Quiet w w') {r : Nat} (hr : w.heap.size ≤ r) (hg : w'.grownBy w'' (some r)) (hsz : w''.heap.size = w'.heap.size)
    (h1 : ∀ a : Addr, a.block = r → w'.frozen? a = false) (h2 : ∀ a : Addr, a.block = r → w''.frozen? a = false) : Quiet w w'' := by
  refine ⟨hg.os.trans h.os, hg.tape.trans h.tape, hg.output.trans h.output, Nat.le_trans h.size hg.size, fun B hB => (hg.block B (Nat.lt_of_lt_of_le hB h.size) (fun e => by injection e with e; omega)).trans (h.block B hB)⟩
theorem ranges_cold {H : Type} {P : Program} {k : TypeId} {w : World} {Re : Value → Option (DataW H × List MemPlace)} {b r n cnt : Nat} {D : DataW H} {left : Lit → Bool} (h : w.ranges P k Re b r n D left cnt) {a : Addr} (ha : a.block = r) : w.frozen? a = false := by
  obtain ⟨es, clock, since, seen, c0, _, _, _, _, hr, _⟩ := h
  unfold World.frozen?
  rw [ha, hr]

def σbox (B n : Nat) : Inj := fun b => if b = 0 then some ⟨B, 0, n⟩ else none
noncomputable def Wbox (cs : List Value) : AW := ⟨T.set (some (.cells cs)) (path 0) .lf, 1⟩
noncomputable def Rbox : PlanTab.Fr := rset PlanTab.blank 1 (.pointer (some ⟨0, 0, none⟩))
theorem Wbox_none {cs : List Value} {b : Nat} (e : b ≠ 0) : (Wbox cs).get b = none := by
  show T.get (path b) (T.set (some (AObj.cells cs)) (path 0) .lf) = _
  exact (T.get_set_ne _ _ _ _ (path_ne (Ne.symm e))).trans (T.get_lf _)
theorem Wbox_get (cs : List Value) {b : Nat} {o : AObj} (h : (Wbox cs).get b = some o) : b = 0 ∧ o = .cells cs := by
  by_cases e : b = 0
  · subst e
    have : (Wbox cs).get 0 = some (.cells cs) := by
      show T.get (path 0) (T.set (some (AObj.cells cs)) (path 0) .lf) = _
      exact T.get_set _ _ _
    rw [this] at h
    injection h with h
    exact ⟨rfl, h.symm⟩
  · have : (Wbox cs).get b = none := Wbox_none e
    rw [this] at h; cases h
theorem rel_box (w : World) (t : TypeId) (cs : List Value) (hp : cs.all plain = true) : WRel (σbox w.heap.size cs.length) (Wbox cs) (w.alloc (.cells cs.toArray t)).heap where
  free b hb := Wbox_none (by have h1 : 1 ≤ b := hb; intro e; subst e; exact absurd h1 (by decide))
  dom b g hb := by
    unfold σbox at hb
    split at hb
    · rename_i e; subst e; injection hb with hb; subst hb
      exact ⟨Nat.lt_succ_self 0, by simp⟩
    · cases hb
  obj b o g hb hg := by
    obtain ⟨rfl, rfl⟩ := Wbox_get cs hb
    injection hg with hg
    subst hg
    refine ⟨cs.toArray, t, (0, 0), (MapKept.heap_alloc w _).1, fun _ => rfl, by simp, by simp, fun i v hv => ⟨v, by simpa using hv, ?_⟩⟩
    exact plain_refl (List.all_eq_true.1 hp v (List.mem_of_getElem? hv))
  disj b1 b2 o1 o2 g1 g2 hne h1 h2 _ _ _ := absurd ((Wbox_get cs h1).1.trans (Wbox_get cs h2).1.symm) hne
theorem quiet_box {w w2 : World} {t : TypeId} {cs : List Value} {n : Nat} {σ : Inj} (h : Ext (σbox w.heap.size n) (Wbox cs) (w.alloc (.cells cs.toArray t)) σ (Wbox cs) w2) : Quiet w w2 := by
  have hsz : (w.alloc (.cells cs.toArray t)).heap.size = w.heap.size + 1 := by simp
  refine ⟨h.os, h.tape, h.output, by have := h.size; omega, fun B hB => ?_⟩
  · rw [h.keep B (by omega) ?_]
    · exact (World.grownBy_alloc w _ none).block B hB (by simp)
    · rintro ⟨b, g, hb, hg, _⟩
      unfold σbox at hb
      split at hb
      · injection hb with hb; subst hb; simp only at hg; omega
      · cases hb

def pureIdx : List Nat := (List.range 36).filter isPure
noncomputable def runPure (P : Program) (ops : Array Oper) (W : AW) : List Nat → PlanTab.Fr → PlanTab.Fr
  | [], R => R
  | i :: l, R => match ops[i]? with
    | some o => (match aOp P o R W with
      | some (v, _) => runPure P ops W l (rput R o.dst v)
      | none => R)
    | none => R
theorem shape_of {ops : Array Oper} {TM : Nat} (h : shapeOK ops TM = true) : ops.size = 36 ∧ ∀ i o, ops[i]? = some o → shapeAt ops TM i o = true ∧ backOK i o = true := by
  unfold shapeOK at h
  rw [Bool.and_eq_true, Nat.beq_eq, List.all_eq_true] at h
  refine ⟨h.1, fun i o ho => ?_⟩
  have := h.2 i (by have := (Array.getElem?_eq_some_iff.1 ho).1; simp; omega)
  rw [ho] at this
  simpa using this
section
variable {P : Program}
theorem eqFields_int {d : Nat} {xs ys : Array Value} {f : Field} {fs : List Field} {k : IntKind} {a b : Int} {r : Bool} {w : World} (hn : f.name ≠ "_") (hk : P.plainKey f.type = true) (hu : P.underlying f.type = some (.int k))
    (hx : xs[f.offset]? = some (.int k a)) (hy : ys[f.offset]? = some (.int k b)) (hr : (Op.eqFields (d + 1) xs ys fs).run P w = .ok r w) : (Op.eqFields (d + 1) xs ys (f :: fs)).run P w = .ok ((a == b) && r) w := by
  unfold Op.eqFields
  rw [if_pos hn, Sem.run_bind, run_part_plain w hk hx, Result.andThen_ok, Sem.run_bind, run_part_plain w hk hy, Result.andThen_ok, Sem.run_bind, run_equalIn_int _ _ _ _ _ _ _ hu, Result.andThen_ok]
  cases a == b
  · simp
  · simpa using hr
theorem neq_four {t : TypeId} {x y : Operand} {f0 f1 f2 f3 : Field} {k0 k1 k2 k3 : IntKind} {a b c d : Int} (hs : P.underlying t = some (.struct (P.fieldsOf t))) (hp : P.stoodInHeld t = false) (hm : P.eqGuardType P.depth t = false)
    (hf : (P.fieldsOf t).toList = [f0, f1, f2, f3]) (n0 : f0.name ≠ "_") (n1 : f1.name ≠ "_") (n2 : f2.name ≠ "_") (n3 : f3.name ≠ "_") (p0 : P.plainKey f0.type = true) (p1 : P.plainKey f1.type = true) (p2 : P.plainKey f2.type = true) (p3 : P.plainKey f3.type = true)
    (u0 : P.underlying f0.type = some (.int k0)) (u1 : P.underlying f1.type = some (.int k1)) (u2 : P.underlying f2.type = some (.int k2)) (u3 : P.underlying f3.type = some (.int k3)) (o0 : f0.offset = 0) (o1 : f1.offset = 1) (o2 : f2.offset = 2) (o3 : f3.offset = 3) (w : World) :
    (do eqGuard .neq t x y (.agg #[.int k0 a, .int k1 b, .int k2 c, .int k3 d]) (.agg #[.int k0 0, .int k1 0, .int k2 0, .int k3 0]); binOp .neq t (.agg #[.int k0 a, .int k1 b, .int k2 c, .int k3 d]) (.agg #[.int k0 0, .int k1 0, .int k2 0, .int k3 0]) : Sem Value).run P w =
      .ok (.bool (!((a == 0) && ((b == 0) && ((c == 0) && ((d == 0) && true)))))) w := by
  have h9 : ∀ xs ys : Array Value, (Op.equalIn 10000 t (.agg xs) (.agg ys)).run P w = (Op.eqFields 9999 xs ys (P.fieldsOf t).toList).run P w := fun xs ys => run_equalIn_struct w 9999 t xs ys hs hp
  have h3 := eqFields_int (P := P) (d := 9998) (xs := #[.int k0 a, .int k1 b, .int k2 c, .int k3 d]) (ys := #[.int k0 0, .int k1 0, .int k2 0, .int k3 0]) (fs := []) (r := true) (w := w) n3 p3 u3 (by rw [o3]; rfl) (by rw [o3]; rfl) (by simp [Op.eqFields])
  have h2 := eqFields_int n2 p2 u2 (by rw [o2]; rfl) (by rw [o2]; rfl) h3
  have h1 := eqFields_int n1 p1 u1 (by rw [o1]; rfl) (by rw [o1]; rfl) h2
  have h0 := eqFields_int n0 p0 u0 (by rw [o0]; rfl) (by rw [o0]; rfl) h1
  have h0' : (Op.eqFields 9999 #[.int k0 a, .int k1 b, .int k2 c, .int k3 d] #[.int k0 0, .int k1 0, .int k2 0, .int k3 0] [f0, f1, f2, f3]).run P w = _ := h0
  rw [Sem.run_bind, run_eqGuard_agg _ _ _ _ _ _ _ hm, Result.andThen_ok, run_neq_struct, h9, hf, h0', Result.andThen_ok]
end

def idx32 : List Nat := pureIdx.filter fun i => !Nat.beq i 28
noncomputable def R32 (P : Program) (ops : Array Oper) (cs : List Value) (b6 : Bool) : PlanTab.Fr := rset (runPure P ops (Wbox cs) idx32 Rbox) 36 (.bool b6)
def op32 (TT : Nat) (o : Oper) : Bool := match o.op, o.dst with | .binOp .neq t (.tmp x) (.tmp y) _, some d => Nat.beq t TT && Nat.beq x 34 && Nat.beq y 35 && Nat.beq d 36 | _, _ => false
theorem region_map4 {P : Program} (hm : P.follows .mixedOrders = true) {id nt TM TK TE TT B : Nat} {ops : Array Oper} {cs : List Value} {a : Act} {w : World} {b0 b1 b2 b3 b4 b5 b6 b7 : Bool} {Q : Exit → Act → World → Prop} {tk zk : Array Value}
    (h1 : shapeOK ops TM = true)
    (h2 : (idx32.map fun i => (ops[i]?).bind fun o => aOp P o (R32 P ops cs b6) (Wbox cs)) = idx32.map fun i => (ops[i]?).bind fun o => o.dst.map fun d => (rget (R32 P ops cs b6) d, Wbox cs))
    (v0 : rget (R32 P ops cs b6) 17 = .bool b0) (v1 : rget (R32 P ops cs b6) 20 = .bool b1) (v2 : rget (R32 P ops cs b6) 23 = .bool b2) (v3 : rget (R32 P ops cs b6) 26 = .bool b3)
    (v4 : rget (R32 P ops cs b6) 29 = .bool b4) (v5 : rget (R32 P ops cs b6) 32 = .bool b5) (v7 : rget (R32 P ops cs b6) 39 = .bool b7)
    (c1 : rget (R32 P ops cs b6) 34 = .agg tk) (c2 : rget (R32 P ops cs b6) 35 = .agg zk) (c3 : plain (.agg tk) = true) (c4 : plain (.agg zk) = true) (c5 : (ops[28]?).any (op32 TT) = true)
    (c6 : ∀ w, (do eqGuard .neq TT (.tmp 34) (.tmp 35) (.agg tk) (.agg zk); binOp .neq TT (.agg tk) (.agg zk) : Sem Value).run P w = .ok (.bool b6) w)
    (h3 : rget (R32 P ops cs b6) 1 = .pointer (some ⟨0, 0, none⟩)) (h4 : a.tmps.getD 1 undef = .pointer (some ⟨B, 0, none⟩)) (h5 : 42 ≤ nt) (h6 : a.tmps.size = nt)
    (tM : P.underlying TM = some (.map TK TE)) (tK : P.underlying TK = some (.int .i64)) (tE : P.underlying TE = some .bool) {n : Nat} (hW : WRel (σbox B n) (Wbox cs) w.heap)
    (hQ : ∀ a' w' σ m r k, RQ P nt TK TE (σbox B n) (Wbox cs) w a.tmps a.defers b0 b1 b2 b3 b4 b5 b6 b7 a' w' σ m r k → Q .normal a' w') : (Code.region id ops true).wp P Q a w := by
  obtain ⟨hsz, hsh⟩ := shape_of h1
  have v6 : rget (R32 P ops cs b6) 36 = .bool b6 := rget_rset _ _ _
  refine region_map (nt := nt) (TM := TM) (TK := TK) (TE := TE) (R := R32 P ops cs b6) hm ⟨hsz, fun i o ho => (hsh i o ho).1, fun i o ho => (hsh i o ho).2, ?_, v0, v1, v2, v3, v4, v5, v6, v7, ?_, h5, tM, tK, tE⟩ h6 hW hQ
  · intro i o d ho hp hd σ w ρ hW hρ
    by_cases h32 : i = 28
    · subst h32
      rw [ho] at c5
      simp only [Option.any_some] at c5
      unfold op32 at c5
      split at c5
      case h_2 => cases c5
      rename_i t x y dt d' hop hd'
      simp only [Bool.and_eq_true, Nat.beq_eq] at c5
      obtain ⟨⟨⟨rfl, rfl⟩, rfl⟩, rfl⟩ := c5
      rw [hd] at hd'
      injection hd' with hd'
      subst hd'
      rw [v6]
      have e1 : ρ (.tmp 34) = .agg tk := by
        have := hρ (.tmp 34) (by rw [hop]; simp [Op.operands])
        rw [show aEval (R32 P ops cs b6) (.tmp 34) = .agg tk from c1] at this
        exact plain_eq c3 this
      have e2 : ρ (.tmp 35) = .agg zk := by
        have := hρ (.tmp 35) (by rw [hop]; simp [Op.operands])
        rw [show aEval (R32 P ops cs b6) (.tmp 35) = .agg zk from c2] at this
        exact plain_eq c4 this
      refine Does.value (s := do eqGuard .neq t (.tmp 34) (.tmp 35) (.agg tk) (.agg zk); binOp .neq t (.agg tk) (.agg zk)) ?_ hW (c6 w) (.bool b6)
      simp only [execOp, hop, e1, e2]
    · have hi : i ∈ idx32 := List.mem_filter.2 ⟨List.mem_filter.2 ⟨by have := (Array.getElem?_eq_some_iff.1 ho).1; simp; omega, hp⟩, by cases hb : Nat.beq i 28 with | false => rfl | true => exact absurd (Nat.eq_of_beq_eq_true hb) h32⟩
      have := List.map_inj_left.1 h2 i hi
      exact aOp_run hW (by simpa [ho, hd] using this) hρ
  · rw [h3, h4]
    exact VR.ptr (σ := σbox B n) ⟨0, 0, none⟩ ⟨B, 0, n⟩ rfl rfl

theorem arr_of {tm tm0 : Array Value} {it : Value} (h : tm.size = 58) (h0 : tm0.size = 58) (old : ∀ t, (t < 14 ∨ 41 < t) → tm[t]? = tm0[t]?) (hit : tm.getD 41 undef = it) :
    ∃ xs : List Value, xs.length = 27 ∧ tm = (tm0.toList.take 14 ++ (xs ++ (it :: tm0.toList.drop 42))).toArray := by
  have hl : tm.toList.length = 58 := by simpa using h
  have hl0 : tm0.toList.length = 58 := by simpa using h0
  refine ⟨(tm.toList.drop 14).take 27, by simp [hl], ?_⟩
  apply Array.ext'
  apply List.ext_getElem?
  intro i
  simp only []
  by_cases h1 : i < 14
  · rw [List.getElem?_append_left (by simp [hl0]; omega), List.getElem?_take_of_lt h1]
    have := old i (.inl h1)
    simpa using this
  · rw [List.getElem?_append_right (by simp [hl0]; omega)]
    have e14 : (tm0.toList.take 14).length = 14 := by simp [hl0]
    rw [e14]
    by_cases h2 : i < 41
    · rw [List.getElem?_append_left (by simp [hl]; omega), List.getElem?_take_of_lt (by omega), List.getElem?_drop]
      congr 1
      omega
    · rw [List.getElem?_append_right (by simp [hl]; omega)]
      have e27 : ((tm.toList.drop 14).take 27).length = 27 := by simp [hl]
      rw [e27]
      by_cases h3 : i = 41
      · subst h3
        have : tm[41]? = some it := by
          rw [← hit]
          simp [Array.getElem?_eq_getElem (show 41 < tm.size by omega)]
        simpa using this
      · obtain ⟨j, rfl⟩ : ∃ j, i = j + 42 := ⟨i - 42, by omega⟩
        have e : j + 42 - 14 - 27 = j + 1 := by omega
        rw [e, List.getElem?_cons_succ, List.getElem?_drop]
        have := old (j + 42) (.inr (by omega))
        have e2 : 42 + j = j + 42 := by omega
        rw [e2]
        simpa using this
theorem bool_inv {H : Type} {P : Program} {e : TypeId} (he : P.underlying e = some .bool) {v : Value} {y : DataW H × List MemPlace} (h : plainElem P e v = some y) : ∃ c, v = .bool c := by
  unfold plainElem at h
  rw [he] at h
  cases v <;> simp at h
  exact ⟨_, rfl⟩

theorem box_cell {σ : Inj} {cs : List Value} {w' : World} {B n : Nat} (h : WRel σ (Wbox cs) w'.heap) (hσ : σ 0 = some ⟨B, 0, n⟩) {i : Nat} {v : Value} (hv : cs[i]? = some v) (hp : plain v = true) : w'.cell? ⟨B, i, none⟩ = some v := by
  have hg : (Wbox cs).get 0 = some (.cells cs) := by
    show T.get (path 0) (T.set (some (AObj.cells cs)) (path 0) .lf) = _
    exact T.get_set _ _ _
  obtain ⟨c, t, fr, h1, _, _, _, h4⟩ := h.obj 0 _ _ hg hσ
  obtain ⟨v', h5, h6⟩ := h4 i v hv
  rw [plain_eq hp h6] at h5
  simp only [Nat.zero_add] at h5
  simp [World.cell?, h1, h5]
def hof (g0 g1 g2 g3 g4 g5 g6 g7 : Bool) : Int := (cond g0 1 0 + (cond g1 2 0 + (cond g2 4 0 + (cond g3 8 0 + (cond g4 16 0 + (cond g5 32 0 + (cond g6 64 0 + cond g7 128 0)))))) : Nat)

structure Came (P : Program) (TK TE m r n : Nat) (D : DataW Unit) (left : Lit → Bool) (cnt : Nat) (w : World) where
  x : Int
  c : Bool
  w1 : World
  cnt1 : Nat
  hl : left (.int .i64 x) = true
  hat : ∀ zd, D.atKey (.int .i64 x) zd = .lit (.bool c)
  hrg : w1.ranges P TK (plainElem P TE) m r n D (fun z => left z && !z.sameKey (.int .i64 x)) cnt1
  hlt : cnt1 < cnt
  hgr : w.grownBy w1 (some r)
  hsz : w1.heap.size = w.heap.size
  hen : (Instr.entry (.pointer (some ⟨r, 0, none⟩))).run P w1 = .ok (.tuple #[.int .i64 x, .bool c]) w1
theorem wpList_next_bool {P : Program} {ops : Array Oper} {rest : List Oper} {o : Oper} {a : Act} {w : World} {Q : Exit → Act → World → Prop} (hg : o.guard = none) (it : Operand) (hop : o.op = Op.next it false) {TK TE m r n : Nat} {D : DataW Unit} {left : Lit → Bool} {cnt : Nat}
    (hk : P.underlying TK = some (.int .i64)) (he : P.underlying TE = some .bool) (hit : a.eval it = .pointer (some ⟨r, 0, none⟩)) (h : w.ranges P TK (plainElem P TE) m r n D left cnt)
    (hDone : (∀ kl, left kl = false) → wpList P ops Q rest (a.put o.dst (.tuple #[.bool false])) w)
    (hMore : ∀ z : Came P TK TE m r n D left cnt w, wpList P ops Q rest (a.put o.dst (.tuple #[.bool true, .int .i64 z.x, .bool z.c])) z.w1) : wpList P ops Q (o :: rest) a w :=
  wpList_next_ranges (α := Int) (β := Bool) w hg it hop TK (Go.Maps.int_keyed hk) (plainElem P TE) (Value.int .i64) Value.bool (fun key kl hkey => by obtain ⟨x, rfl, _⟩ := Go.Maps.keyOf_int_inv hk hkey; exact ⟨x, rfl⟩) (fun v y hv => bool_inv he hv) m r n D left cnt hit h (fun _ => hDone)
    (fun x c kl y w1 cnt1 hkey hlk hy hat hrg hlt hgr hsz hen => by
      obtain ⟨x', ex, rfl, _⟩ := Go.Maps.keyOf_int_inv hk hkey
      cases ex
      rw [plainElem_bool he] at hy
      injection hy with hy
      subst hy
      exact hMore ⟨x, c, w1, cnt1, hlk, hat, hrg, hlt, hgr, hsz, hen⟩)
theorem dall_key {b0 b1 b2 b3 b4 b5 b6 b7 c : Bool} {x : Int} (h : Maps.has (Dall b0 b1 b2 b3 b4 b5 b6 b7) (.int .i64 x) = true) (hat : ∀ zd, (Dall b0 b1 b2 b3 b4 b5 b6 b7).atKey (.int .i64 x) zd = .lit (.bool c)) :
    (x = 1 ∧ c = b0) ∨ (x = 2 ∧ c = b1) ∨ (x = 4 ∧ c = b2) ∨ (x = 8 ∧ c = b3) ∨ (x = 16 ∧ c = b4) ∨ (x = 32 ∧ c = b5) ∨ (x = 64 ∧ c = b6) ∨ (x = 128 ∧ c = b7) := by
  have hx : x = 1 ∨ x = 2 ∨ x = 4 ∨ x = 8 ∨ x = 16 ∨ x = 32 ∨ x = 64 ∨ x = 128 := by
    simp only [Maps.has, Dall, Dof, ent, List.cons_append, List.nil_append, List.any_cons, List.any_nil, Bool.or_false, Bool.or_eq_true] at h
    rcases h with h | h | h | h | h | h | h | h <;> (have := WideAt.sameKey_eq h; injection this with _ this; simp_all)
  rcases hx with rfl | rfl | rfl | rfl | rfl | rfl | rfl | rfl
  · have : (DataW.lit (.bool b0) : DataW Unit) = .lit (.bool c) := hat .nil
    injection this with this; injection this with this; simp [this]
  · have : (DataW.lit (.bool b1) : DataW Unit) = .lit (.bool c) := hat .nil
    injection this with this; injection this with this; simp [this]
  · have : (DataW.lit (.bool b2) : DataW Unit) = .lit (.bool c) := hat .nil
    injection this with this; injection this with this; simp [this]
  · have : (DataW.lit (.bool b3) : DataW Unit) = .lit (.bool c) := hat .nil
    injection this with this; injection this with this; simp [this]
  · have : (DataW.lit (.bool b4) : DataW Unit) = .lit (.bool c) := hat .nil
    injection this with this; injection this with this; simp [this]
  · have : (DataW.lit (.bool b5) : DataW Unit) = .lit (.bool c) := hat .nil
    injection this with this; injection this with this; simp [this]
  · have : (DataW.lit (.bool b6) : DataW Unit) = .lit (.bool c) := hat .nil
    injection this with this; injection this with this; simp [this]
  · have : (DataW.lit (.bool b7) : DataW Unit) = .lit (.bool c) := hat .nil
    injection this with this; injection this with this; simp [this]
theorem or0 : ∀ g1 g2 g3 g4 g5 g6 g7 : Bool, bits .or .i64 (hof false g1 g2 g3 g4 g5 g6 g7) 1 = hof true g1 g2 g3 g4 g5 g6 g7 := by decide +kernel
theorem or1 : ∀ g0 g2 g3 g4 g5 g6 g7 : Bool, bits .or .i64 (hof g0 false g2 g3 g4 g5 g6 g7) 2 = hof g0 true g2 g3 g4 g5 g6 g7 := by decide +kernel
theorem or2 : ∀ g0 g1 g3 g4 g5 g6 g7 : Bool, bits .or .i64 (hof g0 g1 false g3 g4 g5 g6 g7) 4 = hof g0 g1 true g3 g4 g5 g6 g7 := by decide +kernel
theorem or3 : ∀ g0 g1 g2 g4 g5 g6 g7 : Bool, bits .or .i64 (hof g0 g1 g2 false g4 g5 g6 g7) 8 = hof g0 g1 g2 true g4 g5 g6 g7 := by decide +kernel
theorem or4 : ∀ g0 g1 g2 g3 g5 g6 g7 : Bool, bits .or .i64 (hof g0 g1 g2 g3 false g5 g6 g7) 16 = hof g0 g1 g2 g3 true g5 g6 g7 := by decide +kernel
theorem or5 : ∀ g0 g1 g2 g3 g4 g6 g7 : Bool, bits .or .i64 (hof g0 g1 g2 g3 g4 false g6 g7) 32 = hof g0 g1 g2 g3 g4 true g6 g7 := by decide +kernel
theorem or6 : ∀ g0 g1 g2 g3 g4 g5 g7 : Bool, bits .or .i64 (hof g0 g1 g2 g3 g4 g5 false g7) 64 = hof g0 g1 g2 g3 g4 g5 true g7 := by decide +kernel
theorem or7 : ∀ g0 g1 g2 g3 g4 g5 g6 : Bool, bits .or .i64 (hof g0 g1 g2 g3 g4 g5 g6 false) 128 = hof g0 g1 g2 g3 g4 g5 g6 true := by decide +kernel
theorem hof_step {left : Lit → Bool} {x : Int} {c : Bool} {b0 b1 b2 b3 b4 b5 b6 b7 : Bool} (hl : left (.int .i64 x) = true)
    (h8 : (x = 1 ∧ c = b0) ∨ (x = 2 ∧ c = b1) ∨ (x = 4 ∧ c = b2) ∨ (x = 8 ∧ c = b3) ∨ (x = 16 ∧ c = b4) ∨ (x = 32 ∧ c = b5) ∨ (x = 64 ∧ c = b6) ∨ (x = 128 ∧ c = b7)) :
    (c = false → hof (!left (.int .i64 1) && b0) (!left (.int .i64 2) && b1) (!left (.int .i64 4) && b2) (!left (.int .i64 8) && b3) (!left (.int .i64 16) && b4) (!left (.int .i64 32) && b5) (!left (.int .i64 64) && b6) (!left (.int .i64 128) && b7) = hof (!(fun z => left z && !z.sameKey (.int .i64 x)) (.int .i64 1) && b0) (!(fun z => left z && !z.sameKey (.int .i64 x)) (.int .i64 2) && b1) (!(fun z => left z && !z.sameKey (.int .i64 x)) (.int .i64 4) && b2) (!(fun z => left z && !z.sameKey (.int .i64 x)) (.int .i64 8) && b3) (!(fun z => left z && !z.sameKey (.int .i64 x)) (.int .i64 16) && b4) (!(fun z => left z && !z.sameKey (.int .i64 x)) (.int .i64 32) && b5) (!(fun z => left z && !z.sameKey (.int .i64 x)) (.int .i64 64) && b6) (!(fun z => left z && !z.sameKey (.int .i64 x)) (.int .i64 128) && b7)) ∧
    (c = true → bits .or .i64 (hof (!left (.int .i64 1) && b0) (!left (.int .i64 2) && b1) (!left (.int .i64 4) && b2) (!left (.int .i64 8) && b3) (!left (.int .i64 16) && b4) (!left (.int .i64 32) && b5) (!left (.int .i64 64) && b6) (!left (.int .i64 128) && b7)) x = hof (!(fun z => left z && !z.sameKey (.int .i64 x)) (.int .i64 1) && b0) (!(fun z => left z && !z.sameKey (.int .i64 x)) (.int .i64 2) && b1) (!(fun z => left z && !z.sameKey (.int .i64 x)) (.int .i64 4) && b2) (!(fun z => left z && !z.sameKey (.int .i64 x)) (.int .i64 8) && b3) (!(fun z => left z && !z.sameKey (.int .i64 x)) (.int .i64 16) && b4) (!(fun z => left z && !z.sameKey (.int .i64 x)) (.int .i64 32) && b5) (!(fun z => left z && !z.sameKey (.int .i64 x)) (.int .i64 64) && b6) (!(fun z => left z && !z.sameKey (.int .i64 x)) (.int .i64 128) && b7)) := by
  have e : ∀ a b : Int, (Lit.int .i64 a).sameKey (.int .i64 b) = decide (a = b) := by intro a b; simp [Lit.sameKey]
  rcases h8 with ⟨rfl, rfl⟩ | ⟨rfl, rfl⟩ | ⟨rfl, rfl⟩ | ⟨rfl, rfl⟩ | ⟨rfl, rfl⟩ | ⟨rfl, rfl⟩ | ⟨rfl, rfl⟩ | ⟨rfl, rfl⟩
  · exact ⟨fun hc => by simp [e, hl, hc], fun hc => by simp [e, hl, hc, or0]⟩
  · exact ⟨fun hc => by simp [e, hl, hc], fun hc => by simp [e, hl, hc, or1]⟩
  · exact ⟨fun hc => by simp [e, hl, hc], fun hc => by simp [e, hl, hc, or2]⟩
  · exact ⟨fun hc => by simp [e, hl, hc], fun hc => by simp [e, hl, hc, or3]⟩
  · exact ⟨fun hc => by simp [e, hl, hc], fun hc => by simp [e, hl, hc, or4]⟩
  · exact ⟨fun hc => by simp [e, hl, hc], fun hc => by simp [e, hl, hc, or5]⟩
  · exact ⟨fun hc => by simp [e, hl, hc], fun hc => by simp [e, hl, hc, or6]⟩
  · exact ⟨fun hc => by simp [e, hl, hc], fun hc => by simp [e, hl, hc, or7]⟩
theorem frozen_ranges {H : Type} {P : Program} {k : TypeId} {w : World} {Re : Value → Option (DataW H × List MemPlace)} {b r n cnt : Nat} {D : DataW H} {left : Lit → Bool} (h : w.ranges P k Re b r n D left cnt) : ∀ a : Addr, a.block = r → w.frozen? a = false := fun a ha => ranges_cold h ha
def errB (b0 b1 b2 b3 b4 b5 b6 b7 : Bool) (u : Int) : Int := if bits .andNot .i64 (hof b0 b1 b2 b3 b4 b5 b6 b7) u = 0 then 0 else 2
theorem ranges_lt {H : Type} {P : Program} {k : TypeId} {w : World} {Re : Value → Option (DataW H × List MemPlace)} {b r n cnt : Nat} {D : DataW H} {left : Lit → Bool} (h : w.ranges P k Re b r n D left cnt) : r < w.heap.size := by
  obtain ⟨es, clock, since, seen, c0, _, _, _, _, hr, _⟩ := h
  exact (Array.getElem?_eq_some_iff.1 hr).1
end
section
variable [PlanTab]

def opArr (k ow un se sc n to t1 t2 t3 t4 nw : Int) : Array Value := #[.int .i64 k, .int .u32 ow, .int .i64 un, .int .i64 se, .int .i64 sc, .int .i64 n, .int .u32 to, .int .u32 t1, .int .u32 t2, .int .u64 t3, .int .u64 t4, .int .i64 nw]
def errOp (ow un se sc n to t1 t2 t3 t4 nw u : Int) : Int :=
  errB (!decide (ow = 0)) (!decide (un = 0)) (!decide (se = 0)) (!decide (sc = 0)) (!decide (n = 0)) (!decide (to = 0)) (!((t1 == 0) && ((t2 == 0) && ((t3 == 0) && ((t4 == 0) && true))))) (!decide (nw = 0)) u
noncomputable def chkArgs (c : List Value) (W : AW) : Option Value :=
  match c with
  | [.int .i64 k, .int .u32 ow, .int .i64 un, .int .i64 se, .int .i64 sc, .int .i64 n, .int .u32 to, .int .u32 t1, .int .u32 t2, .int .u64 t3, .int .u64 t4, .int .i64 nw] =>
    (match decide (k < 1) || decide (12 < k) with
    | true => some (.int .i64 2)
    | false => match W.get 0 with
      | some (.ro us) => (match us[k.toNat]? with
        | some (.int .i64 u) => some (.int .i64 (errOp ow un se sc n to t1 t2 t3 t4 nw u))
        | _ => none)
      | _ => none)
  | _ => none
noncomputable def chk (F : Nat) : Callee := fun f args W => match f with
  | .func (.func g) fs cs => (match Nat.beq g F && (fs.isEmpty && cs.isEmpty) with
    | true => (match args with
      | [.agg c] => (match chkArgs c.toList W with
        | some v => some (v, W)
        | none => none)
      | _ => none)
    | false => none)
  | _ => none

theorem Quiet.box (w : World) (cs : Array Value) (t : TypeId) : Quiet w (w.alloc (.cells cs t)) := by
  exact ⟨rfl, rfl, rfl, by simp, fun B hB => (World.grownBy_alloc w _ none).block B hB (by simp)⟩

theorem chk_ok {P : Program} {ng : List Nat} (h0 : 0 ∈ ng) {F : Nat} {fn : Func} {body : Code} (hfn : P.funcs[F]? = some fn) (hname : (fn.name == "runtime.NumGoroutine") = false) (hb : fn.body = some body)
    (hin : ∀ (k ow un se sc n to t1 t2 t3 t4 nw u : Int) (w : World), ¬ k < 1 → ¬ 12 < k → w.cell? ⟨0, k.toNat, none⟩ = some (.int .i64 u) →
      Calls P F #[.agg (opArr k ow un se sc n to t1 t2 t3 t4 nw)] w fun e w' => e = .returned (.int .i64 (errOp ow un se sc n to t1 t2 t3 t4 nw u)) ∧ Quiet w w')
    (hout : ∀ (k ow un se sc n to t1 t2 t3 t4 nw : Int) (w : World), (k < 1 ∨ 12 < k) →
      Calls P F #[.agg (opArr k ow un se sc n to t1 t2 t3 t4 nw)] w fun e w' => e = .returned (.int .i64 2) ∧ Quiet w w') : CalleeOK P ng (chk F) := by
  intro f args W v W' h σ w f' args' hW hG hf hargs
  unfold chk at h
  split at h
  case h_2 => cases h
  rename_i g fs cs
  split at h
  case h_2 => cases h
  rename_i hgf
  simp only [Bool.and_eq_true, Nat.beq_eq, Array.isEmpty_iff] at hgf
  obtain ⟨rfl, rfl, rfl⟩ := hgf
  split at h
  case h_2 => cases h
  rename_i c
  split at h
  case h_2 => cases h
  rename_i v1 hv1
  injection h with h
  injection h with h1 h2
  subst h1; subst h2
  obtain ⟨fn', fs', cs', hfr, hfs, hcs, rfl⟩ := hf.func_inv
  cases hfr
  obtain rfl : fs' = #[] := by
    have h1 : fs'.toList.length = 0 := hfs.1.symm
    exact Array.toList_eq_nil_iff.1 (List.length_eq_zero_iff.1 h1)
  obtain rfl : cs' = #[] := by
    have h1 : cs'.toList.length = 0 := hcs.1.symm
    exact Array.toList_eq_nil_iff.1 (List.length_eq_zero_iff.1 h1)
  obtain ⟨a0, rfl⟩ : ∃ a0, args' = [a0] := by
    have := hargs.1
    match args', this with
    | [a0], _ => exact ⟨a0, rfl⟩
  unfold chkArgs at hv1
  split at hv1
  case h_2 => cases hv1
  rename_i k ow un se sc n to t1 t2 t3 t4 nw hc
  have hc' : c = opArr k ow un se sc n to t1 t2 t3 t4 nw := by
    apply Array.ext'
    rw [hc]; rfl
  subst hc'
  have ha : a0 = .agg (opArr k ow un se sc n to t1 t2 t3 t4 nw) := plain_eq (v := .agg (opArr k ow un se sc n to t1 t2 t3 t4 nw)) rfl (hargs.2 0 _ _ rfl rfl)
  subst ha
  have fin : ∀ z : Int, (Calls P g #[.agg (opArr k ow un se sc n to t1 t2 t3 t4 nw)] w fun e w' => e = .returned (.int .i64 z) ∧ Quiet w w') →
      CallV P (.func (.func g) #[] #[]) [.agg (opArr k ow un se sc n to t1 t2 t3 t4 nw)] w (fun v' w' => ∃ σ', VR σ' (.int .i64 z) v' ∧ WRel σ' W w'.heap ∧ Ext σ W w σ' W w') := by
    intro z hz
    refine ⟨run_callFunc_enter' hfn hname hb _ w, ?_⟩
    refine CallsIn.mono (show CallsIn Fence.wide 0 P g _ w _ from (callsIn_wide (n := 0)).2 hz) ?_
    rintro e w' ⟨rfl, hq⟩
    exact ⟨_, rfl, σ, .int _ _, hq.rel hW, hq.ext σ W⟩
  split at hv1
  · rename_i hk
    injection hv1 with hv1
    subst hv1
    exact fin _ (hout _ _ _ _ _ _ _ _ _ _ _ _ w (by simpa using hk))
  · rename_i hk
    simp only [Bool.or_eq_false_iff, decide_eq_false_iff_not] at hk
    split at hv1
    case h_2 => cases hv1
    rename_i us hus
    split at hv1
    case h_2 => cases hv1
    rename_i u hu
    injection hv1 with hv1
    subst hv1
    obtain ⟨e, he⟩ := hG 0 h0
    obtain ⟨cc, t, fr, k1, _, k3⟩ := hW.obj 0 _ _ hus he
    have hcell : w.cell? ⟨0, k.toNat, none⟩ = some (.int .i64 u) := by
      obtain ⟨v', this, hv'⟩ := k3 _ _ hu
      obtain rfl := hv'.int_inv
      simp only [Nat.zero_add] at this
      simp [World.cell?, k1, this]
    exact fin _ (hin _ _ _ _ _ _ _ _ _ _ _ _ _ w hk.1 hk.2 hcell)

theorem quiet_ofG {gs : List (Nat × List Value)} {N : Nat} {σ' : Inj} {W' : AW} {w w' : World} (he : Ext (σG gs) (WG gs N) w σ' W' w') : Quiet w w' :=
  ⟨he.os, he.tape, he.output, he.size, fun B hB => he.keep B hB mut_G⟩
theorem closed_quiet {P : Program} (hm : P.follows .mixedOrders = true) {bad : List Nat} (hP : funsOk PlanTab.ng bad 0 P.funcs.toList = true) {spec : Callee} (hs : CalleeOK P PlanTab.ng spec) (n : Nat)
    {gs : List (Nat × List Value)} {N : Nat} (hN : gs.all (fun x => Nat.blt x.1 N) = true) (hng : PlanTab.ng.all (fun g => (gs.find? (fun x => x.1 == g)).isSome) = true) {i : Nat} {args : List Value} (hpl : args.all plain = true)
    (h : okTrue (aCallF P bad spec n (.func (.func i) #[] #[]) args (WG gs N)) = true) (w : World) (hl : LaidG gs w.heap) :
    Calls P i args.toArray w fun e w' => e = .returned (.bool true) ∧ Quiet w w' := by
  obtain ⟨W', hr⟩ := okTrue_eq h
  have hc := callee_ok hm rfl hP hs n _ _ _ _ _ hr (σG gs) w (.func (.func i) #[] #[]) args (rel_G hN hl) (glob_G hng)
    (.func _ _ _ _ _ _ (.func i) rfl (fun i v v' x => by simp at x) rfl (fun i v v' x => by simp at x)) (plains_rel hpl)
  unfold CallV at hc
  obtain ⟨_, hc⟩ := hc
  have e1 : (#[] : Array Value) ++ args.toArray ++ #[] = args.toArray := by simp
  rw [e1] at hc
  refine (callsIn_wide (n := 0)).1 ?_
  refine CallsIn.mono (show CallsIn Fence.wide 0 P i args.toArray w _ from hc) ?_
  rintro e w' ⟨v, rfl, σ', hv, _, he⟩
  exact ⟨by rw [hv.bool_inv], quiet_ofG he⟩
theorem funsOk_more {ng bad : List Nat} {F : Nat} : ∀ {l : List Func} {i : Nat}, funsOk ng bad i l = true → funsOk ng (F :: bad) i l = true
  | [], _, _ => rfl
  | f :: l, i, h => by
    simp only [funsOk, Bool.and_eq_true, Bool.or_eq_true] at h ⊢
    refine ⟨?_, funsOk_more h.2⟩
    rcases h.1 with h1 | h1
    · exact .inl (inL_iff.2 (List.mem_cons_of_mem _ (inL_iff.1 h1)))
    · exact .inr h1
noncomputable def memo (F : Nat) (names : List ByteArray) (s : Callee) : Callee := fun f args W => match f with
  | .func (.func g) fs cs => (match Nat.beq g F && (fs.isEmpty && cs.isEmpty) with
    | true => (match args with
      | [.string b] => (match names.any (bytesEq b) with
        | true => (match W.get 0 with
          | some (.ro _) => some (.bool true, W)
          | _ => none)
        | false => none)
      | _ => none)
    | false => s (.func (.func g) fs cs) args W)
  | _ => none
theorem memo_ok {P : Program} {ng : List Nat} (h0 : 0 ∈ ng) {F : Nat} {fn : Func} {body : Code} (hfn : P.funcs[F]? = some fn) (hname : (fn.name == "runtime.NumGoroutine") = false) (hb : fn.body = some body) {names : List ByteArray} {s : Callee} (hs : CalleeOK P ng s)
    (hall : ∀ b ∈ names, ∀ w : World, LaidG [(0, [])] w.heap → Calls P F #[.string b] w fun e w' => e = .returned (.bool true) ∧ Quiet w w') : CalleeOK P ng (memo F names s) := by
  intro f args W v W' h σ w f' args' hW hG hf hargs
  unfold memo at h
  split at h
  case h_2 => cases h
  rename_i g fs cs
  split at h
  case h_2 => exact hs _ _ _ _ _ h σ w f' args' hW hG hf hargs
  rename_i hgf
  simp only [Bool.and_eq_true, Nat.beq_eq, Array.isEmpty_iff] at hgf
  obtain ⟨rfl, rfl, rfl⟩ := hgf
  split at h
  case h_2 => cases h
  rename_i b
  split at h
  case h_2 => cases h
  rename_i hbn
  split at h
  case h_2 => cases h
  rename_i us hus
  injection h with h
  injection h with h1 h2
  subst h1; subst h2
  obtain ⟨fn', fs', cs', hfr, hfs, hcs, rfl⟩ := hf.func_inv
  cases hfr
  obtain rfl : fs' = #[] := by
    have h1 : fs'.toList.length = 0 := hfs.1.symm
    exact Array.toList_eq_nil_iff.1 (List.length_eq_zero_iff.1 h1)
  obtain rfl : cs' = #[] := by
    have h1 : cs'.toList.length = 0 := hcs.1.symm
    exact Array.toList_eq_nil_iff.1 (List.length_eq_zero_iff.1 h1)
  obtain ⟨a0, rfl⟩ : ∃ a0, args' = [a0] := by
    have := hargs.1
    match args', this with
    | [a0], _ => exact ⟨a0, rfl⟩
  have ha : a0 = .string b := VR.string_inv (hargs.2 0 _ _ rfl rfl)
  subst ha
  obtain ⟨e, he⟩ := hG 0 h0
  obtain ⟨cc, t, fr, k1, _, _⟩ := hW.obj 0 _ _ hus he
  obtain ⟨b', hb', hbb⟩ := List.any_eq_true.1 hbn
  have := bytesEq_eq hbb
  subst this
  have hl : LaidG [(0, [])] w.heap := fun x hx => by
    obtain rfl : x = (0, []) := by simpa using hx
    exact ⟨cc, t, fr, k1, fun i v hv => by simp at hv⟩
  refine ⟨run_callFunc_enter' hfn hname hb _ w, ?_⟩
  refine CallsIn.mono (show CallsIn Fence.wide 0 P g _ w _ from (callsIn_wide (n := 0)).2 (hall _ hb' w hl)) ?_
  rintro e w' ⟨rfl, hq⟩
  exact ⟨_, rfl, σ, .bool _, hq.rel hW, hq.ext σ W⟩
end
section
variable [PlanTab]

noncomputable def specL : List (Nat × Callee) → Callee
  | [] => fun _ _ _ => none
  | (F, c) :: l => fun f args W => match f with
    | .func (.func g) fs cs => (match Nat.beq g F with
      | true => c (.func (.func g) fs cs) args W
      | false => specL l (.func (.func g) fs cs) args W)
    | _ => none
theorem specL_ok {P : Program} {ng : List Nat} : ∀ {l : List (Nat × Callee)}, (∀ x ∈ l, CalleeOK P ng x.2) → CalleeOK P ng (specL l)
  | [], _ => fun f args W v W' h => by cases h
  | (F, c) :: l, hl => by
    intro f args W v W' h
    unfold specL at h
    split at h
    case h_2 => cases h
    split at h
    · exact hl (F, c) (by simp) _ _ _ _ _ h
    · exact specL_ok (fun x hx => hl x (by simp [hx])) _ _ _ _ _ h
end
end Go.Eng
namespace Go.Eng
open Go Go.RowKit Go.Sort
section
variable [PlanTab]
end
end Go.Eng
namespace Go.Eng
open Go
section
variable [PlanTab]
section
variable {P : Program} {W : AW} {α : Type}
end
end
end Go.Eng
namespace Go.Eng
open Go Go.RowKit
section
variable [PlanTab]

section
variable {H : Type} {enc : TypeId × Value → H} {P : Program} {w : World}
end
end
end Go.Eng
namespace Go.Eng
open Go Go.RowKit Go.ChangeShapes Go.WideShapes
section
variable [PlanTab]
section
variable {P : Program} {W : AW} {α : Type}
end
section
variable {H : Type} {enc : TypeId × Value → H} {P : Program} {w w' : World} {base : Nat} {spare : Nat → Bool} {held : Bool}
theorem Quiet.same {p : MemPlace} (hq : Quiet w w') (hp : p.block < w.heap.size) : w.sameAt w' p := by
  cases p with
  | cell b off => exact World.cell?_of_block (a := ⟨b, off, none⟩) (hq.block b hp)
  | map b => exact hq.block b hp
theorem Quiet.trodAll (hq : Quiet w w') : ∀ {ts : List TypeId} {vs : List Value} {ds : List (DataW H)} {ps : List MemPlace}, DataW.TrodAll enc P w base spare held ts vs ds ps → DataW.TrodAll enc P w' base spare held ts vs ds ps
  | [], [], [], _, h => h
  | _ :: _, _ :: _, _ :: _, _, ⟨p, q, ⟨n, h1⟩, h2, e⟩ => ⟨p, q, ⟨n, DataW.trod_carry n _ _ _ h1 (fun x hx => hq.same (DataW.trod_lt n _ _ _ h1 x hx))⟩, hq.trodAll h2, e⟩
theorem post_true {f : Func} {s : ChangeSpec} {args : Array Value} {ds gs : List (DataW H)} {before : List MemPlace} {T : TypeId → Prop} (K : Kids P T) (hz : ∀ t e, T t → P.underlying t = some (.slice e) → 0 < P.cellsOf e) (hT : ∀ t ∈ f.params.toList, T t)
    (hW : DataW.Whole enc P f.params.toList s.vars false w args.toList ds gs before) (hq : Quiet w w') (hv : s.vars = []) (hfn : s.fn H ds = { results := [.lit (.bool true)], args := ds }) {t : TypeId} (hr : f.resultTypes = #[t]) (ht : P.underlying t = some .bool) :
    s.post enc P f false true false false w args (.bool true) w' := by
  have hW' := hW
  obtain ⟨p, q, hA, hV, rfl, _, _⟩ := hW
  rw [hv] at hV
  obtain ⟨rfl, rfl⟩ := trodVars_none hV
  have hlt := hA.lt
  refine ⟨ds, [], p ++ [], [], p, [], hW', ?_, ?_, ?_, hq.grown.frame _, fun h => by cases h⟩
  · rw [hr, List.append_nil, hfn]
    exact trodAll_cons_mk (shut_bool ht _) trodAll_mk0
  · rw [List.append_nil, hfn]
    exact hq.trodAll (hA.respare K hz hT (fun x hx => by simpa using hlt x hx))
  · rw [hv, List.append_nil, hfn]
    exact rfl
end
end
end Go.Eng
namespace Go.Eng
open Go
@[reducible] noncomputable def trieTab (D : Nat → Array Oper → Option (List (Nat × List Nat))) (ng : List Nat) (ex : TypeId → Bool := fun _ => false) : PlanTab where
  D := D
  ex := ex
  ng := ng
  Fr := T Value
  fget := fun R t => (T.get (path t) R).getD undef
  fset := fun R t v => T.set (some v) (path t) R
  blank := .lf
  get_set := fun R t v => by rw [T.get_set]; rfl
  get_set_ne := fun R t u v h => by rw [T.get_set_ne _ _ _ _ (path_ne h)]
  get_blank := fun t => by rw [T.get_lf]; rfl
end Go.Eng
