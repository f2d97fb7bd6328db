/- Operations told by values, and their laws. -/
import Derived.Test.YtnigceddndemkaaGreatDoorEngB
import Derived.RowKit
import Derived.Sort.Grow
import Derived.ChangeArms
import Derived.ReadAgain
import Derived.OpenShut
import Derived.RowKit3
import Derived.Lib.Join
import Derived.Lib.Builder
import Derived.Below
namespace Go.Eng
open Go
set_option linter.unusedSectionVars false
set_option linter.unusedSimpArgs false
set_option linter.unusedVariables false
variable [PlanTab]

noncomputable def pureS (P : Program) (ok : Bool) (s : Sem Next) : Option Value :=
  if ok then match nextVal (pureRun P s) with
    | some v => if plain v then some v else none
    | none => none
  else none
noncomputable def oMv (v : Value) (W : AW) : Option (Value × AW) := some (v, W)
noncomputable def oPick (c a b : Value) (W : AW) : Option (Value × AW) := match c with
  | .bool true => some (a, W)
  | .bool false => some (b, W)
  | _ => none
noncomputable def oAlloc (P : Program) (t : TypeId) (W : AW) : Option (Value × AW) := match tZero P t with
  | some z => some (.pointer (some ⟨W.next, 0, none⟩), W.add (rowObj t z.cells.toList))
  | none => none
noncomputable def oBox (x : Value) (W : AW) : Option (Value × AW) := some (.pointer (some ⟨W.next, 0, none⟩), W.add (.cells x.cells.toList))
noncomputable def buildV (P : Program) (t : TypeId) (vs : List (Nat × Value)) : Option Value :=
  match tZero P t, P.underlying t with
  | some z, some (.struct fs) => match placesOf P fs.toList with
    | some pl => (fillQ (pl.toArray[·]?) z.cells vs).map .agg
    | none => none
  | some z, some (.array _ e) => match tSz P e with
    | some n => (fillQ (fun i => some (i * n, n)) z.cells vs).map .agg
    | none => none
  | _, _ => none
noncomputable def oBuild (P : Program) (t : TypeId) (vs : List (Nat × Value)) (W : AW) : Option (Value × AW) := (buildV P t vs).map fun v => (v, W)
noncomputable def oBuildSlice (P : Program) (t : TypeId) (len : Nat) (vs : List (Nat × Value)) (W : AW) : Option (Value × AW) :=
  match P.underlying t with
  | some (.slice e) => match tSz P e, tZero P e with
    | some n, some z =>
      if len * n ≤ 16777216 ∧ len < BIG ∧ (Nat.beq z.cells.size n && z.cells.toList.all scalar) = true then
        match fillQ (fun i => some (i * n, n)) (rowL z.cells.toList len).toArray vs with
        | some c => some (Value.slice (some ⟨W.next, 0, none⟩) len len, W.add (.cells c.toList))
        | none => none
      else none
    | _, _ => none
  | _ => none
noncomputable def oLoad (P : Program) (t : TypeId) (a : Value) (W : AW) : Option (Value × AW) := (aLoad P W t a).map fun v => (v, W)
noncomputable def writeC (W : AW) (b off : Nat) (vs : List Value) : Option AW := match W.get b with
  | some (.cells cs) => (match lwrite cs off vs with
    | some l => some (W.put b (.cells l))
    | none => none)
  | _ => none
theorem writeC_def (W : AW) (b off : Nat) (vs : List Value) : writeC W b off vs = match W.get b with
    | some (.cells cs) => if off + vs.length ≤ cs.length ∧ vs.all one = true then some (W.put b (.cells (setN cs off vs))) else none
    | _ => none := by
  unfold writeC
  split
  · rename_i cs hcs
    rw [lwrite_eq]
    by_cases h : off + vs.length ≤ cs.length ∧ vs.all one = true
    · rw [if_pos h, if_pos h]
    · rw [if_neg h, if_neg h]
  · rfl
theorem writeC_le {W W' : AW} {b off : Nat} {vs : List Value} (h : writeC W b off vs = some W') : writeN W b off vs = some W' := by
  unfold writeC at h
  unfold writeN
  split at h
  · rename_i cs hcs
    rw [hcs]; exact h
  · cases h
noncomputable def aStoreC (P : Program) (W : AW) (t : TypeId) (x v : Value) : Option AW :=
  match x with
  | .pointer (some a) => match tSz P t with
    | some n => if v.cells.size = n then writeC W a.block a.off v.cells.toList else none
    | none => none
  | _ => none
theorem aStoreC_le {P : Program} {W W' : AW} {t : TypeId} {x v : Value} (h : aStoreC P W t x v = some W') : aStore P W t x v = some W' := by
  unfold aStoreC at h
  unfold aStore
  split at h
  · split at h
    · rename_i n hn
      simp only [hn]
      split at h
      · rename_i hc
        rw [if_pos hc]
        exact writeC_le h
      · cases h
    · cases h
  · cases h
noncomputable def oStore (P : Program) (t : TypeId) (a x : Value) (W : AW) : Option (Value × AW) := (aStoreC P W t a x).map fun W' => (undef, W')
noncomputable def oNilCheck (x : Value) (W : AW) : Option (Value × AW) := match x with
  | .pointer (some a) => some (.pointer (some a), W)
  | .func (.func f) a b => some (.func (.func f) a b, W)
  | .func (.yield l) a b => some (.func (.yield l) a b, W)
  | .iface t v => some (.iface t v, W)
  | _ => none
def opd : Bool → Operand
  | true => .const undef
  | false => .tmp 0
noncomputable def isConst : Operand → Bool := Operand.rec (fun _ => false) (fun _ => true) (fun _ => false) (fun _ => false)
theorem eqGuard_const (op : BinOp) (t : TypeId) (x y : Operand) (a b : Value) : eqGuard op t x y a b = eqGuard op t (opd (isConst x)) (opd (isConst y)) a b := by
  cases x <;> cases y <;> rfl
noncomputable def oBin (P : Program) (op : BinOp) (t : TypeId) (a b : Bool) (vx vy : Value) (W : AW) : Option (Value × AW) :=
  match aBin P W op t vx vy with
  | some v => some (v, W)
  | none => (pureS P (plain vx && (plain vy && true)) (do pure (.value (← (do eqGuard op t (opd a) (opd b) vx vy; binOp op t vx vy))))).map fun v => (v, W)
noncomputable def oUn (P : Program) (op : UnOp) (x : Value) (W : AW) : Option (Value × AW) :=
  (pureS P (plain x && true) (do pure (.value (← Op.unary op x)))).map fun v => (v, W)
noncomputable def oConv (P : Program) (s d : TypeId) (x : Value) (W : AW) : Option (Value × AW) :=
  (aConv P W s d x (pureS P (plain x && true) (do pure (.value (← convert s d x))))).map fun v => (v, W)
noncomputable def oMkIface (P : Program) (t : TypeId) (x : Value) (W : AW) : Option (Value × AW) := match P.underlying t with
  | some (.interface _) => none
  | some _ => some (.iface t x, W)
  | none => none
noncomputable def oMkFunc (fn : Fn) (first captured : Array Value) (W : AW) : Option (Value × AW) := match fn with
  | .func f => some (.func (.func f) first captured, W)
  | _ => none
noncomputable def oMkMap (P : Program) (t : TypeId) (r : Option Value) (W : AW) : Option (Value × AW) := match r with
  | none => some (Value.map (some W.next), W.add (.map [] 0))
  | some h => match P.underlying t, h with
    | some (.map _ _), .int _ _ => some (Value.map (some W.next), W.add (.map [] 0))
    | _, _ => none
noncomputable def oMkSlice (P : Program) (t : TypeId) (l c : Value) (W : AW) : Option (Value × AW) :=
  match P.underlying t with
  | some (.slice e) => match tSz P e, tZero P e, (P.info? e).map (·.bytes), l, c with
    | some n, some z, some bytes, .int _ (.ofNat l), .int _ (.ofNat c) =>
      if l ≤ c ∧ c < 9223372036854775808 ∧ c * bytes ≤ 281474976710656 ∧ (rowOf z (c * n)).toList.all scalar = true then
        some (Value.slice (some ⟨W.next, 0, none⟩) l c, W.add (.cells (rowOf z (c * n)).toList))
      else none
    | _, _, _, _, _ => none
  | _ => none
noncomputable def oSlice (P : Program) (t : TypeId) (x : Value) (lo hi mx : Option Value) (W : AW) : Option (Value × AW) :=
  match aSlice P t x lo hi mx with
  | some v => some (v, W)
  | none => (pureS P ((x :: (lo.toList ++ (hi.toList ++ mx.toList))).all plain) (do pure (.value (← Instr.sliceAt t x lo hi mx)))).map fun v => (v, W)
noncomputable def oFieldAddr (P : Program) (s : TypeId) (x : Value) (f : Nat) (W : AW) : Option (Value × AW) := match P.underlying s, x with
  | some (.struct fs), .pointer (some a) => match fs[f]? with
    | some fl => match tSz P fl.type with
      | some (_ + 1) => some (.pointer (some (a.add fl.offset)), W)
      | _ => none
    | none => none
  | _, _ => none
noncomputable def oField (P : Program) (t : TypeId) (x : Value) (f : Nat) (W : AW) : Option (Value × AW) := match P.underlying t, x with
  | some (.struct fs), .agg cs => match fs[f]? with
    | some fl => (aPart P fl.type cs fl.offset).map fun v => (v, W)
    | none => none
  | _, _ => none
noncomputable def oIndexAddr (P : Program) (t : TypeId) (x i : Value) (W : AW) : Option (Value × AW) := match P.underlying t, x, natOf i with
  | some (.slice e), .slice (some a) len _, some n => match tSz P e with
    | some z => if n < len then some (.pointer (some (a.add (n * z))), W) else none
    | none => none
  | some (.array len e), .pointer (some a), some n => match tSz P e with
    | some z => if n < len then some (.pointer (some (a.add (n * z))), W) else none
    | none => none
  | _, _, _ => none
noncomputable def oIndex (P : Program) (t : TypeId) (x i : Value) (W : AW) : Option (Value × AW) := match P.underlying t, x, natOf i with
  | some (.array len e), .agg cs, some n => match tSz P e with
    | some z => if n < len then (aPart P e cs (n * z)).map fun v => (v, W) else none
    | none => none
  | _, _, _ => (pureS P (plain x && (plain i && true)) (do pure (.value (← Instr.index t x i)))).map fun v => (v, W)
noncomputable def oLookup (P : Program) (t : TypeId) (m k : Value) (ok : Bool) (W : AW) : Option (Value × AW) := (aLookup P W t m k ok).map fun v => (v, W)
noncomputable def oMapUpdate (P : Program) (t : TypeId) (m k v : Value) (W : AW) : Option (Value × AW) := (aMapUpdate P W t m k v).map fun W' => (undef, W')
noncomputable def oExtract (x : Value) (i : Nat) (W : AW) : Option (Value × AW) := match x with
  | .tuple vs => (vs[i]?).map fun v => (v, W)
  | _ => none
noncomputable def oAssert (P : Program) (x : Value) (t : TypeId) (ok : Bool) (W : AW) : Option (Value × AW) := match P.underlying t, x with
  | some (.interface _), _ => none
  | some _, .iface u v => if u = t then some (if ok then .tuple #[v, .bool true] else v, W) else none
  | _, _ => none
noncomputable def oRangeStr (P : Program) (t : TypeId) (x : Value) (W : AW) : Option (Value × AW) := match P.underlying t, x with
  | some .string, .string s => some (Value.pointer (some ⟨W.next, 0, none⟩), W.add (.siter s 0))
  | _, _ => none
noncomputable def oNextStr (it : Value) (W : AW) : Option (Value × AW) := match it with
  | .pointer (some ⟨b, 0, _⟩) => match W.get b with
    | some (.siter s pos) => if pos < s.size then some (.tuple #[.bool true, goInt pos, .int .i32 (Utf8.decode s pos).1], W.put b (.siter s (pos + (Utf8.decode s pos).2))) else some (.tuple #[.bool false], W)
    | _ => none
  | _ => none
noncomputable def oBuiltin (P : Program) (b : Builtin) (ts : Array TypeId) (ty : TypeId) (cf : Array Bool) (args : List Value) (W : AW) : Option (Value × AW) :=
  match b, args with
  | .len, [.slice _ n _] => match (ts[0]?).bind P.underlying with
    | some (.slice _) => some (goInt n, W)
    | _ => none
  | .len, [.map none] => match (ts[0]?).bind P.underlying with
    | some (.map _ _) => some (goInt 0, W)
    | _ => none
  | .len, [.map (some r)] => match (ts[0]?).bind P.underlying, W.get r with
    | some (.map _ _), some (.map es _) => some (goInt es.length, W)
    | _, _ => none
  | .append, [s, x] => aAppend2 P W ts s x
  | .copy, [d, x] => aCopy P W ts d x
  | .clear, [x] => (aClear P W ts x).map fun W' => (.tuple #[], W')
  | .delete, [m, k] => (aDelete P W ts m k).map fun W' => (.tuple #[], W')
  | .unsafeSliceData, [x] => (aSliceData x).map fun v => (v, W)
  | .unsafeString, [p, n] => aUnsafeString P W ts p n
  | _, _ => (pureS P (args.all plain) (builtin b ts ty cf args.toArray)).map fun v => (v, W)
noncomputable def oInvoke (P : Program) (call : Callee) (r : Value) (name : String) (args : List Value) (W : AW) : Option (Value × AW) := match r with
  | .iface t v => match methodOf P t name with
    | some f => call (.func (.func f) #[] #[]) (v :: args) W
    | none => none
  | _ => none

noncomputable def kMove (x : Operand) (P : Program) (call : Callee) (o : Oper) (R : PlanTab.Fr) (W : AW) : Option (Value × AW) := oMv (aEval R x) W
noncomputable def kPick (c a b : Operand) (P : Program) (call : Callee) (o : Oper) (R : PlanTab.Fr) (W : AW) : Option (Value × AW) := oPick (aEval R c) (aEval R a) (aEval R b) W
noncomputable def kAlloc (t : TypeId) (P : Program) (call : Callee) (o : Oper) (R : PlanTab.Fr) (W : AW) : Option (Value × AW) := oAlloc P t W
noncomputable def kBox (t : TypeId) (x : Operand) (P : Program) (call : Callee) (o : Oper) (R : PlanTab.Fr) (W : AW) : Option (Value × AW) := oBox (aEval R x) W
noncomputable def kBuild (t : TypeId) (ps : Array (Nat × Operand)) (P : Program) (call : Callee) (o : Oper) (R : PlanTab.Fr) (W : AW) : Option (Value × AW) := oBuild P t (parts R ps) W
noncomputable def kBuildSlice (t : TypeId) (n : Nat) (ps : Array (Nat × Operand)) (P : Program) (call : Callee) (o : Oper) (R : PlanTab.Fr) (W : AW) : Option (Value × AW) := oBuildSlice P t n (parts R ps) W
noncomputable def kInsert (_t : TypeId) (_m _k _v : Operand) (P : Program) (call : Callee) (o : Oper) (R : PlanTab.Fr) (W : AW) : Option (Value × AW) := none
noncomputable def kLoad (t : TypeId) (a : Operand) (P : Program) (call : Callee) (o : Oper) (R : PlanTab.Fr) (W : AW) : Option (Value × AW) := oLoad P t (aEval R a) W
noncomputable def kStore (t : TypeId) (a x : Operand) (P : Program) (call : Callee) (o : Oper) (R : PlanTab.Fr) (W : AW) : Option (Value × AW) := oStore P t (aEval R a) (aEval R x) W
noncomputable def kNat (_g : Nat) (P : Program) (call : Callee) (o : Oper) (R : PlanTab.Fr) (W : AW) : Option (Value × AW) := none
noncomputable def kNilCheck (x : Operand) (P : Program) (call : Callee) (o : Oper) (R : PlanTab.Fr) (W : AW) : Option (Value × AW) := oNilCheck (aEval R x) W
noncomputable def kBinOp (op : BinOp) (t : TypeId) (x y : Operand) (yt : TypeId) (P : Program) (call : Callee) (o : Oper) (R : PlanTab.Fr) (W : AW) : Option (Value × AW) := oBin P op t (isConst x) (isConst y) (aEval R x) (aEval R y) W
noncomputable def kUnOp (op : UnOp) (t : TypeId) (x : Operand) (P : Program) (call : Callee) (o : Oper) (R : PlanTab.Fr) (W : AW) : Option (Value × AW) := oUn P op (aEval R x) W
noncomputable def kConvert (s d : TypeId) (x : Operand) (P : Program) (call : Callee) (o : Oper) (R : PlanTab.Fr) (W : AW) : Option (Value × AW) := oConv P s d (aEval R x) W
noncomputable def kTO (_d : TypeId) (_x : Operand) (P : Program) (call : Callee) (o : Oper) (R : PlanTab.Fr) (W : AW) : Option (Value × AW) := none
noncomputable def kMakeInterface (t : TypeId) (x : Operand) (P : Program) (call : Callee) (o : Oper) (R : PlanTab.Fr) (W : AW) : Option (Value × AW) := oMkIface P t (aEval R x) W
noncomputable def kMakeFunc (fn : Fn) (first captured : Array Operand) (P : Program) (call : Callee) (o : Oper) (R : PlanTab.Fr) (W : AW) : Option (Value × AW) := oMkFunc fn (first.map (aEval R)) (captured.map (aEval R)) W
noncomputable def kMakeMap (t : TypeId) (r : Option Operand) (P : Program) (call : Callee) (o : Oper) (R : PlanTab.Fr) (W : AW) : Option (Value × AW) := oMkMap P t (r.map (aEval R)) W
noncomputable def kMakeSlice (t : TypeId) (l c : Operand) (P : Program) (call : Callee) (o : Oper) (R : PlanTab.Fr) (W : AW) : Option (Value × AW) := oMkSlice P t (aEval R l) (aEval R c) W
noncomputable def kSlice (t : TypeId) (x : Operand) (lo hi mx : Option Operand) (P : Program) (call : Callee) (o : Oper) (R : PlanTab.Fr) (W : AW) : Option (Value × AW) := oSlice P t (aEval R x) (lo.map (aEval R)) (hi.map (aEval R)) (mx.map (aEval R)) W
noncomputable def kFieldAddr (s : TypeId) (x : Operand) (f : Nat) (P : Program) (call : Callee) (o : Oper) (R : PlanTab.Fr) (W : AW) : Option (Value × AW) := oFieldAddr P s (aEval R x) f W
noncomputable def kField (t : TypeId) (x : Operand) (f : Nat) (P : Program) (call : Callee) (o : Oper) (R : PlanTab.Fr) (W : AW) : Option (Value × AW) := oField P t (aEval R x) f W
noncomputable def kIndexAddr (t : TypeId) (x i : Operand) (P : Program) (call : Callee) (o : Oper) (R : PlanTab.Fr) (W : AW) : Option (Value × AW) := oIndexAddr P t (aEval R x) (aEval R i) W
noncomputable def kIndex (t : TypeId) (x i : Operand) (P : Program) (call : Callee) (o : Oper) (R : PlanTab.Fr) (W : AW) : Option (Value × AW) := oIndex P t (aEval R x) (aEval R i) W
noncomputable def kLookup (t : TypeId) (m k : Operand) (ok : Bool) (P : Program) (call : Callee) (o : Oper) (R : PlanTab.Fr) (W : AW) : Option (Value × AW) := oLookup P t (aEval R m) (aEval R k) ok W
noncomputable def kMapUpdate (t : TypeId) (m k v : Operand) (P : Program) (call : Callee) (o : Oper) (R : PlanTab.Fr) (W : AW) : Option (Value × AW) := oMapUpdate P t (aEval R m) (aEval R k) (aEval R v) W
noncomputable def kTOO (_t : TypeId) (_m _k : Operand) (P : Program) (call : Callee) (o : Oper) (R : PlanTab.Fr) (W : AW) : Option (Value × AW) := none
noncomputable def kTOOO (_t : TypeId) (_m _s _v : Operand) (P : Program) (call : Callee) (o : Oper) (R : PlanTab.Fr) (W : AW) : Option (Value × AW) := none
noncomputable def kRange (t : TypeId) (x : Operand) (P : Program) (call : Callee) (o : Oper) (R : PlanTab.Fr) (W : AW) : Option (Value × AW) := oRangeStr P t (aEval R x) W
noncomputable def kNext (it : Operand) (s : Bool) (P : Program) (call : Callee) (o : Oper) (R : PlanTab.Fr) (W : AW) : Option (Value × AW) := match s with
  | true => oNextStr (aEval R it) W
  | false => none
noncomputable def kO (_it : Operand) (P : Program) (call : Callee) (o : Oper) (R : PlanTab.Fr) (W : AW) : Option (Value × AW) := none
noncomputable def kTypeAssert (x : Operand) (_t a : TypeId) (ok : Bool) (P : Program) (call : Callee) (o : Oper) (R : PlanTab.Fr) (W : AW) : Option (Value × AW) := oAssert P (aEval R x) a ok W
noncomputable def kExtract (x : Operand) (i : Nat) (P : Program) (call : Callee) (o : Oper) (R : PlanTab.Fr) (W : AW) : Option (Value × AW) := oExtract (aEval R x) i W
noncomputable def kCall (c : Call) (P : Program) (call : Callee) (o : Oper) (R : PlanTab.Fr) (W : AW) : Option (Value × AW) :=
  match c.callee with
  | .builtin b => oBuiltin P b c.argTypes o.type (c.args.map isConst) (c.args.toList.map (aEval R)) W
  | .value f => call (aEval R f) (c.args.toList.map (aEval R)) W
  | .invoke r name => oInvoke P call (aEval R r) name (c.args.toList.map (aEval R)) W
noncomputable def kC (_c : Call) (P : Program) (call : Callee) (o : Oper) (R : PlanTab.Fr) (W : AW) : Option (Value × AW) := none
noncomputable def kOO (_c _x : Operand) (P : Program) (call : Callee) (o : Oper) (R : PlanTab.Fr) (W : AW) : Option (Value × AW) := none
noncomputable def kRecv (_t : TypeId) (_c : Operand) (_ok : Bool) (P : Program) (call : Callee) (o : Oper) (R : PlanTab.Fr) (W : AW) : Option (Value × AW) := none
noncomputable def kSelect (_cs : Array SelectCase) (_bl : Bool) (P : Program) (call : Callee) (o : Oper) (R : PlanTab.Fr) (W : AW) : Option (Value × AW) := none
noncomputable def kOpF : Op → Program → Callee → Oper → PlanTab.Fr → AW → Option (Value × AW) :=
  Op.rec (motive := fun _ => Program → Callee → Oper → PlanTab.Fr → AW → Option (Value × AW)) kMove kMove kPick kAlloc kBox kBuild kBuildSlice kInsert kLoad kStore kNat kNat kNilCheck kBinOp kUnOp kConvert kTO kMakeInterface kMakeFunc kMakeMap kTO kMakeSlice kSlice kFieldAddr kField kIndexAddr kIndex kLookup kMapUpdate kTOO kTOOO kRange kNext kO kTypeAssert kExtract kCall kC kC kO kOO kRecv kSelect
noncomputable def kOp (P : Program) (call : Callee) (o : Oper) (R : PlanTab.Fr) (W : AW) : Option (Value × AW) := kOpF o.op P call o R W

theorem aPure_S {P : Program} {R : PlanTab.Fr} {o : Oper} (hs : notSelect o.op = true) : aPure P R o = pureS P (o.op.operands.toList.all fun x => plain (aEval R x)) (execOp (aEval R) o) := by
  unfold aPure pureS
  rw [hs, Bool.true_and]
  rfl
theorem all_map {α β : Type} (f : α → β) (p : β → Bool) (l : List α) : (l.map f).all p = l.all fun x => p (f x) := by
  rw [List.all_map]; rfl
theorem kBuiltin_eq (P : Program) (call : Callee) (dst : Option Tmp) (b : Builtin) (args : Array Operand) (ts : Array TypeId) (ty : TypeId) (pos : String) (after : Array Edge) (guard : Option (Nat × Bool)) (R : PlanTab.Fr) (W : AW) :
    oBuiltin P b ts ty (args.map isConst) (args.toList.map (aEval R)) W = aBuiltin P ⟨dst, .call ⟨.builtin b, args, ts⟩, ty, pos, after, guard⟩ b ts (args.toList.map (aEval R)) R W := by
  have hf : pureS P ((args.toList.map (aEval R)).all plain) (builtin b ts ty (args.map isConst) (args.toList.map (aEval R)).toArray) = aPure P R ⟨dst, .call ⟨.builtin b, args, ts⟩, ty, pos, after, guard⟩ := by
    rw [aPure_S rfl]
    have h1 : ((args.toList.map (aEval R)).all plain) = ((Op.call { callee := Callee.builtin b, args := args, argTypes := ts }).operands.toList.all fun x => plain (aEval R x)) := by
      rw [all_map]
      have : (Op.call { callee := .builtin b, args := args, argTypes := ts }).operands = args := by simp [Op.operands, Call.operands]
      rw [this]
    have h2 : builtin b ts ty (args.map isConst) (args.toList.map (aEval R)).toArray = execOp (aEval R) ⟨dst, .call ⟨.builtin b, args, ts⟩, ty, pos, after, guard⟩ := by
      have h4 : args.map isConst = args.map (fun | .const _ => true | _ => false) := by
        congr 1; funext x; cases x <;> rfl
      have h3 : (args.toList.map (aEval R)).toArray = args.map (aEval R) := by
        apply Array.toList_inj.1; simp
      rw [h4, h3]
      symm
      simp [execOp, resolve, invoke]
      rfl
    rw [h1, h2]
  unfold oBuiltin aBuiltin
  rw [hf]
  rfl
def isStore : Op → Bool
  | .store .. => true
  | _ => false
theorem kOp_eq (P : Program) (call : Callee) (o : Oper) (R : PlanTab.Fr) (W : AW) (hs : isStore o.op = false) : kOp P call o R W = aOpC P call o R W := by
  rw [aOpC_eq]
  obtain ⟨dst, op, type, pos, after, guard⟩ := o
  cases op with
  | store t a x => cases hs
  | pick c a b => rfl
  | alloc t =>
    show oAlloc P t W = _
    (simp only [aOpS, aOp, oAlloc, AW.new_eq]; try rfl)
  | box t x =>
    show oBox (aEval R x) W = _
    simp only [aOpS, aOp, oBox, AW.new_eq]
  | buildSlice t len ps =>
    show oBuildSlice P t len (parts R ps) W = _
    (simp only [aOpS, aOp, oBuildSlice, aBuildSlice, AW.new_eq]; try rfl)
  | binOp op t x y yt =>
    show oBin P op t (isConst x) (isConst y) (aEval R x) (aEval R y) W = _
    simp only [aOpS, aOp, oBin]
    rw [aPure_S rfl, ← eqGuard_const]
    rfl
  | unOp op t x =>
    show oUn P op (aEval R x) W = _
    simp only [aOpS, aOp, oUn]
    rw [aPure_S rfl]
    rfl
  | convert s d x =>
    show oConv P s d (aEval R x) W = _
    simp only [aOpS, aOp, oConv]
    rw [aPure_S rfl]
    rfl
  | makeFunc fn a b => cases fn <;> rfl
  | makeMap t r =>
    cases r with
    | none => show oMkMap P t none W = _; (simp only [aOpS, aOp, oMkMap, AW.new_eq]; try rfl)
    | some r => show oMkMap P t (some (aEval R r)) W = _; (simp only [aOpS, aOp, oMkMap, AW.new_eq]; try rfl)
  | makeSlice t l c =>
    show oMkSlice P t (aEval R l) (aEval R c) W = _
    (simp only [aOpS, aOp, oMkSlice, aMakeSlice, AW.new_eq]; try rfl)
  | slice t x lo hi mx =>
    show oSlice P t (aEval R x) (lo.map (aEval R)) (hi.map (aEval R)) (mx.map (aEval R)) W = _
    simp only [aOpS, aOp, oSlice]
    rw [aPure_S rfl]
    have : (aEval R x :: ((lo.map (aEval R)).toList ++ ((hi.map (aEval R)).toList ++ (mx.map (aEval R)).toList))).all plain = ((Op.slice t x lo hi mx).operands.toList.all fun x => plain (aEval R x)) := by
      cases lo <;> cases hi <;> cases mx <;> simp [Op.operands]
    rw [this]
    rfl
  | index t x i =>
    show oIndex P t (aEval R x) (aEval R i) W = _
    simp only [aOpS, aOp, oIndex]
    rw [aPure_S rfl]
    rfl
  | range t x =>
    show oRangeStr P t (aEval R x) W = _
    (simp only [aOpS, aOp, oRangeStr, AW.new_eq]; try rfl)
  | next it s => cases s <;> rfl
  | call c =>
    obtain ⟨callee, args, ts⟩ := c
    cases callee with
    | builtin b => exact kBuiltin_eq P call dst b args ts type pos after guard R W
    | value f => rfl
    | invoke r name => rfl
  | _ => rfl
theorem kOp_le {P : Program} {call : Callee} {o : Oper} {R : PlanTab.Fr} {W : AW} {r : Value × AW} (h : kOp P call o R W = some r) : aOpC P call o R W = some r := by
  cases hs : isStore o.op with
  | false => rw [← kOp_eq P call o R W hs]; exact h
  | true =>
    rw [aOpC_eq]
    obtain ⟨dst, op, type, pos, after, guard⟩ := o
    cases op <;> (try cases hs)
    rename_i t a x
    have h' : (aStoreC P W t (aEval R a) (aEval R x)).map (fun W' => (undef, W')) = some r := h
    simp only [aOpS, aOp]
    cases hc : aStoreC P W t (aEval R a) (aEval R x) with
    | none => rw [hc] at h'; cases h'
    | some W' => rw [hc] at h'; rw [aStoreC_le hc]; exact h'
noncomputable def ldC (x : Value) (W : AW) : Option (Value × AW) := (match x with
  | .pointer (some a) => (match cellsAt W a.block with
    | some cs => lget cs a.off
    | none => none)
  | _ => none).map fun v => (v, W)
noncomputable def ldA (n : Nat) (x : Value) (W : AW) : Option (Value × AW) := (match x with
  | .pointer (some a) => (readN W a.block a.off n).map fun (l : List Value) => Value.agg l.toArray
  | _ => none).map fun v => (v, W)
noncomputable def stV (n : Nat) (x v : Value) (W : AW) : Option (Value × AW) := (match x with
  | .pointer (some a) => if v.cells.size = n then writeC W a.block a.off v.cells.toList else none
  | _ => none).map fun W' => (undef, W')
noncomputable def faO (off : Nat) (x : Value) (W : AW) : Option (Value × AW) := match x with
  | .pointer (some a) => some (.pointer (some (a.add off)), W)
  | _ => none
noncomputable def fdC (off : Nat) (x : Value) (W : AW) : Option (Value × AW) := match x with
  | .agg cs => (cs[off]?).map fun v => (v, W)
  | _ => none
noncomputable def fdA (off n : Nat) (x : Value) (W : AW) : Option (Value × AW) := match x with
  | .agg cs => (some (Value.agg (cs.extract off (off + n)))).map fun v => (v, W)
  | _ => none
noncomputable def ixS (z : Nat) (x i : Value) (W : AW) : Option (Value × AW) := match x, natOf i with
  | .slice (some a) len _, some n => if n < len then some (.pointer (some (a.add (n * z))), W) else none
  | _, _ => none
noncomputable def ixA (len z : Nat) (x i : Value) (W : AW) : Option (Value × AW) := match x, natOf i with
  | .pointer (some a), some n => if n < len then some (.pointer (some (a.add (n * z))), W) else none
  | _, _ => none
end Go.Eng
namespace Go.Eng
open Go
set_option linter.unusedSectionVars false
set_option linter.unusedSimpArgs false
set_option linter.unusedVariables false
variable [PlanTab]

theorem bndX : ∃ f : (∀ (α ρ : Type), Option α → (α → Option ρ) → Option ρ), f = fun _ _ x g => x.bind g := ⟨_, rfl⟩
noncomputable def bnd {α ρ : Type} (x : Option α) (g : α → Option ρ) : Option ρ := Classical.choose bndX α ρ x g
theorem bnd_eq {α ρ : Type} (x : Option α) (g : α → Option ρ) : bnd x g = x.bind g := by unfold bnd; rw [Classical.choose_spec bndX]
abbrev KT (ρ : Type) := X → PlanTab.Fr → AW → Option ρ
abbrev LT := X × PlanTab.Fr × AW
noncomputable def wnt (v : Value) (w : Bool) : Bool := match v with | .bool b => b == w | _ => false
noncomputable def kWant (ops : Array Oper) (R : PlanTab.Fr) (o : Oper) : Bool := match o.guard with
  | none => true
  | some (j, w) => match (ops[j]?).bind (·.dst) with
    | some t => wnt (rget R t) w
    | none => false
theorem kWant_eq (ops : Array Oper) (R : PlanTab.Fr) (o : Oper) : kWant ops R o = wantedA ops R o := by
  unfold kWant wantedA
  cases o.guard with
  | none => rfl
  | some p =>
    obtain ⟨j, w⟩ := p
    simp only
    cases (ops[j]?).bind (·.dst) <;> rfl
noncomputable def bIf {ρ : Type} (c : Bool) (a b : ρ) : ρ := Bool.rec (motive := fun _ => ρ) b a c
noncomputable def kStep (P : Program) (call : Callee) (ops : Array Oper) (o : Oper) (R : PlanTab.Fr) (W : AW) : Option (Value × AW) :=
  bIf (kWant ops R o) (kOp P call o R W) (some (undef, W))
noncomputable def kOps (P : Program) (call : Callee) (ops : Array Oper) {ρ : Type} (K : PlanTab.Fr → AW → Option ρ) (l : List Oper) : PlanTab.Fr → AW → Option ρ :=
  List.rec (motive := fun _ => PlanTab.Fr → AW → Option ρ) (fun R W => K R W) (fun o _ ih R W => bnd (kStep P call ops o R W) fun r => ih (rput R o.dst r.1) r.2) l
noncomputable def agV (w : Bool) (r : Option (Value × AW)) (v : Value) : Bool := bIf w (match r with | some (u, _) => vsame u v | none => false) true
noncomputable def agN (w : Bool) (r : Option (Value × AW)) : Bool := bIf w r.isSome true
noncomputable def kAgain (P : Program) (call : Callee) (ops : Array Oper) (R : PlanTab.Fr) (W : AW) (j : Nat) : Bool := match ops[j]? with
  | none => false
  | some o => match o.dst with
    | some t => agV (kWant ops R o) (kOp P call o R W) (rget R t)
    | none => agN (kWant ops R o) (kOp P call o R W)
noncomputable def kPlan (P : Program) (call : Callee) (ops : Array Oper) {ρ : Type} (K : PlanTab.Fr → AW → Option ρ) (l : List (Nat × List Nat)) : PlanTab.Fr → AW → Option ρ :=
  List.rec (motive := fun _ => PlanTab.Fr → AW → Option ρ) (fun R W => K R W) (fun p _ ih R W => match ops[p.1]? with
    | none => none
    | some o => bnd (kStep P call ops o R W) fun r => bIf (p.2.all (kAgain P call ops (rput R o.dst r.1) r.2)) (ih (rput R o.dst r.1) r.2) none) l

noncomputable def kNorm {ρ : Type} (x : X) (a b : Option ρ) : Option ρ := X.rec (motive := fun _ => Option ρ) a (fun _ => b) b x
noncomputable def kExit {ρ : Type} (id : Nat) (x : X) (a b : Option ρ) : Option ρ := X.rec (motive := fun _ => Option ρ) b (fun i => bIf (Nat.beq i id) a b) b x
noncomputable def kFin {ρ : Type} (x : X) (a : Option ρ) : Option ρ := X.rec (motive := fun _ => Option ρ) a (fun _ => none) a x
noncomputable def vIf {ρ : Type} (v : Value) (a b : Option ρ) : Option ρ := match v with | .bool c => bIf c a b | _ => none

abbrev CT := ∀ ρ : Type, PlanTab.Fr → AW → KT ρ → Option ρ
noncomputable def kEnd {ρ : Type} (R : PlanTab.Fr) (W : AW) (K : KT ρ) : Option ρ := K .normal R W
noncomputable def ret3 : KT LT := fun x R W => some (x, R, W)
noncomputable def kSkipC : CT := fun _ R W K => K .normal R W
noncomputable def kRegionC (P : Program) (call : Callee) (id : Nat) (ops : Array Oper) (draw : Bool) : CT := fun _ R W K => match draw with
  | false => kOps P call ops (K .normal) ops.toList R W
  | true => match PlanTab.D id ops with
    | none => kOps P call ops (K .normal) ops.toList R W
    | some pl => kPlan P call ops (K .normal) pl R W
noncomputable def kSeqC (_ _ : Code) (ia ib : CT) : CT := fun ρ R W K => ia ρ R W fun x R' W' => X.rec (motive := fun _ => Option ρ) (ib ρ R' W' K) (fun _ => K x R' W') (K x R' W') x
noncomputable def kCondC (c : Operand) (_ _ : Code) (ia ib : CT) : CT := fun ρ R W K => vIf (aEval R c) (ia ρ R W K) (ib ρ R W K)
noncomputable def kBlockC (id : Nat) (_ : Code) (ib : CT) : CT := fun ρ R W K => ib ρ R W fun x R' W' => X.rec (motive := fun _ => Option ρ) (K x R' W') (fun i => Bool.rec (motive := fun _ => Option ρ) (K x R' W') (K .normal R' W') (Nat.beq i id)) (K x R' W') x
noncomputable def exIns (i : Nat) : List Nat → List Nat := List.rec [i] fun x l ih => Bool.rec (x :: ih) (x :: l) (Nat.beq x i)
noncomputable def exJoin (a b : List Nat) : List Nat := List.rec b (fun x _ ih => exIns x ih) a
noncomputable def exCut (i : Nat) (a : List Nat) : List Nat := List.rec [] (fun x _ ih => Bool.rec (x :: ih) ih (Nat.beq x i)) a
noncomputable def exs : Code → List Nat × Bool :=
  Code.rec (motive := fun _ => List Nat × Bool) ([], false) (fun _ _ _ => ([], false)) (fun _ _ a b => (exJoin a.1 b.1, a.2 || b.2)) (fun _ _ _ a b => (exJoin a.1 b.1, a.2 || b.2)) (fun i _ b => (exCut i b.1, b.2)) (fun _ b => b)
    (fun _ _ _ _ a b => (exJoin a.1 b.1, a.2 || b.2)) (fun i => ([i], false)) (fun _ b => b) (fun _ => ([], false)) (fun _ => ([], false)) ([], true) (fun _ => ([], false))
noncomputable def kRetX {ρ : Type} (x : X) (a : Option ρ) : Option ρ := X.rec (motive := fun _ => Option ρ) none (fun _ => none) a x
noncomputable def kPick' {ρ : Type} (x : X) (k : X → Option ρ) (ret : Bool) (l : List Nat) : Option ρ :=
  List.rec (motive := fun _ => Option ρ) (bIf ret (kRetX x (k .ret)) none) (fun i _ ih => kExit i x (k (.exit i)) ih) l
theorem kPick_some {ρ : Type} {x : X} {k : X → Option ρ} {ret : Bool} {r : ρ} : ∀ {l : List Nat}, kPick' x k ret l = some r → k x = some r
  | [], h => by
    cases ret with
    | false => cases h
    | true => cases x <;> first | exact h | cases h
  | i :: l, h => by
    cases x with
    | normal => exact kPick_some (l := l) h
    | ret => exact kPick_some (l := l) h
    | exit j =>
      have h' : bIf (Nat.beq j i) (k (.exit i)) (kPick' (.exit j) k ret l) = some r := h
      cases hb : Nat.beq j i with
      | true => rw [hb] at h'; have := Nat.eq_of_beq_eq_true hb; subst this; exact h'
      | false => rw [hb] at h'; exact kPick_some (l := l) h'
theorem loopX : ∃ f : (PlanTab.Fr → AW → Option LT) → Nat → PlanTab.Fr → AW → Option LT, f = aLoop := ⟨aLoop, rfl⟩
noncomputable def loopO : (PlanTab.Fr → AW → Option LT) → PlanTab.Fr → AW → Option LT := fun f => Classical.choose loopX f 1000000
theorem loopO_eq (f : PlanTab.Fr → AW → Option LT) : loopO f = aLoop f 1000000 := by unfold loopO; rw [Classical.choose_spec loopX]
noncomputable def kLoopC (b : Code) (ib : CT) : CT := fun _ R W K => bnd (loopO (fun R W => ib LT R W ret3) R W) fun r => kPick' r.1 (fun x => K x r.2.1 r.2.2) (exs b).2 (exs b).1
noncomputable def oRange (call : Callee) (f : Value) (obj : AObj) (W : AW) : Option (X × AW) := match f with
  | .func (.func i) fs cs => match call (.func (.func i) fs cs) [.func (.yield W.next) #[] #[]] (W.add obj) with
    | some (_, W2) => match W2.get W.next with
      | some (.loop st pend _ _ _ _ _) => (match st with
        | .busy => none
        | _ => match pend with
          | none => some (.normal, W2.kill W.next)
          | some (.exit i) => some (.exit i, W2.kill W.next)
          | some .ret => some (.ret, W2.kill W.next)
          | _ => none)
      | _ => none
    | none => none
  | _ => none
noncomputable def kRangeC (call : Callee) (top : Bool) (nt : Nat) (f : Operand) (ps : Array Tmp) (as bd : Code) (_ _ : CT) : CT := fun _ R W K => match top with
  | false => none
  | true => bnd (oRange call (aEval R f) (.loop .ready none R nt ps as bd) W) fun r => kNorm r.1 (K .normal R r.2) (kPick' r.1 (fun x => K x R r.2) (exs bd).2 (exs bd).1)
noncomputable def kExitC (id : Nat) : CT := fun _ R W K => K (.exit id) R W
noncomputable def kRetC : CT := fun _ R W K => K .ret R W
noncomputable def kLabelC (_ : Nat) : CT := fun _ R W K => K .normal R W
noncomputable def kNoneC (_ : Nat) : CT := fun _ _ _ _ => none
noncomputable def kScopeC (_ : Code) (_ : CT) : CT := fun _ _ _ _ => none
noncomputable def kRefuseC (_ : String) : CT := fun _ _ _ _ => none
noncomputable def kCode (P : Program) (call : Callee) (top : Bool) (nt : Nat) : Code → CT :=
  Code.rec (motive := fun _ => CT) kSkipC (kRegionC P call) kSeqC kCondC kBlockC kLoopC (kRangeC call top nt) kExitC kScopeC kLabelC kNoneC kRetC kRefuseC

section
variable {P : Program} {call : Callee}
theorem kStep_le {ops : Array Oper} {o : Oper} {R : PlanTab.Fr} {W : AW} {r : Value × AW} (h : kStep P call ops o R W = some r) : aStep P call ops o R W = some (rput R o.dst r.1, r.2) := by
  unfold kStep at h
  unfold aStep
  rw [kWant_eq] at h
  cases hw : wantedA ops R o with
  | true =>
    rw [hw] at h
    rw [if_pos rfl]
    have h' : kOp P call o R W = some r := h
    rw [kOp_le h']
  | false =>
    rw [hw] at h
    rw [if_neg (by simp)]
    have h' : some (undef, W) = some r := h
    injection h' with h'
    subst h'; rfl
theorem kOps_le {ops : Array Oper} {ρ : Type} {K : PlanTab.Fr → AW → Option ρ} {r : ρ} : ∀ (l : List Oper) (R : PlanTab.Fr) (W : AW), kOps P call ops K l R W = some r → (aOps P call ops l R W).bind (fun q => K q.1 q.2) = some r := by
  intro l
  induction l with
  | nil => intro R W h; exact h
  | cons o l ih =>
    intro R W h
    have h' : bnd (kStep P call ops o R W) (fun r => kOps P call ops K l (rput R o.dst r.1) r.2) = some r := h
    rw [bnd_eq] at h'
    cases hk : kStep P call ops o R W with
    | none => rw [hk] at h'; cases h'
    | some q =>
      rw [hk] at h'
      rw [aOps, kStep_le hk]
      exact ih _ _ h'
theorem kAgain_le {ops : Array Oper} {R : PlanTab.Fr} {W : AW} (j : Nat) (h : kAgain P call ops R W j = true) : again P call ops R W j = true := by
  unfold kAgain at h
  unfold again
  cases ho : ops[j]? with
  | none => rw [ho] at h; cases h
  | some o =>
    rw [ho] at h
    simp only at h ⊢
    rw [kWant_eq] at h
    cases hd : o.dst with
    | none =>
      rw [hd] at h
      simp only [agN] at h
      simp only
      cases hw : wantedA ops R o with
      | false => rfl
      | true =>
        rw [hw] at h
        have h' : (kOp P call o R W).isSome = true := h
        obtain ⟨q, hq⟩ := Option.isSome_iff_exists.1 h'
        rw [kOp_le hq]; rfl
    | some t =>
      rw [hd] at h
      simp only [agV] at h
      simp only
      cases hw : wantedA ops R o with
      | false => rfl
      | true =>
        rw [hw] at h
        have h' : (match kOp P call o R W with | some (u, _) => vsame u (rget R t) | none => false) = true := h
        cases hq : kOp P call o R W with
        | none => rw [hq] at h'; cases h'
        | some q => rw [hq] at h'; rw [kOp_le hq]; exact h'
theorem kPlan_le {ops : Array Oper} {ρ : Type} {K : PlanTab.Fr → AW → Option ρ} {r : ρ} : ∀ (l : List (Nat × List Nat)) (R : PlanTab.Fr) (W : AW), kPlan P call ops K l R W = some r → (aPlan P call ops l R W).bind (fun q => K q.1 q.2) = some r := by
  intro l
  induction l with
  | nil => intro R W h; exact h
  | cons p l ih =>
    intro R W h
    obtain ⟨i, re⟩ := p
    have h' : (match ops[i]? with
      | none => none
      | some o => bnd (kStep P call ops o R W) fun r => bIf (re.all (kAgain P call ops (rput R o.dst r.1) r.2)) (kPlan P call ops K l (rput R o.dst r.1) r.2) none) = some r := h
    rw [aPlan]
    cases ho : ops[i]? with
    | none => rw [ho] at h'; cases h'
    | some o =>
      rw [ho] at h'
      simp only at h' ⊢
      rw [bnd_eq] at h'
      cases hk : kStep P call ops o R W with
      | none => rw [hk] at h'; cases h'
      | some q =>
        rw [hk] at h'
        rw [kStep_le hk]
        simp only [Option.bind_some] at h' ⊢
        cases ha : re.all (kAgain P call ops (rput R o.dst q.1) q.2) with
        | false => rw [ha] at h'; cases h'
        | true =>
          rw [ha] at h'
          have : re.all (again P call ops (rput R o.dst q.1) q.2) = true := by
            rw [List.all_eq_true] at ha ⊢
            exact fun j hj => kAgain_le j (ha j hj)
          rw [if_pos this]
          exact ih _ _ h'
theorem aLoop_le {f g : PlanTab.Fr → AW → Option LT} (h : ∀ R W r, f R W = some r → g R W = some r) : ∀ (n : Nat) (R : PlanTab.Fr) (W : AW) (r : LT), aLoop f n R W = some r → aLoop g n R W = some r := by
  intro n
  induction n with
  | zero => intro R W r hr; cases hr
  | succ n ih =>
    intro R W r hr
    unfold aLoop at hr ⊢
    cases hf : f R W with
    | none => rw [hf] at hr; cases hr
    | some q =>
      rw [h _ _ _ hf]
      rw [hf] at hr
      obtain ⟨x, R', W'⟩ := q
      cases x with
      | normal => exact ih _ _ _ hr
      | exit i => exact hr
      | ret => exact hr
theorem kCode_le {top : Bool} {nt : Nat} : ∀ (c : Code) (ρ : Type) (R : PlanTab.Fr) (W : AW) (K : KT ρ) (r : ρ), kCode P call top nt c ρ R W K = some r → (aCode P call top nt c R W).bind (fun r => K r.1 r.2.1 r.2.2) = some r := by
  intro c
  induction c with
  | skip => intro ρ R W K r h; exact h
  | label l => intro ρ R W K r h; exact h
  | exit id => intro ρ R W K r h; exact h
  | ret => intro ρ R W K r h; exact h
  | goto l => intro ρ R W K r h; exact h
  | scope b _ => intro ρ R W K r h; cases h
  | refuse s => intro ρ R W K r h; cases h
  | region id ops draw =>
    intro ρ R W K r h
    have h : kRegionC P call id ops draw ρ R W K = some r := h
    unfold kRegionC at h
    unfold aCode
    cases draw with
    | false =>
      simp only at h ⊢
      have := kOps_le _ _ _ h
      cases ha : aOps P call ops ops.toList R W with
      | none => rw [ha] at this; cases this
      | some q => rw [ha] at this; exact this
    | true =>
      simp only at h ⊢
      cases hd : PlanTab.D id ops with
      | none =>
        rw [hd] at h
        simp only at h ⊢
        have := kOps_le _ _ _ h
        cases ha : aOps P call ops ops.toList R W with
        | none => rw [ha] at this; cases this
        | some q => rw [ha] at this; exact this
      | some pl =>
        rw [hd] at h
        simp only at h ⊢
        have := kPlan_le _ _ _ h
        cases ha : aPlan P call ops pl R W with
        | none => rw [ha] at this; cases this
        | some q => rw [ha] at this; exact this
  | seq a b iha ihb =>
    intro ρ R W K r h
    have h1 := iha ρ R W _ r h
    rw [aCode]
    cases ha : aCode P call top nt a R W with
    | none => rw [ha] at h1; cases h1
    | some q =>
      rw [ha] at h1
      obtain ⟨x, R', W'⟩ := q
      cases x with
      | normal => exact ihb _ _ _ _ _ h1
      | exit i => exact h1
      | ret => exact h1
  | cond c a b iha ihb =>
    intro ρ R W K r h
    have h' : vIf (aEval R c) (kCode P call top nt a ρ R W K) (kCode P call top nt b ρ R W K) = some r := h
    rw [aCode]
    cases hc : aEval R c with
    | bool d =>
      rw [hc] at h'
      cases d with
      | true => exact iha _ _ _ _ _ h'
      | false => exact ihb _ _ _ _ _ h'
    | _ => rw [hc] at h'; cases h'
  | block id b ih =>
    intro ρ R W K r h
    have h1 := ih ρ R W _ r h
    rw [aCode]
    cases ha : aCode P call top nt b R W with
    | none => rw [ha] at h1; cases h1
    | some q =>
      rw [ha] at h1
      obtain ⟨x, R', W'⟩ := q
      cases x with
      | normal => exact h1
      | ret => exact h1
      | exit i =>
        have h2 : bIf (Nat.beq i id) (K .normal R' W') (K (.exit i) R' W') = some r := h1
        by_cases hi : i = id
        · subst hi
          rw [Nat.beq_refl] at h2
          simp only [if_true, Option.bind_some]
          exact h2
        · have : Nat.beq i id = false := by
            cases hb : Nat.beq i id with
            | true => exact absurd (Nat.eq_of_beq_eq_true hb) hi
            | false => rfl
          rw [this] at h2
          simp only [if_neg hi, Option.bind_some]
          exact h2
  | loop b ih =>
    intro ρ R W K r h
    have h' : bnd (loopO (fun R W => kCode P call top nt b LT R W ret3) R W) (fun q => kPick' q.1 (fun x => K x q.2.1 q.2.2) (exs b).2 (exs b).1) = some r := h
    rw [bnd_eq, loopO_eq] at h'
    cases hl : aLoop (fun R W => kCode P call top nt b LT R W ret3) 1000000 R W with
    | none => rw [hl] at h'; cases h'
    | some q =>
      rw [hl] at h'
      have := aLoop_le (g := aCode P call top nt b) (fun R W q hq => by
        have := ih LT R W ret3 q hq
        cases ha : aCode P call top nt b R W with
        | none => rw [ha] at this; cases this
        | some q' => rw [ha] at this; exact this) _ _ _ _ hl
      rw [aCode, this]
      exact kPick_some (show kPick' q.1 (fun x => K x q.2.1 q.2.2) (exs b).2 (exs b).1 = some r from h')
  | rangeFunc f ps as bd _ _ =>
    intro ρ R W K r h
    have h' : kRangeC call top nt f ps as bd (kCode P call top nt as) (kCode P call top nt bd) ρ R W K = some r := h
    unfold kRangeC at h'
    cases top with
    | false => cases h'
    | true =>
      simp only [bnd_eq] at h'
      have h2 : (oRange call (aEval R f) (.loop .ready none R nt ps as bd) W).bind (fun q => K q.1 R q.2) = some r := by
        cases ho : oRange call (aEval R f) (.loop .ready none R nt ps as bd) W with
        | none => rw [ho] at h'; cases h'
        | some q =>
          rw [ho] at h'
          obtain ⟨x, W'⟩ := q
          cases x with
          | normal => exact h'
          | exit i => exact kPick_some (show kPick' (.exit i) (fun x => K x R W') (exs bd).2 (exs bd).1 = some r from h')
          | ret => exact kPick_some (show kPick' .ret (fun x => K x R W') (exs bd).2 (exs bd).1 = some r from h')
      rw [← h2]
      unfold aCode oRange
      simp only
      cases aEval R f with
      | func fn fs cs =>
        cases fn with
        | func i =>
          simp only [AW.new_eq]
          cases call (.func (.func i) fs cs) [.func (.yield W.next) #[] #[]] (W.add (.loop .ready none R nt ps as bd)) with
          | none => rfl
          | some r =>
            obtain ⟨v, W2⟩ := r
            simp only
            cases W2.get W.next with
            | none => rfl
            | some obj =>
              cases obj with
              | loop st pend tm n p a b =>
                cases st <;> simp only <;> (cases pend with
                  | none => rfl
                  | some c => cases c <;> rfl)
              | _ => rfl
        | _ => rfl
      | _ => rfl
theorem kCode_ret {top : Bool} {nt : Nat} {c : Code} {R : PlanTab.Fr} {W : AW} {r : LT} (h : kCode P call top nt c LT R W ret3 = some r) : aCode P call top nt c R W = some r := by
  have := kCode_le c LT R W ret3 r h
  cases ha : aCode P call top nt c R W with
  | none => rw [ha] at this; cases this
  | some q => rw [ha] at this; exact this
end

noncomputable def oResL (P : Program) (W : AW) : List (Value × Option TypeId) → Option (List Value)
  | [] => some []
  | (v, none) :: l => match oResL P W l with
    | some vs => some (v :: vs)
    | none => none
  | (a, some t) :: l => match aLoad P W t a with
    | some v => match oResL P W l with
      | some vs => some (v :: vs)
      | none => none
    | none => none
noncomputable def oRes (P : Program) (l : List (Value × Option TypeId)) (W : AW) : Option (Value × AW) := match oResL P W l with
  | some [v] => some (v, W)
  | some vs => some (.tuple vs.toArray, W)
  | none => none
noncomputable def rv (R : PlanTab.Fr) : ResultVar → Value × Option TypeId := ResultVar.rec (fun t => (rget R t, none)) (fun a t => (rget R a, some t))
theorem oResL_eq (P : Program) (W : AW) (R : PlanTab.Fr) : ∀ l : List ResultVar, aRes P W R l = oResL P W (l.map (rv R))
  | [] => rfl
  | .tmp t :: l => by
    show (match aRes P W R l with | some vs => some (rget R t :: vs) | none => none) = (match oResL P W (l.map (rv R)) with | some vs => some (rget R t :: vs) | none => none)
    rw [oResL_eq P W R l]
  | .cell a t :: l => by
    show (match aLoad P W t (rget R a) with | some v => (match aRes P W R l with | some vs => some (v :: vs) | none => none) | none => none) = (match aLoad P W t (rget R a) with | some v => (match oResL P W (l.map (rv R)) with | some vs => some (v :: vs) | none => none) | none => none)
    rw [oResL_eq P W R l]
noncomputable def kFun (P : Program) (call : Callee) (nt : Nat) (c : Code) (rs : Array ResultVar) (vals : List Value) (W : AW) : Option (Value × AW) :=
  kCode P call true nt c (Value × AW) (argGo 0 vals PlanTab.blank) W fun x R W' => X.rec (motive := fun _ => Option (Value × AW)) (oRes P (rs.toList.map (rv R)) W') (fun _ => none) (oRes P (rs.toList.map (rv R)) W') x
theorem bodyC_fun {P : Program} {bad : List Nat} {spec call : Callee} {i : Nat} {fn : Func} {c : Code} (hb : inL i bad = false) (hf : P.funcs[i]? = some fn) (hc : fn.body = some c) {fs cs : Array Value} {args : List Value}
    (hn : Nat.ble (fs.toList.length + (args.length + cs.toList.length)) fn.ntmps = true) {W : AW} {r : Value × AW} (h : kFun P call fn.ntmps c fn.results (fs.toList ++ (args ++ cs.toList)) W = some r) :
    bodyC P bad spec call (.func (.func i) fs cs) args W = some r := by
  unfold kFun at h
  have h1 := kCode_le _ _ _ _ _ _ h
  unfold bodyC
  simp only [hb, hf, hc, hn]
  cases ha : aCode P call true fn.ntmps c (argGo 0 (fs.toList ++ (args ++ cs.toList)) PlanTab.blank) W with
  | none => rw [ha] at h1; cases h1
  | some q =>
    rw [ha] at h1
    obtain ⟨x, R, W'⟩ := q
    simp only [Option.bind_some] at h1
    rw [← h1]
    unfold aResults oRes
    simp only [oResL_eq]
    cases x with
    | exit id => rfl
    | normal =>
      simp only [kFin]
      rcases oResL P W' (fn.results.toList.map (rv R)) with _ | _ | ⟨v, _ | ⟨u, l⟩⟩ <;> rfl
    | ret =>
      simp only [kFin]
      rcases oResL P W' (fn.results.toList.map (rv R)) with _ | _ | ⟨v, _ | ⟨u, l⟩⟩ <;> rfl
noncomputable def kYield (P : Program) (call : Callee) (l : Nat) (nt : Nat) (as bd : Code) (R : PlanTab.Fr) (W : AW) : Option (Value × AW) :=
  (kCode P call false nt as LT R W ret3).bind fun r1 => kNorm r1.1 (match r1.2.2.get l with
    | some (.loop .ready pd9 R9 nt9 ps9 as9 bd9) => (kCode P call false nt bd LT r1.2.1 (r1.2.2.put l (.loop .busy pd9 R9 nt9 ps9 as9 bd9)) ret3).bind fun r2 => (match r2.2.2.get l with
      | some (.loop _ _ R8 nt8 ps8 as8 bd8) => (match r2.1 with
        | .normal => some (.bool true, r2.2.2.put l (.loop .ready none R8 nt8 ps8 as8 bd8))
        | x => some (.bool false, r2.2.2.put l (.loop .done x.jump R8 nt8 ps8 as8 bd8)))
      | _ => none)
    | _ => none) none
theorem bodyC_yield {P : Program} {bad : List Nat} {spec call : Callee} {l nt : Nat} {R : PlanTab.Fr} {ps : Array Tmp} {as bd : Code} {W : AW} (hl : W.get l = some (.loop .ready none R nt ps as bd)) {fs cs : Array Value} {args : List Value} (hn : fs.toList.length + args.length = ps.size)
    {r : Value × AW} (h : kYield P call l nt as bd (zipGo ps.toList (fs.toList ++ args) R) W = some r) :
    bodyC P bad spec call (.func (.yield l) fs cs) args W = some r := by
  unfold kYield at h
  have hb : Nat.beq (fs.toList.length + args.length) ps.size = true := by rw [hn]; exact Nat.beq_refl _
  unfold bodyC
  simp only [hl, hb]
  cases h1 : kCode P call false nt as LT (zipGo ps.toList (fs.toList ++ args) R) W ret3 with
  | none => rw [h1] at h; cases h
  | some q =>
    rw [h1] at h
    rw [kCode_ret h1]
    obtain ⟨x, R1, W1⟩ := q
    simp only [Option.bind_some] at h
    cases x with
    | exit id => cases h
    | ret => cases h
    | normal =>
      simp only [kNorm] at h ⊢
      cases hg : W1.get l with
      | none => rw [hg] at h; cases h
      | some obj =>
        rw [hg] at h
        cases obj with
        | loop st pd9 R9 nt9 ps9 as9 bd9 =>
          cases st with
          | ready =>
            simp only at h ⊢
            cases h2 : kCode P call false nt bd LT R1 (W1.put l (.loop .busy pd9 R9 nt9 ps9 as9 bd9)) ret3 with
            | none => rw [h2] at h; cases h
            | some q2 =>
              rw [h2] at h
              rw [kCode_ret h2]
              obtain ⟨x2, R2, W2⟩ := q2
              simp only [Option.bind_some] at h ⊢
              cases hg2 : W2.get l with
              | none => rw [hg2] at h; cases h
              | some obj2 =>
                rw [hg2] at h
                cases obj2 with
                | loop st8 pd8 R8 nt8 ps8 as8 bd8 => cases x2 <;> exact h
                | _ => cases h
          | _ => cases h
        | _ => cases h
end Go.Eng
namespace Go.Eng
open Go
set_option linter.unusedVariables false

noncomputable def setF (R : Nat → Value) (t : Nat) (v : Value) : Nat → Value := fun u => Bool.rec (motive := fun _ => Value) (R u) v (Nat.beq u t)
noncomputable def blankF : Nat → Value := fun _ => undef
theorem setF_same (R : Nat → Value) (t : Nat) (v : Value) : setF R t v t = v := by unfold setF; rw [Nat.beq_refl]
theorem setF_ne (R : Nat → Value) (t u : Nat) (v : Value) (h : t ≠ u) : setF R t v u = R u := by
  unfold setF
  have : Nat.beq u t = false := by
    cases hb : Nat.beq u t with
    | true => exact absurd (Nat.eq_of_beq_eq_true hb).symm h
    | false => rfl
  rw [this]
@[reducible] noncomputable def funTab (D : Nat → Array Oper → Option (List (Nat × List Nat))) (ng : List Nat) (ex : TypeId → Bool := fun _ => false) : PlanTab where
  D := D
  ex := ex
  ng := ng
  Fr := Nat → Value
  fget := fun R t => R t
  fset := setF
  blank := blankF
  get_set := setF_same
  get_set_ne := setF_ne
  get_blank := fun _ => rfl
noncomputable def frm (R : Nat → Value) (l : List (Nat × Value)) : Nat → Value := l.foldl (fun R p => setF R p.1 p.2) R
noncomputable def glbV (g : Nat) : Value := .pointer (some ⟨g, 0, none⟩)
noncomputable def fnV (f : FuncId) : Value := .func (.func f) #[] #[]
def bytesV (l : List Nat) : ByteArray := ⟨(l.map UInt8.ofNat).toArray⟩
noncomputable def strV (l : List Nat) : Value := .string (bytesV l)
def bodyAt (P : Program) (i : Nat) : Code := match P.funcs[i]? with
  | some fn => (match fn.body with
    | some c => c
    | none => .skip)
  | none => .skip
def rssAt (P : Program) (i : Nat) : Array ResultVar := match P.funcs[i]? with
  | some fn => fn.results
  | none => #[]
def cAt : List Nat → Code → Code
  | [], c => c
  | n :: p, c => match c with
    | .seq a b => cAt p (if n = 0 then a else b)
    | .cond _ a b => cAt p (if n = 0 then a else b)
    | .rangeFunc _ _ a b => cAt p (if n = 0 then a else b)
    | .block _ b => cAt p b
    | .loop b => cAt p b
    | .scope b => cAt p b
    | _ => .skip
end Go.Eng
namespace Go.Eng
open Go
set_option linter.unusedSectionVars false
set_option linter.unusedSimpArgs false
set_option linter.unusedVariables false
variable [PlanTab]

def CLe (c d : Callee) : Prop := ∀ f a W r, c f a W = some r → d f a W = some r
theorem CLe.refl (c : Callee) : CLe c c := fun _ _ _ _ h => h
theorem CLe.trans {a b c : Callee} (h : CLe a b) (k : CLe b c) : CLe a c := fun f x W r e => k _ _ _ _ (h _ _ _ _ e)
section
variable {P : Program}
theorem aOpC_dep (P : Program) (o : Oper) (R : PlanTab.Fr) (W : AW) : (∀ c d : Callee, aOpC P c o R W = aOpC P d o R W) ∨ ∃ f a, ∀ c : Callee, aOpC P c o R W = c f a W := by
  simp only [aOpC_eq]
  obtain ⟨dst, op, type, pos, after, guard⟩ := o
  cases op with
  | call k =>
    obtain ⟨callee, args, ts⟩ := k
    cases callee with
    | builtin b => exact .inl fun _ _ => rfl
    | value f => exact .inr ⟨_, _, fun _ => rfl⟩
    | invoke r name =>
      simp only [aOpS]
      cases aEval R r with
      | iface t v =>
        simp only
        cases methodOf P t name with
        | none => exact .inl fun _ _ => rfl
        | some f => exact .inr ⟨_, _, fun _ => rfl⟩
      | _ => exact .inl fun _ _ => rfl
  | _ => exact .inl fun _ _ => rfl
theorem aOpC_le {c d : Callee} (h : CLe c d) {o : Oper} {R : PlanTab.Fr} {W : AW} {r : Value × AW} (e : aOpC P c o R W = some r) : aOpC P d o R W = some r := by
  rcases aOpC_dep P o R W with hd | ⟨f, a, hd⟩
  · rw [← e]; exact hd _ _
  · rw [hd] at e ⊢; exact h _ _ _ _ e
theorem aStep_le {c d : Callee} (h : CLe c d) {ops : Array Oper} {o : Oper} {R : PlanTab.Fr} {W : AW} {r : PlanTab.Fr × AW} (e : aStep P c ops o R W = some r) : aStep P d ops o R W = some r := by
  unfold aStep at e ⊢
  split
  · rename_i hw
    rw [if_pos hw] at e
    cases ho : aOpC P c o R W with
    | none => rw [ho] at e; cases e
    | some q => rw [ho] at e; rw [aOpC_le h ho]; exact e
  · rename_i hw; rw [if_neg hw] at e; exact e
theorem aOps_le {c d : Callee} (h : CLe c d) {ops : Array Oper} : ∀ {l : List Oper} {R : PlanTab.Fr} {W : AW} {r : PlanTab.Fr × AW}, aOps P c ops l R W = some r → aOps P d ops l R W = some r := by
  intro l
  induction l with
  | nil => intro R W r e; exact e
  | cons o l ih =>
    intro R W r e
    rw [aOps] at e ⊢
    cases hs : aStep P c ops o R W with
    | none => rw [hs] at e; cases e
    | some q => rw [hs] at e; rw [aStep_le h hs]; exact ih e
theorem again_le {c d : Callee} (h : CLe c d) {ops : Array Oper} {R : PlanTab.Fr} {W : AW} {j : Nat} (e : again P c ops R W j = true) : again P d ops R W j = true := by
  unfold again at e ⊢
  cases hj : ops[j]? with
  | none => rw [hj] at e; cases e
  | some o =>
    rw [hj] at e
    simp only at e ⊢
    split
    · rename_i hw
      rw [if_pos hw] at e
      cases ho : aOpC P c o R W with
      | none => rw [ho] at e; cases e
      | some q => rw [ho] at e; rw [aOpC_le h ho]; exact e
    · rfl
theorem aPlan_le {c d : Callee} (h : CLe c d) {ops : Array Oper} : ∀ {l : List (Nat × List Nat)} {R : PlanTab.Fr} {W : AW} {r : PlanTab.Fr × AW}, aPlan P c ops l R W = some r → aPlan P d ops l R W = some r := by
  intro l
  induction l with
  | nil => intro R W r e; exact e
  | cons p l ih =>
    intro R W r e
    obtain ⟨i, re⟩ := p
    rw [aPlan] at e ⊢
    cases hi : ops[i]? with
    | none => rw [hi] at e; cases e
    | some o =>
      rw [hi] at e
      simp only at e ⊢
      cases hs : aStep P c ops o R W with
      | none => rw [hs] at e; cases e
      | some q =>
        rw [hs] at e
        rw [aStep_le h hs]
        simp only at e ⊢
        split at e
        · rename_i hr
          rw [if_pos (List.all_eq_true.2 fun j hj => again_le h (List.all_eq_true.1 hr j hj))]
          exact ih e
        · cases e
theorem aCode_le {c d : Callee} (h : CLe c d) {top : Bool} {nt : Nat} : ∀ (k : Code) {R : PlanTab.Fr} {W : AW} {r : LT}, aCode P c top nt k R W = some r → aCode P d top nt k R W = some r := by
  intro k
  induction k with
  | skip => intro R W r e; exact e
  | label l => intro R W r e; exact e
  | exit id => intro R W r e; exact e
  | ret => intro R W r e; exact e
  | goto l => intro R W r e; exact e
  | scope b _ => intro R W r e; exact e
  | refuse s => intro R W r e; exact e
  | region id ops draw =>
    intro R W r e
    unfold aCode at e ⊢
    cases draw with
    | false =>
      simp only at e ⊢
      cases hs : aOps P c ops ops.toList R W with
      | none => rw [hs] at e; cases e
      | some q => rw [hs] at e; rw [aOps_le h hs]; exact e
    | true =>
      simp only at e ⊢
      cases hD : PlanTab.D id ops with
      | none =>
        rw [hD] at e
        simp only at e ⊢
        cases hs : aOps P c ops ops.toList R W with
        | none => rw [hs] at e; cases e
        | some q => rw [hs] at e; rw [aOps_le h hs]; exact e
      | some pl =>
        rw [hD] at e
        simp only at e ⊢
        cases hs : aPlan P c ops pl R W with
        | none => rw [hs] at e; cases e
        | some q => rw [hs] at e; rw [aPlan_le h hs]; exact e
  | seq a b iha ihb =>
    intro R W r e
    rw [aCode] at e ⊢
    cases ha : aCode P c top nt a R W with
    | none => rw [ha] at e; cases e
    | some q =>
      rw [ha] at e
      rw [iha ha]
      obtain ⟨x, R', W'⟩ := q
      cases x with
      | normal => exact ihb e
      | exit i => exact e
      | ret => exact e
  | cond o a b iha ihb =>
    intro R W r e
    rw [aCode] at e ⊢
    cases ho : aEval R o with
    | bool t => rw [ho] at e; cases t with
      | true => exact iha e
      | false => exact ihb e
    | _ => rw [ho] at e; cases e
  | block id b ih =>
    intro R W r e
    rw [aCode] at e ⊢
    cases hb : aCode P c top nt b R W with
    | none => rw [hb] at e; cases e
    | some q => rw [hb] at e; rw [ih hb]; exact e
  | loop b ih =>
    intro R W r e
    rw [aCode] at e ⊢
    exact aLoop_le (fun R W q hq => ih hq) _ _ _ _ e
  | rangeFunc f ps as bd _ _ =>
    intro R W r e
    unfold aCode at e ⊢
    cases top with
    | false => cases e
    | true =>
      simp only at e ⊢
      cases hf : aEval R f with
      | func fn fs cs =>
        rw [hf] at e
        cases fn with
        | func i =>
          simp only [AW.new_eq] at e ⊢
          cases hc : c (.func (.func i) fs cs) [.func (.yield W.next) #[] #[]] (W.add (.loop .ready none R nt ps as bd)) with
          | none => rw [hc] at e; cases e
          | some q => rw [hc] at e; rw [h _ _ _ _ hc]; exact e
        | _ => cases e
      | _ => rw [hf] at e; cases e
theorem bodyC_le {bad : List Nat} {spec c d : Callee} (h : CLe c d) : CLe (bodyC P bad spec c) (bodyC P bad spec d) := by
  intro f a W r e
  unfold bodyC at e ⊢
  cases f with
  | func fn fs cs =>
    cases fn with
    | func i =>
      simp only at e ⊢
      cases hb : inL i bad with
      | true => rw [hb] at e; exact e
      | false =>
        rw [hb] at e
        simp only at e ⊢
        cases hf : P.funcs[i]? with
        | none => rw [hf] at e; cases e
        | some fn =>
          rw [hf] at e
          simp only at e ⊢
          cases hc : fn.body with
          | none => rw [hc] at e; cases e
          | some k =>
            rw [hc] at e
            simp only at e ⊢
            cases hl : Nat.ble (fs.toList.length + (a.length + cs.toList.length)) fn.ntmps with
            | false => rw [hl] at e; cases e
            | true =>
              rw [hl] at e
              simp only at e ⊢
              cases hk : aCode P c true fn.ntmps k (argGo 0 (fs.toList ++ (a ++ cs.toList)) PlanTab.blank) W with
              | none => rw [hk] at e; cases e
              | some q => rw [hk] at e; rw [aCode_le h k hk]; exact e
    | yield l =>
      simp only at e ⊢
      split at e
      case h_2 => cases e
      rename_i R nt ps as bd hl
      cases hn : Nat.beq (fs.toList.length + a.length) ps.size with
      | false => rw [hn] at e; cases e
      | true =>
        rw [hn] at e
        simp only at e ⊢
        cases h1 : aCode P c false nt as (zipGo ps.toList (fs.toList ++ a) R) W with
        | none => rw [h1] at e; cases e
        | some q =>
          rw [h1] at e
          rw [aCode_le h as h1]
          obtain ⟨x, R1, W1⟩ := q
          cases x with
          | normal =>
            simp only at e ⊢
            split at e
            case h_2 => cases e
            rename_i pd9 R9 nt9 ps9 as9 bd9 hg
            cases h2 : aCode P c false nt bd R1 (W1.put l (.loop .busy pd9 R9 nt9 ps9 as9 bd9)) with
            | none => rw [h2] at e; cases e
            | some q2 => rw [h2] at e; rw [aCode_le h bd h2]; exact e
          | exit i => cases e
          | ret => cases e
    | _ => cases e
  | _ => cases e

section
variable {c : Nat → Callee} {o : Callee}
structure Lim (c : Nat → Callee) (o : Callee) : Prop where
  up : ∀ n, CLe (c n) (c (n + 1))
  of : ∀ f a W r, o f a W = some r → ∃ n, c n f a W = some r
theorem Lim.le (h : Lim c o) {m n : Nat} (hmn : m ≤ n) : CLe (c m) (c n) := by
  induction hmn with
  | refl => exact .refl _
  | step _ ih => exact ih.trans (h.up _)
theorem aOpC_lim (h : Lim c o) {op : Oper} {R : PlanTab.Fr} {W : AW} {r : Value × AW} (e : aOpC P o op R W = some r) : ∃ n, aOpC P (c n) op R W = some r := by
  rcases aOpC_dep P op R W with hd | ⟨f, a, hd⟩
  · exact ⟨0, by rw [← e]; exact hd _ _⟩
  · rw [hd] at e
    obtain ⟨n, hn⟩ := h.of _ _ _ _ e
    exact ⟨n, by rw [hd]; exact hn⟩
theorem aStep_lim (h : Lim c o) {ops : Array Oper} {op : Oper} {R : PlanTab.Fr} {W : AW} {r : PlanTab.Fr × AW} (e : aStep P o ops op R W = some r) : ∃ n, aStep P (c n) ops op R W = some r := by
  unfold aStep at e ⊢
  split at e
  · rename_i hw
    cases ho : aOpC P o op R W with
    | none => rw [ho] at e; cases e
    | some q =>
      rw [ho] at e
      obtain ⟨n, hn⟩ := aOpC_lim h ho
      exact ⟨n, by rw [if_pos hw, hn]; exact e⟩
  · rename_i hw; exact ⟨0, by rw [if_neg hw]; exact e⟩
theorem aOps_lim (h : Lim c o) {ops : Array Oper} : ∀ {l : List Oper} {R : PlanTab.Fr} {W : AW} {r : PlanTab.Fr × AW}, aOps P o ops l R W = some r → ∃ n, aOps P (c n) ops l R W = some r := by
  intro l
  induction l with
  | nil => intro R W r e; exact ⟨0, e⟩
  | cons op l ih =>
    intro R W r e
    rw [aOps] at e
    cases hs : aStep P o ops op R W with
    | none => rw [hs] at e; cases e
    | some q =>
      rw [hs] at e
      obtain ⟨n, hn⟩ := aStep_lim h hs
      obtain ⟨m, hm⟩ := ih e
      refine ⟨max n m, ?_⟩
      rw [aOps, aStep_le (h.le (Nat.le_max_left n m)) hn]
      exact aOps_le (h.le (Nat.le_max_right n m)) hm
theorem again_lim (h : Lim c o) {ops : Array Oper} {R : PlanTab.Fr} {W : AW} {j : Nat} (e : again P o ops R W j = true) : ∃ n, again P (c n) ops R W j = true := by
  unfold again at e ⊢
  cases hj : ops[j]? with
  | none => rw [hj] at e; cases e
  | some op =>
    rw [hj] at e
    simp only at e ⊢
    split at e
    · rename_i hw
      cases ho : aOpC P o op R W with
      | none => rw [ho] at e; cases e
      | some q =>
        rw [ho] at e
        obtain ⟨n, hn⟩ := aOpC_lim h ho
        exact ⟨n, by rw [if_pos hw, hn]; exact e⟩
    · rename_i hw; exact ⟨0, by rw [if_neg hw]⟩
theorem all_again_lim (h : Lim c o) {ops : Array Oper} {R : PlanTab.Fr} {W : AW} : ∀ {l : List Nat}, l.all (again P o ops R W) = true → ∃ n, l.all (again P (c n) ops R W) = true := by
  intro l
  induction l with
  | nil => intro _; exact ⟨0, rfl⟩
  | cons j l ih =>
    intro e
    simp only [List.all_cons, Bool.and_eq_true] at e
    obtain ⟨n, hn⟩ := again_lim h e.1
    obtain ⟨m, hm⟩ := ih e.2
    refine ⟨max n m, ?_⟩
    simp only [List.all_cons, Bool.and_eq_true]
    exact ⟨again_le (h.le (Nat.le_max_left n m)) hn, List.all_eq_true.2 fun j hj => again_le (h.le (Nat.le_max_right n m)) (List.all_eq_true.1 hm j hj)⟩
theorem aPlan_lim (h : Lim c o) {ops : Array Oper} : ∀ {l : List (Nat × List Nat)} {R : PlanTab.Fr} {W : AW} {r : PlanTab.Fr × AW}, aPlan P o ops l R W = some r → ∃ n, aPlan P (c n) ops l R W = some r := by
  intro l
  induction l with
  | nil => intro R W r e; exact ⟨0, e⟩
  | cons p l ih =>
    intro R W r e
    obtain ⟨i, re⟩ := p
    rw [aPlan] at e
    cases hi : ops[i]? with
    | none => rw [hi] at e; cases e
    | some op =>
      rw [hi] at e
      simp only at e
      cases hs : aStep P o ops op R W with
      | none => rw [hs] at e; cases e
      | some q =>
        rw [hs] at e
        simp only at e
        split at e
        · rename_i hr
          obtain ⟨n, hn⟩ := aStep_lim h hs
          obtain ⟨m, hm⟩ := all_again_lim h hr
          obtain ⟨k, hk⟩ := ih e
          refine ⟨max n (max m k), ?_⟩
          rw [aPlan, hi]
          simp only
          rw [aStep_le (h.le (Nat.le_max_left n _)) hn]
          simp only
          rw [if_pos (List.all_eq_true.2 fun j hj => again_le (h.le (by omega)) (List.all_eq_true.1 hm j hj))]
          exact aPlan_le (h.le (by omega)) hk
        · cases e
theorem aLoop_lim (h : Lim c o) {top : Bool} {nt : Nat} {k : Code} (ih : ∀ {R : PlanTab.Fr} {W : AW} {r : LT}, aCode P o top nt k R W = some r → ∃ n, aCode P (c n) top nt k R W = some r) :
    ∀ (m : Nat) {R : PlanTab.Fr} {W : AW} {r : LT}, aLoop (aCode P o top nt k) m R W = some r → ∃ n, aLoop (aCode P (c n) top nt k) m R W = some r := by
  intro m
  induction m with
  | zero => intro R W r e; cases e
  | succ m ihm =>
    intro R W r e
    unfold aLoop at e
    cases hb : aCode P o top nt k R W with
    | none => rw [hb] at e; cases e
    | some q =>
      rw [hb] at e
      obtain ⟨n, hn⟩ := ih hb
      obtain ⟨x, R', W'⟩ := q
      cases x with
      | normal =>
        obtain ⟨j, hj⟩ := ihm e
        refine ⟨max n j, ?_⟩
        unfold aLoop
        rw [aCode_le (h.le (Nat.le_max_left n j)) k hn]
        exact aLoop_le (fun R W q hq => aCode_le (h.le (Nat.le_max_right n j)) k hq) _ _ _ _ hj
      | exit i => exact ⟨n, by unfold aLoop; rw [hn]; exact e⟩
      | ret => exact ⟨n, by unfold aLoop; rw [hn]; exact e⟩
theorem aCode_lim (h : Lim c o) {top : Bool} {nt : Nat} : ∀ (k : Code) {R : PlanTab.Fr} {W : AW} {r : LT}, aCode P o top nt k R W = some r → ∃ n, aCode P (c n) top nt k R W = some r := by
  intro k
  induction k with
  | skip => intro R W r e; exact ⟨0, e⟩
  | label l => intro R W r e; exact ⟨0, e⟩
  | exit id => intro R W r e; exact ⟨0, e⟩
  | ret => intro R W r e; exact ⟨0, e⟩
  | goto l => intro R W r e; exact ⟨0, e⟩
  | scope b _ => intro R W r e; exact ⟨0, e⟩
  | refuse s => intro R W r e; exact ⟨0, e⟩
  | region id ops draw =>
    intro R W r e
    unfold aCode at e ⊢
    cases draw with
    | false =>
      simp only at e ⊢
      cases hs : aOps P o ops ops.toList R W with
      | none => rw [hs] at e; cases e
      | some q => rw [hs] at e; obtain ⟨n, hn⟩ := aOps_lim h hs; exact ⟨n, by rw [hn]; exact e⟩
    | true =>
      simp only at e ⊢
      cases hD : PlanTab.D id ops with
      | none =>
        rw [hD] at e
        simp only at e ⊢
        cases hs : aOps P o ops ops.toList R W with
        | none => rw [hs] at e; cases e
        | some q => rw [hs] at e; obtain ⟨n, hn⟩ := aOps_lim h hs; exact ⟨n, by rw [hn]; exact e⟩
      | some pl =>
        rw [hD] at e
        simp only at e ⊢
        cases hs : aPlan P o ops pl R W with
        | none => rw [hs] at e; cases e
        | some q => rw [hs] at e; obtain ⟨n, hn⟩ := aPlan_lim h hs; exact ⟨n, by rw [hn]; exact e⟩
  | seq a b iha ihb =>
    intro R W r e
    rw [aCode] at e
    cases ha : aCode P o top nt a R W with
    | none => rw [ha] at e; cases e
    | some q =>
      rw [ha] at e
      obtain ⟨n, hn⟩ := iha ha
      obtain ⟨x, R', W'⟩ := q
      cases x with
      | normal =>
        obtain ⟨m, hm⟩ := ihb e
        refine ⟨max n m, ?_⟩
        rw [aCode, aCode_le (h.le (Nat.le_max_left n m)) a hn]
        exact aCode_le (h.le (Nat.le_max_right n m)) b hm
      | exit i => exact ⟨n, by rw [aCode, hn]; exact e⟩
      | ret => exact ⟨n, by rw [aCode, hn]; exact e⟩
  | cond q a b iha ihb =>
    intro R W r e
    rw [aCode] at e
    cases ho : aEval R q with
    | bool t => rw [ho] at e; cases t with
      | true => obtain ⟨n, hn⟩ := iha e; exact ⟨n, by rw [aCode, ho]; exact hn⟩
      | false => obtain ⟨n, hn⟩ := ihb e; exact ⟨n, by rw [aCode, ho]; exact hn⟩
    | _ => rw [ho] at e; cases e
  | block id b ih =>
    intro R W r e
    rw [aCode] at e
    cases hb : aCode P o top nt b R W with
    | none => rw [hb] at e; cases e
    | some q => rw [hb] at e; obtain ⟨n, hn⟩ := ih hb; exact ⟨n, by rw [aCode, hn]; exact e⟩
  | loop b ih =>
    intro R W r e
    rw [aCode] at e
    obtain ⟨n, hn⟩ := aLoop_lim h (fun e => ih e) _ e
    exact ⟨n, by rw [aCode]; exact hn⟩
  | rangeFunc f ps as bd _ _ =>
    intro R W r e
    unfold aCode at e ⊢
    cases top with
    | false => cases e
    | true =>
      simp only at e ⊢
      cases hf : aEval R f with
      | func fn fs cs =>
        rw [hf] at e
        cases fn with
        | func i =>
          simp only [AW.new_eq] at e ⊢
          cases hc : o (.func (.func i) fs cs) [.func (.yield W.next) #[] #[]] (W.add (.loop .ready none R nt ps as bd)) with
          | none => rw [hc] at e; cases e
          | some q => rw [hc] at e; obtain ⟨n, hn⟩ := h.of _ _ _ _ hc; exact ⟨n, by rw [hn]; exact e⟩
        | _ => cases e
      | _ => rw [hf] at e; cases e
theorem bodyC_lim (h : Lim c o) {bad : List Nat} {spec : Callee} {f : Value} {a : List Value} {W : AW} {r : Value × AW} (e : bodyC P bad spec o f a W = some r) : ∃ n, bodyC P bad spec (c n) f a W = some r := by
  unfold bodyC at e ⊢
  cases f with
  | func fn fs cs =>
    cases fn with
    | func i =>
      simp only at e ⊢
      cases hb : inL i bad with
      | true => rw [hb] at e; exact ⟨0, e⟩
      | false =>
        rw [hb] at e
        simp only at e ⊢
        cases hf : P.funcs[i]? with
        | none => rw [hf] at e; cases e
        | some fn =>
          rw [hf] at e
          simp only at e ⊢
          cases hc : fn.body with
          | none => rw [hc] at e; cases e
          | some k =>
            rw [hc] at e
            simp only at e ⊢
            cases hl : Nat.ble (fs.toList.length + (a.length + cs.toList.length)) fn.ntmps with
            | false => rw [hl] at e; cases e
            | true =>
              rw [hl] at e
              simp only at e ⊢
              cases hk : aCode P o true fn.ntmps k (argGo 0 (fs.toList ++ (a ++ cs.toList)) PlanTab.blank) W with
              | none => rw [hk] at e; cases e
              | some q => rw [hk] at e; obtain ⟨n, hn⟩ := aCode_lim h k hk; exact ⟨n, by rw [hn]; exact e⟩
    | yield l =>
      simp only at e ⊢
      split at e
      case h_2 => cases e
      rename_i R nt ps as bd hl
      cases hn : Nat.beq (fs.toList.length + a.length) ps.size with
      | false => rw [hn] at e; cases e
      | true =>
        rw [hn] at e
        simp only at e ⊢
        cases h1 : aCode P o false nt as (zipGo ps.toList (fs.toList ++ a) R) W with
        | none => rw [h1] at e; cases e
        | some q =>
          rw [h1] at e
          obtain ⟨n, hn1⟩ := aCode_lim h as h1
          obtain ⟨x, R1, W1⟩ := q
          cases x with
          | normal =>
            simp only at e
            split at e
            case h_2 => cases e
            rename_i pd9 R9 nt9 ps9 as9 bd9 hg
            cases h2 : aCode P o false nt bd R1 (W1.put l (.loop .busy pd9 R9 nt9 ps9 as9 bd9)) with
            | none => rw [h2] at e; cases e
            | some q2 =>
              rw [h2] at e
              obtain ⟨m, hm⟩ := aCode_lim h bd h2
              refine ⟨max n m, ?_⟩
              rw [aCode_le (h.le (Nat.le_max_left n m)) as hn1]
              simp only
              rw [hg]
              simp only
              rw [aCode_le (h.le (Nat.le_max_right n m)) bd hm]
              exact e
          | exit i => cases e
          | ret => cases e
    | _ => cases e
  | _ => cases e
end
end
end Go.Eng
namespace Go.Eng
open Go
set_option linter.unusedSectionVars false
set_option linter.unusedSimpArgs false
set_option linter.unusedVariables false
variable [PlanTab]

theorem FnR.back {σ σ' : Inj} (hs : Sub σ σ') {f u u' : Fn} (h : FnR σ f u) (k : FnR σ' f u') : FnR σ f u' := by
  cases h with
  | func f => cases k; exact .func f
  | yield l g hg =>
    cases k with
    | yield _ g' hg' =>
      have := (hs _ _ hg).symm.trans hg'
      injection this with this
      subst this
      exact .yield l g hg
theorem VR.back {σ σ' : Inj} (hs : Sub σ σ') {v u : Value} (h : VR σ v u) : ∀ {u' : Value}, VR σ' v u' → VR σ v u' := by
  induction h with
  | bool b => intro u' k; cases k; exact .bool b
  | int k n => intro u' k; cases k; exact .int _ _
  | float k n => intro u' k; cases k; exact .float _ _
  | string s => intro u' k; cases k; exact .string s
  | pnil => intro u' k; cases k; exact .pnil
  | ptr a g hg hsp =>
    intro u' k
    cases k with
    | ptr _ g' hg' hs' =>
      have := (hs _ _ hg).symm.trans hg'
      injection this with this
      subst this
      exact .ptr a g hg hsp
  | snil l c => intro u' k; cases k; exact .snil _ _
  | slice a l c c' g hg hsp hc =>
    intro u' k
    cases k with
    | slice _ _ _ c2 g' hg' hs' hc' =>
      have := (hs _ _ hg).symm.trans hg'
      injection this with this
      subst this
      exact .slice a l c c2 g hg hsp hc'
    | sliceE _ a' _ g' hg' hc' =>
      have := (hs _ _ hg).symm.trans hg'
      injection this with this
      subst this
      exact .sliceE a a' c g hg hc'
  | sliceE a a' c g hg hc =>
    intro u' k
    cases k with
    | slice _ _ _ c2 g' hg' hs' hc' =>
      have := (hs _ _ hg).symm.trans hg'
      injection this with this
      subst this
      exact .slice a 0 c c2 g hg hs' hc'
    | sliceE _ a2 _ g' hg' hc' => exact .sliceE a a2 c g hg hc'
  | mnil => intro u' k; cases k; exact .mnil
  | map r g hg =>
    intro u' k
    cases k with
    | map _ g' hg' =>
      have := (hs _ _ hg).symm.trans hg'
      injection this with this
      subst this
      exact .map r g hg
  | nilFunc => intro u' k; cases k; exact .nilFunc
  | func fn fn' fs fs' cs cs' hf h1 _ h3 _ ih1 ih2 =>
    intro u' k
    cases k with
    | func _ fn2 _ fs2 _ cs2 kf k1 k2 k3 k4 =>
      refine .func _ _ _ _ _ _ (hf.back hs kf) k1 (fun i v v' a b => ?_) k3 (fun i v v' a b => ?_)
      · have hi : i < fs'.size := by rw [← h1]; exact (Array.getElem?_eq_some_iff.1 a).1
        exact ih1 i v _ a (Array.getElem?_eq_getElem hi) (k2 i v v' a b)
      · have hi : i < cs'.size := by rw [← h3]; exact (Array.getElem?_eq_some_iff.1 a).1
        exact ih2 i v _ a (Array.getElem?_eq_getElem hi) (k4 i v v' a b)
  | nilIface => intro u' k; cases k; exact .nilIface
  | iface t v v' _ ih =>
    intro u' k
    cases k with
    | iface _ _ v2 k => exact .iface t v v2 (ih k)
  | agg cs cs' h1 _ ih =>
    intro u' k
    cases k with
    | agg _ cs2 k1 k2 =>
      refine .agg _ _ k1 fun i v v' a b => ?_
      have hi : i < cs'.size := by rw [← h1]; exact (Array.getElem?_eq_some_iff.1 a).1
      exact ih i v _ a (Array.getElem?_eq_getElem hi) (k2 i v v' a b)
  | tuple cs cs' h1 _ ih =>
    intro u' k
    cases k with
    | tuple _ cs2 k1 k2 =>
      refine .tuple _ _ k1 fun i v v' a b => ?_
      have hi : i < cs'.size := by rw [← h1]; exact (Array.getElem?_eq_some_iff.1 a).1
      exact ih i v _ a (Array.getElem?_eq_getElem hi) (k2 i v v' a b)
theorem ORel.back {σ σ' : Inj} (hs : Sub σ σ') {h h' : Array Obj} {g : Seg} {o : AObj} (a : ORel σ h g o) (b : ORel σ' h' g o) : ORel σ h' g o := by
  cases o with
  | cells cs =>
    obtain ⟨c1, t1, _, _, _, _, _, e4⟩ := a
    obtain ⟨c2, t2, fr2, f1, f0, f2, f3, f4⟩ := b
    refine ⟨c2, t2, fr2, f1, f0, f2, f3, fun i v hv => ?_⟩
    obtain ⟨v1, _, x⟩ := e4 i v hv
    obtain ⟨v2, y1, y2⟩ := f4 i v hv
    exact ⟨v2, y1, x.back hs y2⟩
  | ro cs =>
    obtain ⟨c1, t1, fr1, _, _, e4⟩ := a
    obtain ⟨c2, t2, fr2, f1, f2, f4⟩ := b
    refine ⟨c2, t2, fr2, f1, f2, fun i v hv => ?_⟩
    obtain ⟨v1, _, x⟩ := e4 i v hv
    obtain ⟨v2, y1, y2⟩ := f4 i v hv
    exact ⟨v2, y1, x.back hs y2⟩
  | map es clock =>
    obtain ⟨e1, e2, es1, _, ⟨e3, e4⟩⟩ := a
    obtain ⟨f1, f2, es2, f3, ⟨f4, f5⟩⟩ := b
    refine ⟨f1, f2, es2, f3, f4, fun i e e' x y => ?_⟩
    have hi : i < es1.toList.length := by rw [← e3]; exact (List.getElem?_eq_some_iff.1 x).1
    obtain ⟨p1, p2, _⟩ := e4 i e _ x (List.getElem?_eq_getElem hi)
    obtain ⟨q1, q2, q3⟩ := f5 i e e' x y
    exact ⟨p1.back hs q1, p2.back hs q2, q3⟩
  | loop st pend R nt ps as bd =>
    obtain ⟨_, _, r1, _, _, _, ⟨_, e4⟩, _, _, _, e8, e9, e10⟩ := a
    obtain ⟨f1, f2, r2, f3, f4, f5, ⟨f6, f7⟩, f8, f9, f10, _, _, _⟩ := b
    exact ⟨f1, f2, r2, f3, f4, f5, ⟨f6, fun t ht => (e4 t ht).back hs (f7 t ht)⟩, f8, f9, f10, e8, e9, e10⟩
  | siter s pos => exact b
  | tc t cs =>
    obtain ⟨_, _, _, c1, _, _, _, e4⟩ := a
    obtain ⟨b1, b2, b3, c2, f1, f2, f3, f4⟩ := b
    refine ⟨b1, b2, b3, c2, f1, f2, f3, fun i v hv => ?_⟩
    obtain ⟨v1, _, x⟩ := e4 i v hv
    obtain ⟨v2, y1, y2⟩ := f4 i v hv
    exact ⟨v2, y1, x.back hs y2⟩

structure Le (W W' : AW) : Prop where
  next : W.next ≤ W'.next
  get : ∀ b, b < W.next → W'.get b = W.get b
theorem Le.refl (W : AW) : Le W W := ⟨Nat.le_refl _, fun _ _ => rfl⟩
theorem Le.trans {A B C : AW} (h : Le A B) (k : Le B C) : Le A C := ⟨Nat.le_trans h.next k.next, fun b hb => (k.get b (Nat.lt_of_lt_of_le hb h.next)).trans (h.get b hb)⟩
theorem Le.add {W W' : AW} (h : Le W W') (o : AObj) : Le W (W'.add o) :=
  ⟨Nat.le_trans h.next (by rw [AW.add_next]; omega), fun b hb => by rw [AW.get_add_ne _ _ (by have := h.next; omega)]; exact h.get b hb⟩
theorem Le.put {W W' : AW} (h : Le W W') {b : Nat} (hb : W.next ≤ b) (o : AObj) : Le W (W'.put b o) :=
  ⟨h.next, fun c hc => by rw [AW.get_put_ne _ _ (by omega)]; exact h.get c hc⟩
theorem Le.kill {W W' : AW} (h : Le W W') {b : Nat} (hb : W.next ≤ b) : Le W (W'.kill b) :=
  ⟨h.next, fun c hc => by rw [AW.get_kill_ne _ (by omega)]; exact h.get c hc⟩

theorem drop_ok {σ σ' : Inj} {W W' : AW} {w w' : World} (hW : WRel σ W w.heap) (hle : Le W W') (h1 : WRel σ' W' w'.heap) (he : Ext σ W w σ' W' w') : WRel σ W w'.heap ∧ Ext σ W w σ W w' := by
  have hlt : ∀ b o, W.get b = some o → b < W.next := fun b o hb => by
    rcases Nat.lt_or_ge b W.next with h | h
    · exact h
    · rw [hW.free b h] at hb; cases hb
  refine ⟨⟨hW.free, fun b g hg => ⟨(hW.dom b g hg).1, Nat.lt_of_lt_of_le (hW.dom b g hg).2 he.size⟩, fun b o g hb hg => ?_, fun b1 b2 o1 o2 g1 g2 hne a1 a2 k1 k2 hr => ?_⟩,
    ⟨.refl _, fun _ _ h => h, he.size, he.os, he.tape, he.output, he.keep, fun _ _ h k => ⟨h, k⟩, fun b g hg _ => .inl hg⟩⟩
  · exact (hW.obj b o g hb hg).back he.sub (h1.obj b o g (by rw [hle.get b (hlt b o hb)]; exact hb) (he.sub _ _ hg))
  · exact hW.disj b1 b2 o1 o2 g1 g2 hne a1 a2 k1 k2 hr

def isU : Value → Bool
  | .tuple vs => vs.isEmpty
  | _ => false
noncomputable def gc (W : AW) (r : Value × AW) : Value × AW :=
  open Classical in if (plain r.1 && !isU r.1) = true ∧ Le W r.2 then (r.1, W) else r
theorem gc_plain {W W' : AW} {v : Value} (hv : (plain v && !isU v) = true) (h : Le W W') : gc W (v, W') = (v, W) := by
  unfold gc; rw [if_pos ⟨hv, h⟩]
theorem gc_not {W W' : AW} {v : Value} (hv : (plain v && !isU v) = false) : gc W (v, W') = (v, W') := by
  unfold gc; rw [if_neg (by simp only [hv]; simp)]
noncomputable def gcF (f : Value) (W : AW) (r : Value × AW) : Value × AW := match f with
  | .func (.func _) _ _ => gc W r
  | _ => r
theorem gc_ok {P : Program} {ng : List Nat} {c : Callee} (hc : CalleeOK P ng c) : CalleeOK P ng fun f a W => (c f a W).map (gcF f W) := by
  intro f args W v W' h σ w f' args' hW hG hf hargs
  simp only at h
  cases hr : c f args W with
  | none => rw [hr] at h; cases h
  | some q =>
    rw [hr] at h
    obtain ⟨v1, W1⟩ := q
    have hk := hc f args W v1 W1 hr σ w f' args' hW hG hf hargs
    simp only [Option.map_some, Option.some.injEq] at h
    unfold gcF at h
    split at h
    case h_2 => injection h with e1 e2; subst e1; subst e2; exact hk
    unfold gc at h
    split at h
    · rename_i hp
      injection h with e1 e2
      subst e1; subst e2
      have hpl : plain v1 = true := (Bool.and_eq_true _ _ ▸ hp.1).1
      have key : ∀ (R R' : Value → World → Prop), (∀ v' w', R v' w' → R' v' w') → CallV P f' args' w R → CallV P f' args' w R' := by
        intro R R' hRR hC
        unfold CallV at hC ⊢
        split at hC
        · exact ⟨hC.1, CallsIn.mono hC.2 fun e w' ⟨u, hu, hr⟩ => ⟨u, hu, hRR _ _ hr⟩⟩
        · obtain ⟨f, tmps, as, bd, k1, k2⟩ := hC
          exact ⟨f, tmps, as, bd, k1, RoundIn.mono k2 fun e w' ⟨u, hu, hr⟩ => ⟨u, hu, hRR _ _ hr⟩⟩
        · exact hC.elim
      refine key _ _ (fun v' w' ⟨σ', k1, k2, k3⟩ => ?_) hk
      obtain ⟨d1, d2⟩ := drop_ok hW hp.2 k2 k3
      have : v' = v1 := plain_eq hpl k1
      subst this
      exact ⟨σ, plain_refl hpl, d1, d2⟩
    · injection h with e1 e2; subst e1; subst e2; exact hk

section
variable (P : Program) (bad : List Nat) (spec : Callee)
noncomputable def gC : Nat → Callee
  | 0 => fun _ _ _ => none
  | n + 1 => fun f a W => (bodyC P bad spec (gC n) f a W).map (gcF f W)
theorem gC_up : ∀ n, CLe (gC P bad spec n) (gC P bad spec (n + 1)) := by
  intro n
  induction n with
  | zero => intro f a W r h; cases h
  | succ n ih =>
    intro f a W r h
    have h' : (bodyC P bad spec (gC P bad spec n) f a W).map (gcF f W) = some r := h
    show (bodyC P bad spec (gC P bad spec (n + 1)) f a W).map (gcF f W) = some r
    cases hb : bodyC P bad spec (gC P bad spec n) f a W with
    | none => rw [hb] at h'; cases h'
    | some q => rw [hb] at h'; rw [bodyC_le ih _ _ _ _ hb]; exact h'
noncomputable def om : Callee := fun f a W => open Classical in if h : ∃ r n, gC P bad spec n f a W = some r then some (Classical.choose h) else none
theorem om_lim : Lim (gC P bad spec) (om P bad spec) := by
  refine ⟨gC_up P bad spec, fun f a W r h => ?_⟩
  unfold om at h
  split at h
  · rename_i hx
    injection h with h
    subst h
    exact Classical.choose_spec hx
  · cases h
theorem om_ge {n : Nat} {f : Value} {a : List Value} {W : AW} {r : Value × AW} (h : gC P bad spec n f a W = some r) : om P bad spec f a W = some r := by
  have hx : ∃ r n, gC P bad spec n f a W = some r := ⟨r, n, h⟩
  unfold om
  rw [dif_pos hx]
  obtain ⟨m, hm⟩ := Classical.choose_spec hx
  have h1 := (om_lim P bad spec).le (Nat.le_max_left n m) _ _ _ _ h
  have h2 := (om_lim P bad spec).le (Nat.le_max_right n m) _ _ _ _ hm
  rw [h1] at h2
  exact h2.symm
theorem om_body {f : Value} {a : List Value} {W : AW} {r : Value × AW} (h : bodyC P bad spec (om P bad spec) f a W = some r) : om P bad spec f a W = some (gcF f W r) := by
  obtain ⟨n, hn⟩ := bodyC_lim (om_lim P bad spec) h
  refine om_ge P bad spec (n := n + 1) ?_
  show (bodyC P bad spec (gC P bad spec n) f a W).map (gcF f W) = _
  rw [hn]; rfl
variable {P bad spec}
theorem gC_ok (hm : P.follows .mixedOrders = true) (hP : funsOk PlanTab.ng bad 0 P.funcs.toList = true) (hs : CalleeOK P PlanTab.ng spec) : ∀ n, CalleeOK P PlanTab.ng (gC P bad spec n)
  | 0 => fun f args W v W' h => by cases h
  | n + 1 => gc_ok (callee_step hm rfl hP hs (gC_ok hm hP hs n))
theorem om_ok (hm : P.follows .mixedOrders = true) (hP : funsOk PlanTab.ng bad 0 P.funcs.toList = true) (hs : CalleeOK P PlanTab.ng spec) : CalleeOK P PlanTab.ng (om P bad spec) := by
  intro f args W v W' h
  obtain ⟨n, hn⟩ := (om_lim P bad spec).of _ _ _ _ h
  exact gC_ok hm hP hs n f args W v W' hn
theorem om_fun {i : Nat} {fn : Func} {c : Code} (hb : inL i bad = false) (hf : P.funcs[i]? = some fn) (hc : fn.body = some c) {fs cs : Array Value} {args : List Value}
    (hn : Nat.ble (fs.toList.length + (args.length + cs.toList.length)) fn.ntmps = true) {W : AW} {r : Value × AW} (h : kFun P (om P bad spec) fn.ntmps c fn.results (fs.toList ++ (args ++ cs.toList)) W = some r) :
    om P bad spec (.func (.func i) fs cs) args W = some (gc W r) := om_body P bad spec (bodyC_fun hb hf hc hn h)
theorem om_yield {l nt : Nat} {R : PlanTab.Fr} {ps : Array Tmp} {as bd : Code} {W : AW} (hl : W.get l = some (.loop .ready none R nt ps as bd)) {fs cs : Array Value} {args : List Value} (hn : fs.toList.length + args.length = ps.size)
    {r : Value × AW} (h : kYield P (om P bad spec) l nt as bd (zipGo ps.toList (fs.toList ++ args) R) W = some r) : om P bad spec (.func (.yield l) fs cs) args W = some r := om_body P bad spec (bodyC_yield hl hn h)
theorem om_spec {i : Nat} (hb : inL i bad = true) {fs cs : Array Value} {args : List Value} {W : AW} {r : Value × AW} (h : spec (.func (.func i) fs cs) args W = some r) :
    om P bad spec (.func (.func i) fs cs) args W = some (gc W r) := by
  refine om_body P bad spec ?_
  unfold bodyC
  simp only [hb]
  exact h
end
end Go.Eng
namespace Go.Eng
open Go
set_option linter.unusedSectionVars false
set_option linter.unusedSimpArgs false
set_option linter.unusedVariables false
variable [PlanTab]

theorem bnd_some {α ρ : Type} (a : α) (g : α → Option ρ) : bnd (some a) g = g a := by rw [bnd_eq]; rfl
section
variable {P : Program} {W : AW}
theorem oMv_eq (v : Value) : oMv v W = some (v, W) := Eq.trans rfl rfl
theorem oBox_agg (cs : Array Value) : oBox (.agg cs) W = some (.pointer (some ⟨W.next, 0, none⟩), W.add (.cells cs.toList)) := Eq.trans rfl rfl
theorem oBox_int (k : IntKind) (n : Int) : oBox (.int k n) W = some (.pointer (some ⟨W.next, 0, none⟩), W.add (.cells [.int k n])) := Eq.trans rfl rfl
theorem oBox_bool (b : Bool) : oBox (.bool b) W = some (.pointer (some ⟨W.next, 0, none⟩), W.add (.cells [.bool b])) := Eq.trans rfl rfl
theorem oBox_string (s : ByteArray) : oBox (.string s) W = some (.pointer (some ⟨W.next, 0, none⟩), W.add (.cells [.string s])) := Eq.trans rfl rfl
theorem oBox_slice (a : Option Addr) (l c : Nat) : oBox (.slice a l c) W = some (.pointer (some ⟨W.next, 0, none⟩), W.add (.cells [.slice a l c])) := Eq.trans rfl rfl
theorem oBox_func (f : Fn) (a b : Array Value) : oBox (.func f a b) W = some (.pointer (some ⟨W.next, 0, none⟩), W.add (.cells [.func f a b])) := Eq.trans rfl rfl
theorem oMkFunc_eq (f : FuncId) (a b : Array Value) : oMkFunc (.func f) a b W = some (.func (.func f) a b, W) := Eq.trans rfl rfl
theorem oExtract_2_0 (a b : Value) : oExtract (.tuple #[a, b]) 0 W = some (a, W) := Eq.trans rfl rfl
theorem oExtract_2_1 (a b : Value) : oExtract (.tuple #[a, b]) 1 W = some (b, W) := Eq.trans rfl rfl
theorem oExtract_3_0 (a b c : Value) : oExtract (.tuple #[a, b, c]) 0 W = some (a, W) := Eq.trans rfl rfl
theorem oExtract_3_1 (a b c : Value) : oExtract (.tuple #[a, b, c]) 1 W = some (b, W) := Eq.trans rfl rfl
theorem oExtract_3_2 (a b c : Value) : oExtract (.tuple #[a, b, c]) 2 W = some (c, W) := Eq.trans rfl rfl
theorem wnt_true (b : Bool) : wnt (.bool b) true = b := by cases b <;> exact Eq.trans rfl rfl
theorem wnt_false (b : Bool) : wnt (.bool b) false = !b := by cases b <;> exact Eq.trans rfl rfl
theorem bIf_true {ρ : Type} (a b : ρ) : bIf true a b = a := Eq.trans rfl rfl
theorem bIf_false {ρ : Type} (a b : ρ) : bIf false a b = b := Eq.trans rfl rfl
theorem vIf_bool {ρ : Type} (c : Bool) (a b : Option ρ) : vIf (.bool c) a b = bIf c a b := Eq.trans rfl rfl
theorem oPick_bool (c : Bool) (a b : Value) : oPick (.bool c) a b W = some (bIf c a b, W) := by cases c <;> exact Eq.trans rfl rfl
theorem kNorm_normal {ρ : Type} (a b : Option ρ) : kNorm X.normal a b = a := Eq.trans rfl rfl
theorem kNorm_exit {ρ : Type} (i : Nat) (a b : Option ρ) : kNorm (X.exit i) a b = b := Eq.trans rfl rfl
theorem kNorm_ret {ρ : Type} (a b : Option ρ) : kNorm X.ret a b = b := Eq.trans rfl rfl
theorem kExit_same {ρ : Type} (i : Nat) (a b : Option ρ) : kExit i (X.exit i) a b = a := by
  show Bool.rec b a (Nat.beq i i) = a
  rw [Nat.beq_refl]
theorem kExit_ret {ρ : Type} (i : Nat) (a b : Option ρ) : kExit i X.ret a b = b := Eq.trans rfl rfl
theorem kExit_normal {ρ : Type} (i : Nat) (a b : Option ρ) : kExit i X.normal a b = b := Eq.trans rfl rfl
theorem kRetX_ret {ρ : Type} (a : Option ρ) : kRetX X.ret a = a := Eq.trans rfl rfl
theorem oUn_not (b : Bool) : oUn P .not (.bool b) W = some (.bool (!b), W) := Eq.trans rfl rfl
theorem fnV_eq (f : FuncId) : fnV f = .func (.func f) #[] #[] := Eq.trans rfl rfl

theorem oBin_int {op : BinOp} {t : TypeId} {c d : Bool} {k : IntKind} {a b : Int} {v : Value} (h : aInt op k a b = some v) : oBin P op t c d (.int k a) (.int k b) W = some (v, W) := by
  unfold oBin aBin
  simp only [if_pos, h]
theorem wrap_i64 {n : Int} (h1 : -9223372036854775808 ≤ n) (h2 : n < 9223372036854775808) : IntKind.i64.wrap n = n := by
  unfold IntKind.wrap
  simp only [IntKind.bits, IntKind.signed, Bool.true_and]
  split <;> rename_i h <;> simp at h <;> omega
theorem oBin_add {t : TypeId} {c d : Bool} {a b : Int} (h1 : -9223372036854775808 ≤ a + b) (h2 : a + b < 9223372036854775808) : oBin P .add t c d (.int .i64 a) (.int .i64 b) W = some (.int .i64 (a + b), W) :=
  oBin_int (by simp only [aInt, forceI_eq, wrapF_eq, wrap_i64 h1 h2])
theorem oBin_sub {t : TypeId} {c d : Bool} {a b : Int} (h1 : -9223372036854775808 ≤ a - b) (h2 : a - b < 9223372036854775808) : oBin P .sub t c d (.int .i64 a) (.int .i64 b) W = some (.int .i64 (a - b), W) :=
  oBin_int (by simp only [aInt, forceI_eq, wrapF_eq, wrap_i64 h1 h2])
theorem oBin_lss {t : TypeId} {c d : Bool} {k : IntKind} {a b : Int} : oBin P .lss t c d (.int k a) (.int k b) W = some (.bool (decide (a < b)), W) := oBin_int rfl
theorem oBin_leq {t : TypeId} {c d : Bool} {k : IntKind} {a b : Int} : oBin P .leq t c d (.int k a) (.int k b) W = some (.bool (decide (a ≤ b)), W) := oBin_int rfl
theorem oBin_gtr {t : TypeId} {c d : Bool} {k : IntKind} {a b : Int} : oBin P .gtr t c d (.int k a) (.int k b) W = some (.bool (decide (b < a)), W) := oBin_int rfl
theorem oBin_geq {t : TypeId} {c d : Bool} {k : IntKind} {a b : Int} : oBin P .geq t c d (.int k a) (.int k b) W = some (.bool (decide (b ≤ a)), W) := oBin_int rfl
theorem oBin_eql {t : TypeId} {c d : Bool} {k : IntKind} {a b : Int} : oBin P .eql t c d (.int k a) (.int k b) W = some (.bool (decide (a = b)), W) := oBin_int rfl
theorem oBin_neq {t : TypeId} {c d : Bool} {k : IntKind} {a b : Int} : oBin P .neq t c d (.int k a) (.int k b) W = some (.bool (!decide (a = b)), W) := oBin_int rfl
theorem pureNext {s : Sem Value} {v : Value} (h : pureRun P s = some v) : nextVal (pureRun P (do pure (.value (← s)))) = some v := by
  induction s with
  | pure a => simp only [pureRun] at h; injection h with h; subst h; rfl
  | program k ih => exact ih P h
  | _ => simp [pureRun] at h
theorem oBin_pure {op : BinOp} {t : TypeId} {c d : Bool} {x y v : Value} (h0 : aBin P W op t x y = none) (hx : plain x = true) (hy : plain y = true) (hv : plain v = true)
    (hp : pureRun P (do eqGuard op t (opd c) (opd d) x y; binOp op t x y : Sem Value) = some v) : oBin P op t c d x y W = some (v, W) := by
  unfold oBin
  rw [h0]
  simp only [pureS, hx, hy, Bool.and_self, if_true, pureNext hp, hv, Option.map_some]
theorem pureRun_bind {α β : Type} (s : Sem α) (f : α → Sem β) : pureRun P (s >>= f) = (pureRun P s).bind fun a => pureRun P (f a) := by
  induction s with
  | pure a => rfl
  | program k ih => exact ih P
  | _ => rfl
theorem pureRun_pure {α : Type} (a : α) : pureRun P (pure a : Sem α) = some a := Eq.trans rfl rfl
theorem pureRun_program : pureRun P (program : Sem Program) = some P := Eq.trans rfl rfl
theorem pureRun_underlying {t : TypeId} {d : TypeDesc} (h : P.underlying t = some d) : pureRun P (underlying t) = some d := by
  unfold underlying
  simp only [pureRun_bind, pureRun_program, Option.bind_some, h, pureRun_pure]
theorem oBin_strings_eql {t : TypeId} {c d : Bool} {a b : ByteArray} : oBin P .eql t c d (.string a) (.string b) W = some (.bool (a.toList == b.toList), W) := by
  refine oBin_pure ?_ rfl rfl rfl ?_
  · simp only [aBin]
    have h1 : aEql P W t (.string a) (.string b) = none := by unfold aEql; split <;> first | rfl | simp_all
    rw [h1]; rfl
  · rfl
theorem oBin_strings_neq {t : TypeId} {c d : Bool} {a b : ByteArray} : oBin P .neq t c d (.string a) (.string b) W = some (.bool (!(a.toList == b.toList)), W) := by
  refine oBin_pure ?_ rfl rfl rfl ?_
  · simp only [aBin]
    have h1 : aEql P W t (.string a) (.string b) = none := by unfold aEql; split <;> first | rfl | simp_all
    rw [h1]; rfl
  · rfl
theorem len_slice {ts : Array TypeId} {ty : TypeId} {cf : Array Bool} {e : TypeId} (h : (ts[0]?).bind P.underlying = some (.slice e)) (a : Option Addr) (n c : Nat) : oBuiltin P .len ts ty cf [.slice a n c] W = some (.int .i64 n, W) := by
  unfold oBuiltin
  simp only [h]
  rfl
theorem oRes_none1 (v : Value) : oRes P [(v, none)] W = some (v, W) := Eq.trans rfl rfl
theorem oRes_none2 (v u : Value) : oRes P [(v, none), (u, none)] W = some (.tuple #[v, u], W) := Eq.trans rfl rfl
theorem oRes_none3 (v u x : Value) : oRes P [(v, none), (u, none), (x, none)] W = some (.tuple #[v, u, x], W) := Eq.trans rfl rfl
theorem oRes_nil : oRes P [] W = some (.tuple #[], W) := Eq.trans rfl rfl

theorem ldC_ok {b o : Nat} {cs : List Value} {v : Value} (h : cellsAt W b = some cs) (hv : cs[o]? = some v) : ldC (.pointer (some ⟨b, o, none⟩)) W = some (v, W) := by
  unfold ldC
  simp only [h, lget_eq, hv, Option.map_some]
theorem ldA_ok {n b o : Nat} {cs : List Value} (h : cellsAt W b = some cs) (hv : ((cs.drop o).take n).length = n) : ldA n (.pointer (some ⟨b, o, none⟩)) W = some (.agg ((cs.drop o).take n).toArray, W) := by
  unfold ldA
  simp only [readN_def, h, hv, if_true, Option.map_some]
theorem cellsAt_of {b : Nat} {cs : List Value} (h : W.get b = some (.cells cs)) : cellsAt W b = some cs := by unfold cellsAt; rw [h]
theorem cellsAt_ro {b : Nat} {cs : List Value} (h : W.get b = some (.ro cs)) : cellsAt W b = some cs := by unfold cellsAt; rw [h]
theorem cellsAt_new {cs : List Value} : cellsAt (W.add (.cells cs)) W.next = some cs := cellsAt_of (W.get_add _)
theorem cellsAt_add {b : Nat} (o : AObj) (h : b < W.next) : cellsAt (W.add o) b = cellsAt W b := by unfold cellsAt; rw [W.get_add_ne o (by omega)]
theorem cellsAt_put {b : Nat} (cs : List Value) : cellsAt (W.put b (.cells cs)) b = some cs := cellsAt_of (W.get_put _ _)
theorem cellsAt_put_ne {b c : Nat} (o : AObj) (h : b ≠ c) : cellsAt (W.put b o) c = cellsAt W c := by unfold cellsAt; rw [W.get_put_ne o h]
theorem Le.cellsAt {W W' : AW} (h : Le W W') {b : Nat} (hb : b < W.next) : cellsAt W' b = cellsAt W b := by unfold Eng.cellsAt; rw [h.get b hb]
theorem stV_ok {n b o : Nat} {cs : List Value} {v : Value} (h : W.get b = some (.cells cs)) (hn : v.cells.size = n) (hl : o + v.cells.toList.length ≤ cs.length) (h1 : v.cells.toList.all one = true) :
    stV n (.pointer (some ⟨b, o, none⟩)) v W = some (undef, W.put b (.cells (setN cs o v.cells.toList))) := by
  unfold stV
  simp only [hn, if_true, writeC_def, h, if_pos (show o + v.cells.toList.length ≤ cs.length ∧ v.cells.toList.all one = true from ⟨hl, h1⟩), Option.map_some]
theorem faO_ok {b o off : Nat} : faO off (.pointer (some ⟨b, o, none⟩)) W = some (.pointer (some ⟨b, o + off, none⟩), W) := by
  unfold faO
  simp only [addr_add]
theorem ixS_ok {z b o l c i : Nat} {k : IntKind} (h : i < l) : ixS z (.slice (some ⟨b, o, none⟩) l c) (.int k (i : Int)) W = some (.pointer (some ⟨b, o + i * z, none⟩), W) := by
  unfold ixS
  simp only [natOf, if_pos h, addr_add]
theorem ixA_ok {len z b o i : Nat} {k : IntKind} (h : i < len) : ixA len z (.pointer (some ⟨b, o, none⟩)) (.int k (i : Int)) W = some (.pointer (some ⟨b, o + i * z, none⟩), W) := by
  unfold ixA
  simp only [natOf, if_pos h, addr_add]
end

section
variable {P : Program} {W : AW}
theorem ldC_eq {b o : Nat} : ldC (.pointer (some ⟨b, o, none⟩)) W = (cellsAt W b).bind fun cs => (cs[o]?).map fun v => (v, W) := by
  unfold ldC
  simp only
  cases cellsAt W b with
  | none => rfl
  | some cs => simp only [Option.bind_some, lget_eq]
theorem ldA_eq {n b o : Nat} : ldA n (.pointer (some ⟨b, o, none⟩)) W = (cellsAt W b).bind fun cs => if ((cs.drop o).take n).length = n then some (.agg ((cs.drop o).take n).toArray, W) else none := by
  unfold ldA
  simp only [readN_def]
  cases cellsAt W b with
  | none => rfl
  | some cs =>
    simp only [Option.bind_some]
    by_cases h : ((cs.drop o).take n).length = n
    · rw [if_pos h, if_pos h]; rfl
    · rw [if_neg h, if_neg h]; rfl
noncomputable def rwCells (W : AW) (b : Nat) : Option (List Value) := match W.get b with | some (.cells cs) => some cs | _ => none
theorem rwCells_cellsAt {b : Nat} {cs : List Value} (h : rwCells W b = some cs) : cellsAt W b = some cs := by
  unfold rwCells at h
  split at h
  · rename_i cs' hg; injection h with h; subst h; exact cellsAt_of hg
  · cases h
theorem rwCells_of {b : Nat} {cs : List Value} (h : W.get b = some (.cells cs)) : rwCells W b = some cs := by unfold rwCells; rw [h]
theorem rwCells_new {cs : List Value} : rwCells (W.add (.cells cs)) W.next = some cs := rwCells_of (W.get_add _)
theorem rwCells_add {b : Nat} (o : AObj) (h : b < W.next) : rwCells (W.add o) b = rwCells W b := by unfold rwCells; rw [W.get_add_ne o (by omega)]
theorem rwCells_put {b : Nat} (cs : List Value) : rwCells (W.put b (.cells cs)) b = some cs := rwCells_of (W.get_put _ _)
theorem rwCells_put_ne {b c : Nat} (o : AObj) (h : b ≠ c) : rwCells (W.put b o) c = rwCells W c := by unfold rwCells; rw [W.get_put_ne o h]
theorem Le.rwCells {W W' : AW} (h : Le W W') {b : Nat} (hb : b < W.next) : rwCells W' b = rwCells W b := by unfold Eng.rwCells; rw [h.get b hb]
theorem stV_eq {n b o : Nat} {v : Value} : stV n (.pointer (some ⟨b, o, none⟩)) v W = (rwCells W b).bind fun cs => if v.cells.size = n ∧ o + v.cells.toList.length ≤ cs.length ∧ v.cells.toList.all one = true then some (undef, W.put b (.cells (setN cs o v.cells.toList))) else none := by
  unfold stV rwCells
  simp only [writeC_def]
  by_cases h : v.cells.size = n
  · rw [if_pos h]
    cases hg : W.get b with
    | none => rfl
    | some obj =>
      cases obj with
      | cells cs =>
        simp only [Option.bind_some]
        by_cases h2 : o + v.cells.toList.length ≤ cs.length ∧ v.cells.toList.all one = true
        · rw [if_pos h2, if_pos ⟨h, h2⟩]; rfl
        · rw [if_neg h2, if_neg (fun x => h2 x.2)]; rfl
      | _ => rfl
  · rw [if_neg h]
    cases hg : W.get b with
    | none => rfl
    | some obj =>
      cases obj with
      | cells cs => simp only [Option.bind_some]; rw [if_neg (fun x => h x.1)]; rfl
      | _ => rfl
def sliceZ (P : Program) (t : TypeId) : Option Nat := match P.underlying t with
  | some (.slice e) => tSz P e
  | _ => none
theorem sliceZ_inv {t : TypeId} {z : Nat} (h : sliceZ P t = some z) : ∃ e, P.underlying t = some (.slice e) ∧ tSz P e = some z := by
  unfold sliceZ at h
  split at h
  · rename_i e hu; exact ⟨e, hu, h⟩
  · cases h
theorem oSlice_to {t : TypeId} {z : Nat} (hz : sliceZ P t = some z) {b o l c h : Nat} {k : IntKind} (h1 : h ≤ c) (h2 : c < BIG) :
    oSlice P t (.slice (some ⟨b, o, none⟩) l c) none (some (.int k (h : Int))) none W = some (.slice (some ⟨b, o, none⟩) h c, W) := by
  obtain ⟨e, he, hz⟩ := sliceZ_inv hz
  have hb : ¬ (c = BIG + z ∧ 0 < z) := fun x => by omega
  have h0 : ((⟨b, o, none⟩ : Addr).add (0 * z)) = ⟨b, o, none⟩ := by rw [addr_add]; simp
  unfold oSlice aSlice
  simp only [he, hz, boundOf, natOf, Nat.zero_le, if_true, if_neg hb, if_pos (And.intro h2 h1), Nat.sub_zero, h0, ite_self]
theorem oSlice_to_nil {t : TypeId} {z : Nat} (hz : sliceZ P t = some z) {k : IntKind} :
    oSlice P t (.slice none 0 0) none (some (.int k (0 : Nat))) none W = some (.slice none 0 0, W) := by
  obtain ⟨e, he, hz⟩ := sliceZ_inv hz
  unfold oSlice aSlice
  simp only [he, hz, boundOf, natOf, Nat.le_refl, and_self, if_true, Nat.sub_zero]
def appOk (P : Program) (ts : Array TypeId) (z bytes : Nat) : Bool := match ts.toList with
  | [t0, t1] => Nat.beq t0 t1 && (match sliceElem P t0 with
    | some e => (match tSz P e, (P.info? e).map (fun i => (i.zero, i.bytes)) with
      | some z', some (some zv, bytes') => Nat.beq z' z && Nat.beq bytes' bytes && Nat.blt 0 z && Nat.beq zv.cells.size z
      | _, _ => false)
    | none => false)
  | _ => false
theorem appOk_inv {ts : Array TypeId} {z bytes : Nat} (h : appOk P ts z bytes = true) : ∃ t e zv, ts.toList = [t, t] ∧ sliceElem P t = some e ∧ tSz P e = some z ∧ (P.info? e).map (fun i => (i.zero, i.bytes)) = some (some zv, bytes) ∧ 0 < z ∧ zv.cells.size = z := by
  unfold appOk at h
  split at h
  case h_2 => cases h
  rename_i t0 t1 hl
  simp only [Bool.and_eq_true, Nat.beq_eq] at h
  obtain ⟨h0, h⟩ := h
  subst h0
  split at h
  case h_2 => cases h
  rename_i e he
  split at h
  case h_2 => cases h
  rename_i z' zv b' h1 h2
  simp only [Bool.and_eq_true, Nat.beq_eq, Nat.blt_eq] at h
  obtain ⟨⟨⟨h3, h4⟩, h5⟩, h6⟩ := h
  subst h3; subst h4
  exact ⟨t0, e, zv, hl, he, h1, h2, h5, h6⟩
theorem app_nil {ts : Array TypeId} {z bytes : Nat} (hk : appOk P ts z bytes = true) {b o n c : Nat} {cs new : List Value} (hc : cellsAt W b = some cs) (hn : new = (cs.drop o).take (n * z)) (hl : new.length = n * z) (h0 : 0 < n) (h1 : new.all one = true)
    (hb : n < 1099511627776) (hb2 : (2 * n + 192) * bytes ≤ 281474976710656) :
    aAppend P W ts (.slice none 0 0) (.slice (some ⟨b, o, none⟩) n c) = some (.slice (some ⟨W.next, 0, none⟩) n (BIG + z), W.add (.cells new)) := by
  obtain ⟨t, e, zv, k1, k2, k3, k4, k5, k6⟩ := appOk_inv hk
  have hr : readN W b o (n * z) = some new := by rw [readN_def, hc]; simp only; rw [if_pos (by rw [← hn]; exact hl), hn]
  have hB : (0 : Nat) < BIG := by unfold BIG; omega
  have hB2 : ¬ (0 : Nat) = BIG + z := by unfold BIG; omega
  have hr1 : readSlice W (.slice (some ⟨b, o, none⟩) n c) (n * z) = some new := by
    unfold readSlice
    simp only
    rw [if_neg (by have := Nat.mul_pos h0 k5; omega), if_neg (by omega)]
    exact hr
  have hr2 : readSlice W (.slice none 0 0) (0 * z) = some [] := by unfold readSlice; simp
  unfold aAppend
  simp only [k1, k2, k3, k4, if_true, Nat.zero_add, if_pos (And.intro k5 (And.intro k6 (And.intro hb hb2))), if_neg (show ¬ n = 0 by omega), hr1, hr2, h1, if_neg hB2, if_pos hB, and_self, List.nil_append, AW.new_eq]
theorem app_on {ts : Array TypeId} {z bytes : Nat} (hk : appOk P ts z bytes = true) {b o n c : Nat} {cs new : List Value} (hc : cellsAt W b = some cs) (hn : new = (cs.drop o).take (n * z)) (hl : new.length = n * z) (h0 : 0 < n) (h1 : new.all one = true)
    {B m : Nat} {old : List Value} (ho : W.get B = some (.cells old)) (hol : old.length = m * z)
    (hb : m + n < 1099511627776) (hb2 : (2 * (m + n) + 192) * bytes ≤ 281474976710656) (hm : 0 < m) :
    aAppend P W ts (.slice (some ⟨B, 0, none⟩) m (BIG + z)) (.slice (some ⟨b, o, none⟩) n c) = some (.slice (some ⟨W.next, 0, none⟩) (m + n) (BIG + z), (W.kill B).add (.cells (old ++ new))) := by
  obtain ⟨t, e, zv, k1, k2, k3, k4, k5, k6⟩ := appOk_inv hk
  have hr : readN W b o (n * z) = some new := by rw [readN_def, hc]; simp only; rw [if_pos (by rw [← hn]; exact hl), hn]
  have hr1 : readSlice W (.slice (some ⟨b, o, none⟩) n c) (n * z) = some new := by
    unfold readSlice
    simp only
    rw [if_neg (by have := Nat.mul_pos h0 k5; omega), if_neg (by omega)]
    exact hr
  have hro : readN W B 0 (m * z) = some old := by
    rw [readN_def, cellsAt_of ho]; simp only [List.drop_zero]
    rw [List.take_of_length_le (by omega), if_pos hol]
  have hr2 : readSlice W (.slice (some ⟨B, 0, none⟩) m (BIG + z)) (m * z) = some old := by
    unfold readSlice
    simp only
    rw [if_neg (by have := Nat.mul_pos hm k5; omega), if_neg (by omega)]
    exact hro
  unfold aAppend
  simp only [k1, k2, k3, k4, if_true, if_pos (And.intro k5 (And.intro k6 (And.intro hb hb2))), if_neg (show ¬ n = 0 by omega), hr1, hr2, h1, ho, AW.new_eq, AW.kill_next]
end

theorem aLoop_some {body : PlanTab.Fr → AW → Option LT} : ∀ (n m : Nat) (I : Nat → PlanTab.Fr → AW → Prop) (Q : LT → Prop) (R : PlanTab.Fr) (W : AW), n < m → I 0 R W →
    (∀ k R W, k < n → I k R W → ∃ r, body R W = some r ∧ ((r.1 = .normal ∧ I (k + 1) r.2.1 r.2.2) ∨ (r.1 ≠ .normal ∧ Q r))) →
    (∀ R W, I n R W → ∃ r, body R W = some r ∧ r.1 ≠ .normal ∧ Q r) → ∃ r, aLoop body m R W = some r ∧ r.1 ≠ .normal ∧ Q r := by
  intro n
  induction n with
  | zero =>
    intro m I Q R W hm h0 _ he
    obtain ⟨m, rfl⟩ : ∃ k, m = k + 1 := ⟨m - 1, by omega⟩
    obtain ⟨⟨x, R', W'⟩, h1, h2, h3⟩ := he R W h0
    refine ⟨_, ?_, h2, h3⟩
    unfold aLoop
    rw [h1]
    cases x with
    | normal => exact absurd rfl h2
    | exit i => rfl
    | ret => rfl
  | succ n ih =>
    intro m I Q R W hm h0 hs he
    obtain ⟨m, rfl⟩ : ∃ k, m = k + 1 := ⟨m - 1, by omega⟩
    obtain ⟨⟨x, R', W'⟩, h1, h2⟩ := hs 0 R W (by omega) h0
    rcases h2 with ⟨h2, h3⟩ | ⟨h2, h3⟩
    · simp only at h2 h3
      subst h2
      obtain ⟨r, k1, k2, k3⟩ := ih m (fun k => I (k + 1)) Q R' W' (by omega) h3 (fun k R W hk hI => hs (k + 1) R W (by omega) hI) he
      refine ⟨r, ?_, k2, k3⟩
      unfold aLoop
      rw [h1]
      exact k1
    · refine ⟨_, ?_, h2, h3⟩
      unfold aLoop
      rw [h1]
      cases x with
      | normal => exact absurd rfl h2
      | exit i => rfl
      | ret => rfl
theorem loop_rule {body : PlanTab.Fr → AW → Option LT} (n : Nat) (hn : n < 1000000) (I : Nat → PlanTab.Fr → AW → Prop) (Q : LT → Prop) {R : PlanTab.Fr} {W : AW} (h0 : I 0 R W)
    (hs : ∀ k R W, k < n → I k R W → ∃ r, body R W = some r ∧ ((r.1 = .normal ∧ I (k + 1) r.2.1 r.2.2) ∨ (r.1 ≠ .normal ∧ Q r)))
    (he : ∀ R W, I n R W → ∃ r, body R W = some r ∧ r.1 ≠ .normal ∧ Q r) : ∃ r, loopO body R W = some r ∧ Q r := by
  rw [loopO_eq]
  obtain ⟨r, h1, _, h2⟩ := aLoop_some n 1000000 I Q R W hn h0 hs he
  exact ⟨r, h1, h2⟩
end Go.Eng
namespace Go.Eng
open Go
set_option linter.unusedSectionVars false
set_option linter.unusedSimpArgs false
set_option linter.unusedVariables false
variable [PlanTab]

def fnOk (P : Program) (i nt n : Nat) : Bool := match P.funcs[i]? with
  | some fn => fn.body.isSome && (Nat.beq fn.ntmps nt && Nat.ble n nt)
  | none => false
theorem om_of {P : Program} {bad : List Nat} {spec : Callee} {i nt n : Nat} (hb : inL i bad = false) (hk : fnOk P i nt n = true) {fs cs : Array Value} {args : List Value} (hn : fs.toList.length + (args.length + cs.toList.length) = n) {W : AW} {r : Value × AW}
    (h : kFun P (om P bad spec) nt (bodyAt P i) (rssAt P i) (fs.toList ++ (args ++ cs.toList)) W = some r) : om P bad spec (.func (.func i) fs cs) args W = some (gc W r) := by
  unfold fnOk at hk
  unfold bodyAt rssAt at h
  cases hf : P.funcs[i]? with
  | none => rw [hf] at hk; cases hk
  | some fn =>
    rw [hf] at hk h
    simp only [Bool.and_eq_true, Nat.beq_eq] at hk h
    obtain ⟨h1, h2, h3⟩ := hk
    cases hc : fn.body with
    | none => rw [hc] at h1; cases h1
    | some c =>
      rw [hc] at h
      simp only at h
      subst h2
      exact om_fun hb hf hc (by rw [hn]; exact h3) h
structure Ex (W : AW) (t : Option (Value × AW)) (Q : Value → AW → Prop) : Prop where
  ex : ∃ v W', t = some (v, W') ∧ Le W W' ∧ Q v W'
end Go.Eng
namespace Go.Eng
open Go
set_option linter.unusedSectionVars false
set_option linter.unusedSimpArgs false
set_option linter.unusedVariables false
variable [PlanTab]
@[congr] theorem bnd_congr {α ρ : Type} {x y : Option α} {g : α → Option ρ} (h : x = y) : bnd x g = bnd y g := by rw [h]
@[congr] theorem bIf_congr {ρ : Type} {c d : Bool} {a b : ρ} (h : c = d) : bIf c a b = bIf d a b := by rw [h]
@[congr] theorem vIf_congr {ρ : Type} {c d : Value} {a b : Option ρ} (h : c = d) : vIf c a b = vIf d a b := by rw [h]
@[congr] theorem kExit_congr {ρ : Type} {i : Nat} {x y : X} {a b : Option ρ} (h : x = y) : kExit i x a b = kExit i y a b := by rw [h]
@[congr] theorem kNorm_congr {ρ : Type} {x y : X} {a b : Option ρ} (h : x = y) : kNorm x a b = kNorm y a b := by rw [h]
@[congr] theorem kRetX_congr {ρ : Type} {x y : X} {a : Option ρ} (h : x = y) : kRetX x a = kRetX y a := by rw [h]


theorem gc_int {W W' : AW} {k : IntKind} {n : Int} (h : Le W W') : gc W (.int k n, W') = (.int k n, W) := gc_plain rfl h
theorem gc_bool {W W' : AW} {b : Bool} (h : Le W W') : gc W (.bool b, W') = (.bool b, W) := gc_plain rfl h
section
variable {P : Program} {W : AW}
theorem natOf_pos {k : IntKind} {n : Int} (h : 0 ≤ n) : natOf (.int k n) = some n.toNat := by
  obtain ⟨m, rfl⟩ : ∃ m : Nat, n = (m : Int) := ⟨n.toNat, by omega⟩
  exact Eq.trans rfl rfl
theorem ixA_pos {len z b o : Nat} {k : IntKind} {n : Int} (h0 : 0 ≤ n) (h : n.toNat < len) : ixA len z (.pointer (some ⟨b, o, none⟩)) (.int k n) W = some (.pointer (some ⟨b, o + n.toNat * z, none⟩), W) := by
  unfold ixA
  simp only [natOf_pos h0, if_pos h, addr_add]
theorem glbV_eq (g : Nat) : glbV g = .pointer (some ⟨g, 0, none⟩) := Eq.trans rfl rfl
theorem add_put (W : AW) (o o' : AObj) : (W.add o).put W.next o' = W.add o' := by
  unfold AW.add AW.put
  simp only [T.set_set]
theorem put_put (W : AW) (b : Nat) (o o' : AObj) : (W.put b o).put b o' = W.put b o' := by
  unfold AW.put
  simp only [T.set_set]
theorem setN_one (cs : List Value) (o : Nat) (v : Value) (h : o < cs.length) : setN cs o [v] = cs.set o v := by
  unfold setN
  rw [List.set_eq_take_append_cons_drop]
  simp [h]
theorem stV_one {b o : Nat} {v : Value} (h : v.cells = #[v]) (h1 : one v = true) : stV 1 (.pointer (some ⟨b, o, none⟩)) v W = (rwCells W b).bind fun cs => if o < cs.length then some (undef, W.put b (.cells (cs.set o v))) else none := by
  rw [stV_eq, h]
  congr 1
  funext cs
  by_cases hl : o < cs.length
  · rw [if_pos hl, if_pos ⟨rfl, by simp; omega, by simp [h1]⟩, setN_one _ _ _ hl]
  · rw [if_neg hl, if_neg (fun x => hl (by have := x.2.1; simp at this; omega))]
theorem stV_int {b o : Nat} {k : IntKind} {n : Int} : stV 1 (.pointer (some ⟨b, o, none⟩)) (.int k n) W = (rwCells W b).bind fun cs => if o < cs.length then some (undef, W.put b (.cells (cs.set o (.int k n)))) else none := stV_one rfl rfl
theorem stV_bool {b o : Nat} {x : Bool} : stV 1 (.pointer (some ⟨b, o, none⟩)) (.bool x) W = (rwCells W b).bind fun cs => if o < cs.length then some (undef, W.put b (.cells (cs.set o (.bool x)))) else none := stV_one rfl rfl
theorem stV_string {b o : Nat} {x : ByteArray} : stV 1 (.pointer (some ⟨b, o, none⟩)) (.string x) W = (rwCells W b).bind fun cs => if o < cs.length then some (undef, W.put b (.cells (cs.set o (.string x)))) else none := stV_one rfl rfl
theorem stV_slice {b o : Nat} {x : Option Addr} {l c : Nat} : stV 1 (.pointer (some ⟨b, o, none⟩)) (.slice x l c) W = (rwCells W b).bind fun cs => if o < cs.length then some (undef, W.put b (.cells (cs.set o (.slice x l c)))) else none := stV_one rfl rfl
theorem stV_agg {n b o : Nat} {vs : Array Value} : stV n (.pointer (some ⟨b, o, none⟩)) (.agg vs) W = (rwCells W b).bind fun cs => if vs.size = n ∧ o + vs.toList.length ≤ cs.length ∧ vs.toList.all one = true then some (undef, W.put b (.cells (setN cs o vs.toList))) else none := stV_eq
theorem one_int (k : IntKind) (n : Int) : one (.int k n) = true := Eq.trans rfl rfl
theorem one_string (s : ByteArray) : one (.string s) = true := Eq.trans rfl rfl
theorem one_bool (s : Bool) : one (.bool s) = true := Eq.trans rfl rfl
theorem one_slice (a : Option Addr) (l c : Nat) : one (.slice a l c) = true := Eq.trans rfl rfl
theorem vsame_int (k : IntKind) (n : Int) : vsame (.int k n) (.int k n) = true := by simp [vsame, vs1]
theorem vsame_bool (b : Bool) : vsame (.bool b) (.bool b) = true := by simp [vsame, vs1]
theorem vsame_string (s : ByteArray) : vsame (.string s) (.string s) = true := by simp [vsame, vs1, bytesEq]
theorem oBin_agg_neq {t : TypeId} {c d : Bool} {x y : Array Value} {r : Bool} (hg : P.eqGuardType P.depth t = false) (h : aEqS P 8 t (.agg x) (.agg y) = some r) : oBin P .neq t c d (.agg x) (.agg y) W = some (.bool (!r), W) := by
  have h0 : aEql P W t (.agg x) (.agg y) = none := by unfold aEql; split <;> first | rfl | simp_all
  unfold oBin aBin
  simp only [h0, aEqT, hg, Bool.false_eq_true, if_false, h, Option.map_some]
noncomputable def eqAll : List (Int × Int) → Option Bool
  | [] => some true
  | p :: l => match some (p.1 == p.2) with
    | some true => eqAll l
    | some false => some false
    | none => none
theorem eqAll_eq : ∀ l : List (Int × Int), eqAll l = some (l.all fun p => p.1 == p.2)
  | [] => rfl
  | p :: l => by
    unfold eqAll
    cases h : p.1 == p.2 with
    | true => simp only [List.all_cons, h, Bool.true_and]; exact eqAll_eq l
    | false => simp only [List.all_cons, h, Bool.false_and]
theorem vs1_int (k : IntKind) (n : Int) : vs1 (.int k n) (.int k n) = true := by simp [vs1]
theorem vs1_string (s : ByteArray) : vs1 (.string s) (.string s) = true := by simp [vs1, bytesEq]
theorem vs1_bool (s : Bool) : vs1 (.bool s) (.bool s) = true := by simp [vs1]
theorem vs1_slice (b o l c : Nat) : vs1 (.slice (some ⟨b, o, none⟩) l c) (.slice (some ⟨b, o, none⟩) l c) = true := by simp [vs1, addrEq]
theorem vs1_snil (l c : Nat) : vs1 (.slice none l c) (.slice none l c) = true := by simp [vs1]
theorem vs1_ptr (b o : Nat) : vs1 (.pointer (some ⟨b, o, none⟩)) (.pointer (some ⟨b, o, none⟩)) = true := by simp [vs1, addrEq]
theorem vsame_agg {cs : Array Value} (h : vsL cs.toList cs.toList = true) : vsame (.agg cs) (.agg cs) = true := h
theorem vsame_agg4 (a b c d : Value) (h1 : vs1 a a = true) (h2 : vs1 b b = true) (h3 : vs1 c c = true) (h4 : vs1 d d = true) : vsame (.agg #[a, b, c, d]) (.agg #[a, b, c, d]) = true := vsame_agg (by simp [vsL, h1, h2, h3, h4])
theorem vsame_slice (b o l c : Nat) : vsame (.slice (some ⟨b, o, none⟩) l c) (.slice (some ⟨b, o, none⟩) l c) = true := vs1_slice b o l c
theorem vsame_snil (l c : Nat) : vsame (.slice none l c) (.slice none l c) = true := vs1_snil l c
theorem vsame_ptr (b o : Nat) : vsame (.pointer (some ⟨b, o, none⟩)) (.pointer (some ⟨b, o, none⟩)) = true := vs1_ptr b o
theorem agV_some {u v : Value} {W' : AW} : agV true (some (u, W')) v = vsame u v := Eq.trans rfl rfl
end

def Ok {ρ : Type} (t : Option ρ) (G : ρ → Prop) : Prop := ∃ x, t = some x ∧ G x
theorem Ok_some {ρ : Type} {x : ρ} {G : ρ → Prop} : Ok (some x) G ↔ G x := ⟨fun ⟨y, h, g⟩ => by injection h with h; subst h; exact g, fun g => ⟨x, rfl, g⟩⟩
theorem Ok.mono {ρ : Type} {t : Option ρ} {G H : ρ → Prop} (h : Ok t G) (hg : ∀ x, G x → H x) : Ok t H := let ⟨x, a, b⟩ := h; ⟨x, a, hg x b⟩
theorem Ok_step {α ρ : Type} {x : Option α} {a : α} {K : α → Option ρ} {G : ρ → Prop} (h : x = some a) (hk : Ok (K a) G) : Ok (bnd x K) G := by rw [h, bnd_some]; exact hk
theorem Ok_bT {ρ : Type} {c : Bool} {a b : Option ρ} {G : ρ → Prop} (h : c = true) (hk : Ok a G) : Ok (bIf c a b) G := by rw [h]; exact hk
theorem Ok_bF {ρ : Type} {c : Bool} {a b : Option ρ} {G : ρ → Prop} (h : c = false) (hk : Ok b G) : Ok (bIf c a b) G := by rw [h]; exact hk
theorem Ok_loop {ρ : Type} {body : PlanTab.Fr → AW → Option LT} {R : PlanTab.Fr} {W : AW} {K : LT → Option ρ} {G : ρ → Prop} (n : Nat) (hn : n < 1000000) (I : Nat → PlanTab.Fr → AW → Prop) (Q : LT → Prop) (h0 : I 0 R W)
    (hs : ∀ k R W, k < n → I k R W → Ok (body R W) fun r => (r.1 = .normal ∧ I (k + 1) r.2.1 r.2.2) ∨ (r.1 ≠ .normal ∧ Q r))
    (he : ∀ R W, I n R W → Ok (body R W) fun r => r.1 ≠ .normal ∧ Q r) (hk : ∀ r, Q r → Ok (K r) G) : Ok (bnd (loopO body R W) K) G := by
  obtain ⟨r, h1, h2⟩ := loop_rule n hn I Q h0 hs he
  rw [h1, bnd_some]
  exact hk r h2
theorem om_drop {o t : Option (Value × AW)} {v : Value} {W : AW} (hv : (plain v && !isU v) = true) (h : Ok t fun r => r.1 = v ∧ Le W r.2) (hom : ∀ {r}, t = some r → o = some (gc W r)) : o = some (v, W) := by
  obtain ⟨⟨u, W'⟩, h1, h2, h3⟩ := h
  simp only at h2
  subst h2
  rw [hom h1, gc_plain hv h3]

def Row {α : Type} (W : AW) (z : Nat) (at_ : List Value → Nat → α → Prop) (v : Value) (l : List α) : Prop :=
  ∃ a c, v = .slice a l.length c ∧ (l = [] ∨ ∃ b o cs, a = some ⟨b, o, none⟩ ∧ b < W.next ∧ cellsAt W b = some cs ∧ ∀ i (h : i < l.length), at_ cs (o + i * z) l[i])
def intAt (k : IntKind) (cs : List Value) (p : Nat) (n : Int) : Prop := cs[p]? = some (.int k n)
abbrev Ints (W : AW) (v : Value) (l : List Int) : Prop := Row W 1 (intAt .i64) v l
theorem Row.mono {α : Type} {W W' : AW} {z : Nat} {at_ : List Value → Nat → α → Prop} {v : Value} {l : List α} (h : Row W z at_ v l) (hle : Le W W') : Row W' z at_ v l := by
  obtain ⟨a, c, rfl, h⟩ := h
  refine ⟨a, c, rfl, ?_⟩
  rcases h with h | ⟨b, o, cs, h1, h2, h3, h4⟩
  · exact .inl h
  · exact .inr ⟨b, o, cs, h1, Nat.lt_of_lt_of_le h2 hle.next, by rw [hle.cellsAt h2]; exact h3, h4⟩
theorem Row.len {α : Type} {W : AW} {z : Nat} {at_ : List Value → Nat → α → Prop} {v : Value} {l : List α} (h : Row W z at_ v l) {P : Program} {ts : Array TypeId} {e : TypeId} (ht : (ts[0]?).bind P.underlying = some (.slice e)) (W' : AW) (ty : TypeId) (cf : Array Bool) :
    oBuiltin P .len ts ty cf [v] W' = some (.int .i64 l.length, W') := by
  obtain ⟨a, c, rfl, _⟩ := h
  exact len_slice ht _ _ _
theorem Row.elem {α : Type} {W : AW} {z : Nat} {at_ : List Value → Nat → α → Prop} {v : Value} {l : List α} (h : Row W z at_ v l) {i : Nat} (hi : i < l.length) :
    ∃ b o cs, (∀ W' k, ixS z v (.int k (i : Int)) W' = some (.pointer (some ⟨b, o, none⟩), W')) ∧ b < W.next ∧ cellsAt W b = some cs ∧ at_ cs o l[i] := by
  obtain ⟨a, c, rfl, h⟩ := h
  rcases h with rfl | ⟨b, o, cs, rfl, h2, h3, h4⟩
  · simp at hi
  · exact ⟨b, o + i * z, cs, fun W' k => ixS_ok hi, h2, h3, h4 i hi⟩
theorem Ints.get {W : AW} {v : Value} {l : List Int} (h : Ints W v l) {i : Nat} (hi : i < l.length) :
    ∃ p, (∀ W' k, ixS 1 v (.int k (i : Int)) W' = some (p, W')) ∧ ∀ W', Le W W' → ldC p W' = some (.int .i64 l[i], W') := by
  obtain ⟨b, o, cs, h1, h2, h3, h4⟩ := h.elem hi
  exact ⟨_, h1, fun W' hle => ldC_ok (by rw [hle.cellsAt h2]; exact h3) h4⟩
end Go.Eng
namespace Go.Eng
open Go Go.RowKit
set_option linter.unusedSectionVars false
set_option linter.unusedSimpArgs false
set_option linter.unusedVariables false
variable [PlanTab]

noncomputable def specL : List (Nat × Callee) → Callee
  | [] => fun _ _ _ => none
  | (F, c) :: l => fun f args W => match f with
    | .func (.func g) fs cs => (match Nat.beq g F with
      | true => c (.func (.func g) fs cs) args W
      | false => specL l (.func (.func g) fs cs) args W)
    | _ => none
theorem specL_ok {P : Program} {ng : List Nat} : ∀ {l : List (Nat × Callee)}, (∀ x ∈ l, CalleeOK P ng x.2) → CalleeOK P ng (specL l)
  | [], _ => fun f args W v W' h => by cases h
  | (F, c) :: l, hl => by
    intro f args W v W' h
    unfold specL at h
    split at h
    case h_2 => cases h
    split at h
    · exact hl (F, c) (by simp) _ _ _ _ _ h
    · exact specL_ok (fun x hx => hl x (by simp [hx])) _ _ _ _ _ h
def GlobW (gs : List (Nat × List Value)) (W : AW) : Prop := ∀ x ∈ gs, W.get x.1 = some (.ro x.2) ∧ x.1 < W.next
theorem GlobW.mono {gs : List (Nat × List Value)} {W W' : AW} (h : GlobW gs W) (hle : Le W W') : GlobW gs W' := fun x hx =>
  ⟨by rw [hle.get _ (h x hx).2]; exact (h x hx).1, Nat.lt_of_lt_of_le (h x hx).2 hle.next⟩
noncomputable def memoV (F : Nat) (gs : List (Nat × List Value)) (val : List Value → Option Value) : Callee := fun f args W => match f with
  | .func (.func g) fs cs => (match Nat.beq g F && (fs.isEmpty && cs.isEmpty) with
    | true => open Classical in if GlobW gs W then (match val args with
      | some v => if plain v && args.all plain then some (v, W) else none
      | none => none) else none
    | false => none)
  | _ => none
theorem memoV_at {F : Nat} {gs : List (Nat × List Value)} {val : List Value → Option Value} {args : List Value} {W : AW} {v : Value} (hg : GlobW gs W) (hv : val args = some v) (hp : plain v = true) (ha : args.all plain = true) :
    memoV F gs val (.func (.func F) #[] #[]) args W = some (v, W) := by
  unfold memoV
  simp only [Nat.beq_refl, Array.isEmpty_empty, Bool.and_self, if_pos hg, hv, hp, ha, Bool.and_true, if_true]
theorem memoV_ok {P : Program} {ng : List Nat} {F : Nat} {fn : Func} {body : Code} (hfn : P.funcs[F]? = some fn) (hname : (fn.name == "runtime.NumGoroutine") = false) (hb : fn.body = some body) {gs : List (Nat × List Value)} (hsc : gs.all (fun x => x.2.all scalar && inL x.1 ng) = true) {val : List Value → Option Value}
    (hall : ∀ args v, val args = some v → ∀ w : World, LaidG gs w.heap → Calls P F args.toArray w fun e w' => e = .returned v ∧ Quiet w w') : CalleeOK P ng (memoV F gs val) := by
  intro f args W v W' h σ w f' args' hW hG hf hargs
  unfold memoV at h
  split at h
  case h_2 => cases h
  rename_i g fs cs
  split at h
  case h_2 => cases h
  rename_i hgf
  simp only [Bool.and_eq_true, Nat.beq_eq, Array.isEmpty_iff] at hgf
  obtain ⟨rfl, rfl, rfl⟩ := hgf
  split at h
  case isFalse => cases h
  rename_i hgl
  split at h
  case h_2 => cases h
  rename_i u hu
  split at h
  case isFalse => cases h
  rename_i hpl
  injection h with h
  injection h with h1 h2
  subst h1; subst h2
  simp only [Bool.and_eq_true] at hpl
  obtain ⟨fn', fs', cs', hfr, hfs, hcs, rfl⟩ := hf.func_inv
  cases hfr
  obtain rfl : fs' = #[] := by
    have h1 : fs'.toList.length = 0 := hfs.1.symm
    exact Array.toList_eq_nil_iff.1 (List.length_eq_zero_iff.1 h1)
  obtain rfl : cs' = #[] := by
    have h1 : cs'.toList.length = 0 := hcs.1.symm
    exact Array.toList_eq_nil_iff.1 (List.length_eq_zero_iff.1 h1)
  obtain rfl : args' = args := LR.eq_of (fun v v' => plain_eq) hpl.2 hargs
  have hl : LaidG gs w.heap := fun x hx => by
    have hs := List.all_eq_true.1 hsc x hx
    simp only [Bool.and_eq_true] at hs
    obtain ⟨e, he⟩ := hG x.1 (inL_iff.1 hs.2)
    obtain ⟨c, t, fr, k1, _, k3⟩ := hW.obj x.1 _ _ (hgl x hx).1 he
    refine ⟨c, t, fr, k1, fun i v hv => ?_⟩
    obtain ⟨v', a, b⟩ := k3 i v hv
    have hsv := List.all_eq_true.1 hs.1 v (List.mem_of_getElem? hv)
    have : v' = v := scalar_eq hsv b
    subst this
    exact ⟨by simpa using a, hsv⟩
  refine ⟨run_callFunc_enter' hfn hname hb _ w, ?_⟩
  have e1 : (#[] : Array Value) ++ args'.toArray ++ #[] = args'.toArray := by simp
  rw [e1]
  refine CallsIn.mono (show CallsIn Fence.wide 0 P g _ w _ from (callsIn_wide (n := 0)).2 (hall _ _ hu w hl)) ?_
  rintro e w' ⟨rfl, hq⟩
  exact ⟨_, rfl, σ, plain_refl hpl.1, hq.rel hW, hq.ext σ W⟩
def AllRo (σ : Inj) (W : AW) : Prop := ∀ b g, σ b = some g → ∃ cs, W.get b = some (.ro cs)
theorem AllRo.quiet {σ σ' : Inj} {W W' : AW} {w w' : World} (h : AllRo σ W) (he : Ext σ W w σ' W' w') : Quiet w w' :=
  ⟨he.os, he.tape, he.output, he.size, fun B hB => he.keep B hB (by rintro ⟨b, g, hg, _, hn⟩; obtain ⟨cs, hc⟩ := h b g hg; exact hn cs hc)⟩
theorem om_calls {P : Program} {o : Callee} (hok : CalleeOK P PlanTab.ng o) {σ : Inj} {W W' : AW} {w : World} (hW : WRel σ W w.heap) (hG : Glob σ PlanTab.ng) (hro : AllRo σ W) {i : FuncId} {args args' : List Value} (hargs : LR σ args args') {v : Value} (hv : plain v = true)
    (h : o (.func (.func i) #[] #[]) args W = some (v, W')) : Calls P i args'.toArray w fun e w' => e = .returned v ∧ Quiet w w' := by
  have hc := hok _ _ _ _ _ h σ w (.func (.func i) #[] #[]) args' hW hG (.func _ _ _ _ _ _ (.func i) rfl (fun i v v' x => by simp at x) rfl (fun i v v' x => by simp at x)) hargs
  unfold CallV at hc
  obtain ⟨_, hc⟩ := hc
  have e1 : (#[] : Array Value) ++ args'.toArray ++ #[] = args'.toArray := by simp
  rw [e1] at hc
  refine (callsIn_wide (n := 0)).1 ?_
  refine CallsIn.mono (show CallsIn Fence.wide 0 P i args'.toArray w _ from hc) ?_
  rintro e w' ⟨v', rfl, σ', hv', _, he⟩
  exact ⟨by rw [plain_eq hv hv'], hro.quiet he⟩
theorem allRo_G {gs : List (Nat × List Value)} {N : Nat} : AllRo (σG gs) (WG gs N) := by
  intro b g hg
  obtain ⟨x, _, _, _, ht⟩ := σG_some hg
  exact ⟨x.2, ht⟩
theorem globW_G {gs : List (Nat × List Value)} {N : Nat} (hN : gs.all (fun x => Nat.blt x.1 N) = true) (hd : ∀ x ∈ gs, gs.find? (fun y => y.1 == x.1) = some x) : GlobW gs (WG gs N) := by
  intro x hx
  refine ⟨?_, show x.1 < N by have := List.all_eq_true.1 hN x hx; simpa [Nat.blt_eq] using this⟩
  show T.get (path x.1) (treeG gs) = _
  rw [treeG_get, hd x hx]
  rfl
end Go.Eng
namespace Go.Eng
open Go
set_option linter.unusedSectionVars false
set_option linter.unusedSimpArgs false
set_option linter.unusedVariables false
variable [PlanTab]
section
variable {P : Program} {W : AW}
def bytesL (l : List UInt8) : ByteArray := ⟨l.toArray⟩
theorem bytesL_back (b : ByteArray) : bytesL b.data.toList = b := by cases b; simp [bytesL]
theorem bytesL_size (l : List UInt8) : (bytesL l).size = l.length := by simp [bytesL, ByteArray.size]
theorem strV_L (l : List Nat) : strV l = .string (bytesL (l.map UInt8.ofNat)) := Eq.trans rfl rfl
theorem bytesL_getElem? (l : List UInt8) (i : Nat) : (bytesL l)[i]? = l[i]? := by
  by_cases h : i < l.length
  · have h2 : i < (bytesL l).size := by rw [bytesL_size]; exact h
    rw [List.getElem?_eq_getElem h, getElem?_pos (bytesL l) i h2]
    rfl
  · rw [List.getElem?_eq_none (by omega), getElem?_neg (bytesL l) i (by rw [bytesL_size]; exact h)]
theorem pureV {s : Sem Value} {v : Value} (h : pureRun P s = some v) (hv : plain v = true) (c : Bool) (hc : c = true) : (pureS P c (do pure (.value (← s)))).map (fun v => (v, W)) = some (v, W) := by
  subst hc
  unfold pureS
  simp only [if_true, pureNext h, hv, Option.map_some]
theorem str_index {t : TypeId} (hs : P.underlying t = some .string) {l : List UInt8} {i : Nat} {k : IntKind} (hi : i < l.length) : oIndex P t (.string (bytesL l)) (.int k (i : Int)) W = some (.int .u8 (l[i].toNat : Int), W) := by
  have e : oIndex P t (.string (bytesL l)) (.int k (i : Int)) W = (pureS P (plain (.string (bytesL l)) && (plain (.int k (i : Int)) && true)) (do pure (.value (← Instr.index t (.string (bytesL l)) (.int k (i : Int)))))).map fun v => (v, W) := by
    unfold oIndex
    rw [hs]
  rw [e]
  refine pureV ?_ rfl _ rfl
  unfold Instr.index
  have h0 : (0 : Int) ≤ (i : Int) := by omega
  simp only [asIntOf, pure_bind, pureRun_bind, pureRun_underlying hs, Option.bind_some, h0, if_true, Int.toNat_natCast, bytesL_getElem?, List.getElem?_eq_getElem hi, pureRun_pure]
theorem str_len {ts : Array TypeId} {ty : TypeId} {cf : Array Bool} (h : (ts[0]?).bind P.underlying = some .string) (l : List UInt8) : oBuiltin P .len ts ty cf [.string (bytesL l)] W = some (.int .i64 l.length, W) := by
  obtain ⟨t, h1, h2⟩ : ∃ t, ts[0]? = some t ∧ P.underlying t = some .string := by
    cases ht : ts[0]? with
    | none => rw [ht] at h; cases h
    | some t => rw [ht] at h; exact ⟨t, rfl, h⟩
  have e : oBuiltin P .len ts ty cf [.string (bytesL l)] W = (pureS P ([Value.string (bytesL l)].all plain) (builtin .len ts ty cf #[.string (bytesL l)])).map fun v => (v, W) := by
    unfold oBuiltin
    rfl
  rw [e]
  have e2 : builtin .len ts ty cf #[.string (bytesL l)] = (do pure (.value (← Builtin.len_ ts ty #[.string (bytesL l)]))) := rfl
  rw [e2]
  refine pureV ?_ rfl _ rfl
  unfold Builtin.len_
  simp only [h1, List.getElem?_toArray, List.getElem?_cons_zero, pureRun_bind, pureRun_underlying h2, Option.bind_some, pureRun_pure, bytesL_size]
  rfl
theorem bytesL_extract (l : List UInt8) (a b : Nat) : (bytesL l).extract a b = bytesL ((l.take b).drop a) := by
  have h : ((bytesL l).extract a b).data = (bytesL ((l.take b).drop a)).data := by
    rw [ByteArray.data_extract]
    apply Array.toList_inj.1
    simp [bytesL, List.extract_eq_take_drop, List.drop_take]
  cases hx : (bytesL l).extract a b with
  | mk d => rw [hx] at h; simp only at h; rw [h]
theorem str_from {t : TypeId} (hs : P.underlying t = some .string) {l : List UInt8} {a : Nat} {k : IntKind} (h : a ≤ l.length) : oSlice P t (.string (bytesL l)) (some (.int k (a : Int))) none none W = some (.string (bytesL (l.drop a)), W) := by
  have e : oSlice P t (.string (bytesL l)) (some (.int k (a : Int))) none none W = (pureS P (([Value.string (bytesL l), .int k (a : Int)] : List Value).all plain) (do pure (.value (← Instr.sliceAt t (.string (bytesL l)) (some (.int k (a : Int))) none none)))).map fun v => (v, W) := by
    unfold oSlice aSlice
    rw [hs]
    rfl
  rw [e]
  refine pureV ?_ rfl _ rfl
  have h0 : (0 : Int) ≤ (a : Int) ∧ (a : Int) ≤ ((bytesL l).size : Int) := by rw [bytesL_size]; omega
  have hx : (bytesL l).extract a (bytesL l).size = bytesL (l.drop a) := by rw [bytesL_extract, bytesL_size, List.take_length]
  unfold Instr.sliceAt Instr.slice Instr.sliceBounds Instr.sliceBound
  simp only [pureRun_bind, pureRun_underlying hs, Option.bind_some, asIntOf, pure_bind, h0, and_self, if_true, pureRun_pure, Int.toNat_natCast, hx, Option.isSome_none, Bool.false_eq_true, if_false]
theorem str_to {t : TypeId} (hs : P.underlying t = some .string) {l : List UInt8} {a : Nat} {k : IntKind} (h : a ≤ l.length) : oSlice P t (.string (bytesL l)) none (some (.int k (a : Int))) none W = some (.string (bytesL (l.take a)), W) := by
  have e : oSlice P t (.string (bytesL l)) none (some (.int k (a : Int))) none W = (pureS P (([Value.string (bytesL l), .int k (a : Int)] : List Value).all plain) (do pure (.value (← Instr.sliceAt t (.string (bytesL l)) none (some (.int k (a : Int))) none)))).map fun v => (v, W) := by
    unfold oSlice aSlice
    rw [hs]
    rfl
  rw [e]
  refine pureV ?_ rfl _ rfl
  have h0 : (0 : Int) ≤ (a : Int) ∧ (a : Int) ≤ ((bytesL l).size : Int) := by rw [bytesL_size]; omega
  have hx : (bytesL l).extract 0 a = bytesL (l.take a) := by rw [bytesL_extract]; simp
  unfold Instr.sliceAt Instr.slice Instr.sliceBounds Instr.sliceBound
  simp only [pureRun_bind, pureRun_underlying hs, Option.bind_some, asIntOf, pure_bind, h0, and_self, if_true, pureRun_pure, Int.toNat_natCast, hx, Option.isSome_none, Bool.false_eq_true, if_false]
theorem bytesL_toList (l : List UInt8) : (bytesL l).toList = l := by rw [ByteArray.toList_eq]; rfl
theorem str_eql {t : TypeId} {c d : Bool} {a b : List UInt8} : oBin P .eql t c d (.string (bytesL a)) (.string (bytesL b)) W = some (.bool (a == b), W) := by
  rw [oBin_strings_eql, bytesL_toList, bytesL_toList]
theorem oNilCheck_ptr (a : Addr) : oNilCheck (.pointer (some a)) W = some (.pointer (some a), W) := Eq.trans rfl rfl
theorem oRes_L1 {t : TypeId} {x : Value} : oRes P [(x, some t)] W = (oLoad P t x W).bind fun r => some (r.1, W) := by
  unfold oRes oLoad; simp only [oResL]; cases aLoad P W t x <;> rfl
theorem oRes_L1n {t : TypeId} {x u : Value} : oRes P [(x, some t), (u, none)] W = (oLoad P t x W).bind fun r => some (.tuple #[r.1, u], W) := by
  unfold oRes oLoad; simp only [oResL]; cases aLoad P W t x <;> rfl
theorem stV_all {b : Nat} {cs : List Value} (h : rwCells W b = some cs) (h1 : cs.all one = true) : stV cs.length (.pointer (some ⟨b, 0, none⟩)) (.agg cs.toArray) W = some (undef, W.put b (.cells cs)) := by
  rw [stV_agg, h]
  simp only [Option.bind_some, List.size_toArray, Nat.zero_add, Nat.le_refl, h1, and_self, if_true, setN, List.take_zero, List.nil_append, List.drop_length, List.append_nil]
theorem ldA_all {b n : Nat} {cs : List Value} (h : cellsAt W b = some cs) (hn : cs.length = n) : ldA n (.pointer (some ⟨b, 0, none⟩)) W = some (.agg cs.toArray, W) := by
  rw [ldA_eq, h]
  simp only [Option.bind_some, List.drop_zero, ← hn, List.take_length, if_true]
end
end Go.Eng
namespace Go.Eng
open Go
set_option linter.unusedVariables false
theorem SX : type_of% (And.intro @bnd_some (And.intro @oMv_eq (And.intro @oBox_agg (And.intro @oBox_int (And.intro @oBox_bool (And.intro @oBox_string (And.intro @oBox_slice (And.intro @oBox_func (And.intro @oMkFunc_eq (And.intro @oExtract_2_0 (And.intro @oExtract_2_1 (And.intro @oExtract_3_0 (And.intro @oExtract_3_1 (And.intro @oExtract_3_2 (And.intro @wnt_true (And.intro @wnt_false (And.intro @bIf_true (And.intro @bIf_false (And.intro @vIf_bool (And.intro @oPick_bool (And.intro @kNorm_normal (And.intro @kNorm_exit (And.intro @kNorm_ret (And.intro @kExit_same (And.intro @kExit_ret (And.intro @kExit_normal (And.intro @kRetX_ret (And.intro @oUn_not (And.intro @fnV_eq (And.intro @glbV_eq (And.intro @oBin_lss (And.intro @oBin_leq (And.intro @oBin_gtr (And.intro @oBin_geq (And.intro @oBin_eql (And.intro @oBin_neq (And.intro @oRes_none1 (And.intro @oRes_none2 (And.intro @oRes_none3 (And.intro @oRes_nil (And.intro @faO_ok (And.intro @Bool.not_true (And.intro @Bool.not_false (And.intro @decide_true (@decide_false))))))))))))))))))))))))))))))))))))))))))))) := And.intro @bnd_some (And.intro @oMv_eq (And.intro @oBox_agg (And.intro @oBox_int (And.intro @oBox_bool (And.intro @oBox_string (And.intro @oBox_slice (And.intro @oBox_func (And.intro @oMkFunc_eq (And.intro @oExtract_2_0 (And.intro @oExtract_2_1 (And.intro @oExtract_3_0 (And.intro @oExtract_3_1 (And.intro @oExtract_3_2 (And.intro @wnt_true (And.intro @wnt_false (And.intro @bIf_true (And.intro @bIf_false (And.intro @vIf_bool (And.intro @oPick_bool (And.intro @kNorm_normal (And.intro @kNorm_exit (And.intro @kNorm_ret (And.intro @kExit_same (And.intro @kExit_ret (And.intro @kExit_normal (And.intro @kRetX_ret (And.intro @oUn_not (And.intro @fnV_eq (And.intro @glbV_eq (And.intro @oBin_lss (And.intro @oBin_leq (And.intro @oBin_gtr (And.intro @oBin_geq (And.intro @oBin_eql (And.intro @oBin_neq (And.intro @oRes_none1 (And.intro @oRes_none2 (And.intro @oRes_none3 (And.intro @oRes_nil (And.intro @faO_ok (And.intro @Bool.not_true (And.intro @Bool.not_false (And.intro @decide_true (@decide_false))))))))))))))))))))))))))))))))))))))))))))
theorem MX : type_of% (And.intro @ldC_eq (And.intro @ldA_eq (And.intro @cellsAt_new (And.intro @rwCells_new (And.intro @Option.bind_some.{0,0} (And.intro @Option.map_some.{0,0} (And.intro @List.drop_zero.{0} (And.intro @List.drop_succ_cons.{0} (And.intro @List.take_succ_cons.{0} (And.intro @List.take_zero.{0} (And.intro @List.length_cons.{0} (And.intro @List.length_nil.{0} (And.intro @List.getElem?_cons_zero.{0} (And.intro @List.getElem?_cons_succ.{0} (And.intro @Nat.zero_add (And.intro @if_true.{1} (And.intro @and_self (And.intro @agV_some (And.intro @vsame_agg4 (And.intro @vs1_int (And.intro @vs1_string (And.intro @vs1_bool (And.intro @vs1_slice (And.intro @vs1_snil (And.intro @vs1_ptr (And.intro @vsame_slice (And.intro @vsame_snil (And.intro @vsame_ptr (And.intro @vsame_int (And.intro @vsame_bool (And.intro @vsame_string (And.intro @Bool.and_true (And.intro @Bool.true_and (And.intro @Bool.and_self (And.intro @add_put (And.intro @put_put (And.intro @stV_int (And.intro @stV_bool (And.intro @stV_string (And.intro @stV_slice (And.intro @stV_agg (And.intro @cellsAt_add (And.intro @rwCells_add (And.intro @cellsAt_put (And.intro @rwCells_put (And.intro @cellsAt_put_ne (And.intro @rwCells_put_ne (And.intro @List.set_cons_zero.{0} (And.intro @List.set_cons_succ.{0} (And.intro @List.nil_append.{0} (And.intro @List.cons_append.{0} (And.intro @one_int (And.intro @one_bool (And.intro @one_string (And.intro @one_slice (And.intro @List.all_cons.{0} (And.intro @List.all_nil.{0} (And.intro @List.size_toArray.{0} (And.intro @List.append_nil.{0} (And.intro @ixA_pos (And.intro @List.drop_nil.{0} (@List.take_nil.{0})))))))))))))))))))))))))))))))))))))))))))))))))))))))))))))) := And.intro @ldC_eq (And.intro @ldA_eq (And.intro @cellsAt_new (And.intro @rwCells_new (And.intro @Option.bind_some.{0,0} (And.intro @Option.map_some.{0,0} (And.intro @List.drop_zero.{0} (And.intro @List.drop_succ_cons.{0} (And.intro @List.take_succ_cons.{0} (And.intro @List.take_zero.{0} (And.intro @List.length_cons.{0} (And.intro @List.length_nil.{0} (And.intro @List.getElem?_cons_zero.{0} (And.intro @List.getElem?_cons_succ.{0} (And.intro @Nat.zero_add (And.intro @if_true.{1} (And.intro @and_self (And.intro @agV_some (And.intro @vsame_agg4 (And.intro @vs1_int (And.intro @vs1_string (And.intro @vs1_bool (And.intro @vs1_slice (And.intro @vs1_snil (And.intro @vs1_ptr (And.intro @vsame_slice (And.intro @vsame_snil (And.intro @vsame_ptr (And.intro @vsame_int (And.intro @vsame_bool (And.intro @vsame_string (And.intro @Bool.and_true (And.intro @Bool.true_and (And.intro @Bool.and_self (And.intro @add_put (And.intro @put_put (And.intro @stV_int (And.intro @stV_bool (And.intro @stV_string (And.intro @stV_slice (And.intro @stV_agg (And.intro @cellsAt_add (And.intro @rwCells_add (And.intro @cellsAt_put (And.intro @rwCells_put (And.intro @cellsAt_put_ne (And.intro @rwCells_put_ne (And.intro @List.set_cons_zero.{0} (And.intro @List.set_cons_succ.{0} (And.intro @List.nil_append.{0} (And.intro @List.cons_append.{0} (And.intro @one_int (And.intro @one_bool (And.intro @one_string (And.intro @one_slice (And.intro @List.all_cons.{0} (And.intro @List.all_nil.{0} (And.intro @List.size_toArray.{0} (And.intro @List.append_nil.{0} (And.intro @ixA_pos (And.intro @List.drop_nil.{0} (@List.take_nil.{0})))))))))))))))))))))))))))))))))))))))))))))))))))))))))))))
end Go.Eng
namespace Go.Eng
open Go
set_option linter.unusedSectionVars false
set_option linter.unusedSimpArgs false
set_option linter.unusedVariables false
variable [PlanTab]
section
variable {P : Program} {W : AW} {α : Type}
def Lst (lo : Nat) (W : AW) (z : Nat) (f : α → List Value) (v : Value) (l : List α) : Prop :=
  (l = [] ∧ v = .slice none 0 0) ∨ (l ≠ [] ∧ ∃ B, lo ≤ B ∧ B < W.next ∧ v = .slice (some ⟨B, 0, none⟩) l.length (BIG + z) ∧ W.get B = some (.cells (l.flatMap f)))
theorem flatMap_len {z : Nat} {f : α → List Value} (hf : ∀ a, (f a).length = z) : ∀ l : List α, (l.flatMap f).length = l.length * z
  | [] => by simp
  | a :: l => by rw [List.flatMap_cons, List.length_append, hf, flatMap_len hf l, List.length_cons, Nat.succ_mul, Nat.add_comm]
theorem Lst.nil (lo : Nat) (W : AW) (z : Nat) (f : α → List Value) : Lst lo W z f (.slice none 0 0) [] := .inl ⟨rfl, rfl⟩
theorem Lst.mono {lo z : Nat} {f : α → List Value} {v : Value} {l : List α} {W' : AW} (h : Lst lo W z f v l) (hle : Le W W') : Lst lo W' z f v l := by
  rcases h with h | ⟨h0, B, h1, h2, h3, h4⟩
  · exact .inl h
  · exact .inr ⟨h0, B, h1, Nat.lt_of_lt_of_le h2 hle.next, h3, by rw [hle.get B h2]; exact h4⟩
theorem Lst.push {ts : Array TypeId} {z bytes lo : Nat} {f : α → List Value} {v : Value} {l : List α} {a : α} (hk : appOk P ts z bytes = true) (hf : ∀ a, (f a).length = z) (h1 : ∀ a, (f a).all one = true)
    (h : Lst lo W z f v l) {b c : Nat} (hc : cellsAt W b = some (f a)) (hb : l.length + 1 < 1099511627776) (hb2 : (2 * (l.length + 1) + 192) * bytes ≤ 281474976710656) (hlo : lo ≤ W.next) :
    ∃ v' W', aAppend P W ts v (.slice (some ⟨b, 0, none⟩) 1 c) = some (v', W') ∧ Lst lo W' z f v' (l ++ [a]) ∧ W.next ≤ W'.next ∧ ∀ A, Le A W → A.next ≤ lo → Le A W' := by
  have hn : f a = ((f a).drop 0).take (1 * z) := by rw [List.drop_zero, Nat.one_mul, ← hf a, List.take_length]
  have hl : (f a).length = 1 * z := by rw [hf]; omega
  rcases h with ⟨rfl, rfl⟩ | ⟨h0, B, i1, i2, rfl, i4⟩
  · refine ⟨_, _, app_nil (b := b) (o := 0) (c := c) hk hc hn hl (by omega) (h1 a) (by omega) (by simpa using hb2), .inr ⟨by simp, W.next, hlo, by rw [AW.add_next]; omega, by simp, by rw [AW.get_add]; simp⟩, by rw [AW.add_next]; omega, fun A hA _ => hA.add _⟩
  · have hpos : 0 < l.length := List.length_pos_iff.2 h0
    refine ⟨_, _, app_on (b := b) (o := 0) (c := c) hk hc hn hl (by omega) (h1 a) i4 (flatMap_len hf l) (by omega) hb2 hpos, .inr ⟨by simp, W.next, hlo, by rw [AW.add_next, AW.kill_next]; omega, by simp [AW.kill_next], ?_⟩, by rw [AW.add_next, AW.kill_next]; omega, fun A hA hl => (hA.kill (by omega)).add _⟩
    have := (W.kill B).get_add (.cells (l.flatMap f ++ f a))
    rw [AW.kill_next] at this
    rw [this, List.flatMap_append]
    simp
theorem Lst.row {lo z : Nat} {f : α → List Value} {v : Value} {l : List α} {at_ : List Value → Nat → α → Prop} (hf : ∀ a, (f a).length = z) (h : Lst lo W z f v l) (hat : ∀ a pre post, at_ (pre ++ (f a ++ post)) pre.length a) : Row W z at_ v l := by
  rcases h with ⟨rfl, rfl⟩ | ⟨h0, B, i1, i2, rfl, i4⟩
  · exact ⟨none, 0, rfl, .inl rfl⟩
  · refine ⟨_, _, rfl, .inr ⟨B, 0, _, rfl, i2, cellsAt_of i4, fun i hi => ?_⟩⟩
    have e : l.flatMap f = (l.take i).flatMap f ++ (f l[i] ++ (l.drop (i + 1)).flatMap f) := by
      rw [← List.flatMap_cons, ← List.drop_eq_getElem_cons hi, ← List.flatMap_append, List.take_append_drop]
    have e2 : ((l.take i).flatMap f).length = 0 + i * z := by rw [flatMap_len hf, List.length_take]; rw [Nat.min_eq_left (by omega), Nat.zero_add]
    rw [e, ← e2]
    exact hat _ _ _
theorem Lst.one {lo z : Nat} {f : α → List Value} {v : Value} {l : List α} (h : Lst lo W z f v l) : one v = true := by
  rcases h with ⟨_, rfl⟩ | ⟨_, B, _, _, rfl, _⟩ <;> rfl
theorem gc_row {W' : AW} {z : Nat} {at_ : List Value → Nat → α → Prop} {v : Value} {l : List α} (hle : Le W W') (h : Row W' z at_ v l) : ∃ W2, gc W (v, W') = (v, W2) ∧ Le W W2 ∧ Le W2 W' ∧ Row W2 z at_ v l := by
  cases hp : (plain v && !isU v)
  · exact ⟨W', gc_not hp, hle, .refl _, h⟩
  · refine ⟨W, gc_plain hp hle, .refl _, hle, ?_⟩
    obtain ⟨a, c, rfl, h⟩ := h
    rcases h with h | ⟨b, o, cs, rfl, _⟩
    · exact ⟨a, c, rfl, .inl h⟩
    · exact absurd hp (by simp [plain, plain1, scalar])
theorem om_row {o t : Option (Value × AW)} {z : Nat} {at_ : List Value → Nat → α → Prop} {l : List α} (h : Ok t fun r => Le W r.2 ∧ Row r.2 z at_ r.1 l) (hom : ∀ {r}, t = some r → o = some (gc W r)) : ∃ v W2, o = some (v, W2) ∧ Le W W2 ∧ Row W2 z at_ v l := by
  obtain ⟨⟨v, W'⟩, h1, h2, h3⟩ := h
  obtain ⟨W2, k1, k2, _, k3⟩ := gc_row h2 h3
  exact ⟨v, W2, by rw [hom h1, k1], k2, k3⟩
end
end Go.Eng
namespace Go.Eng
open Go
set_option linter.unusedSectionVars false
set_option linter.unusedSimpArgs false
set_option linter.unusedVariables false
variable [PlanTab]
section
variable {P : Program} {bad : List Nat} {spec : Callee}
noncomputable def yRes (x : X) (l : Nat) (R : PlanTab.Fr) (nt : Nat) (ps : Array Tmp) (as bd : Code) (W : AW) : Value × AW := match x with
  | .normal => (.bool true, W.put l (.loop .ready none R nt ps as bd))
  | x => (.bool false, W.put l (.loop .done x.jump R nt ps as bd))
theorem yield_gen {l nt : Nat} {R : PlanTab.Fr} {ps : Array Tmp} {as bd : Code} {W : AW} {args : List Value} (hl : W.get l = some (.loop .ready none R nt ps as bd)) (hn : args.length = ps.size)
    {R1 : PlanTab.Fr} {W1 : AW} (h1 : kCode P (om P bad spec) false nt as LT (zipGo ps.toList args R) W ret3 = some (.normal, R1, W1)) (hk : W1.get l = some (.loop .ready none R nt ps as bd))
    {x2 : X} {R2 : PlanTab.Fr} {W2 : AW} (h2 : kCode P (om P bad spec) false nt bd LT R1 (W1.put l (.loop .busy none R nt ps as bd)) ret3 = some (x2, R2, W2)) (hk2 : W2.get l = some (.loop .busy none R nt ps as bd)) :
    om P bad spec (.func (.yield l) #[] #[]) args W = some (yRes x2 l R nt ps as bd W2) := by
  refine om_yield hl (by simpa using hn) ?_
  unfold kYield
  rw [show (#[] : Array Value).toList ++ args = args from rfl, h1]
  simp only [Option.bind_some, kNorm, hk, h2, hk2]
  unfold yRes
  cases x2 <;> rfl
theorem range_normal {call : Callee} {i : Nat} {fs cs : Array Value} {obj : AObj} {W W2 : AW} {v : Value} (h : call (.func (.func i) fs cs) [.func (.yield W.next) #[] #[]] (W.add obj) = some (v, W2))
    {st : LoopState} {R : PlanTab.Fr} {nt : Nat} {ps : Array Tmp} {as bd : Code} (hg : W2.get W.next = some (.loop st none R nt ps as bd)) (hs : st ≠ .busy) : oRange call (.func (.func i) fs cs) obj W = some (.normal, W2.kill W.next) := by
  unfold oRange
  simp only [h, hg]
theorem range_jump {call : Callee} {i : Nat} {fs cs : Array Value} {obj : AObj} {W W2 : AW} {v : Value} (h : call (.func (.func i) fs cs) [.func (.yield W.next) #[] #[]] (W.add obj) = some (v, W2))
    {x : X} {R : PlanTab.Fr} {nt : Nat} {ps : Array Tmp} {as bd : Code} (hg : W2.get W.next = some (.loop .done x.jump R nt ps as bd)) : oRange call (.func (.func i) fs cs) obj W = some (x, W2.kill W.next) := by
  unfold oRange
  simp only [h, hg]
  cases x <;> rfl
end
end Go.Eng
namespace Go.Eng
open Go Go.RowKit Go.Sort
set_option linter.unusedSectionVars false
set_option linter.unusedSimpArgs false
set_option linter.unusedVariables false
variable [PlanTab]
def sortL (zs : List Int) : List Int := zs.mergeSort fun x y => decide (x ≤ y)
def SortArgs (W : AW) (args : List Value) (W' : AW) : Prop := ∃ b c zs, zs ≠ [] ∧ zs.length < 1099511627776 ∧ args = [.slice (some ⟨b, 0, none⟩) zs.length c] ∧ W.get b = some (.cells (zs.map (Value.int .i64))) ∧ W' = W.put b (.cells ((sortL zs).map (Value.int .i64)))
theorem map_int_inj : ∀ {a b : List Int}, a.map (Value.int .i64) = b.map (Value.int .i64) → a = b
  | [], [], _ => rfl
  | [], _ :: _, h => by simp at h
  | _ :: _, [], h => by simp at h
  | x :: a, y :: b, h => by
    simp only [List.map_cons, List.cons.injEq, Value.int.injEq, true_and] at h
    rw [h.1, map_int_inj h.2]
theorem SortArgs.one {W W1 W2 : AW} {args : List Value} (h1 : SortArgs W args W1) (h2 : SortArgs W args W2) : W1 = W2 := by
  obtain ⟨b, c, zs, _, _, rfl, g1, rfl⟩ := h1
  obtain ⟨b2, c2, zs2, _, _, e, g2, rfl⟩ := h2
  simp only [List.cons.injEq, Value.slice.injEq, Option.some.injEq, Addr.mk.injEq, and_true] at e
  obtain ⟨rfl, _, _⟩ := e
  rw [g1] at g2
  simp only [Option.some.injEq, AObj.cells.injEq] at g2
  rw [map_int_inj g2]
noncomputable def sortC (F : Nat) : Callee := fun f args W => match f with
  | .func (.func g) fs cs => (match Nat.beq g F && (fs.isEmpty && cs.isEmpty) with
    | true => open Classical in if h : ∃ W', SortArgs W args W' then some (.tuple #[], Classical.choose h) else none
    | false => none)
  | _ => none
end Go.Eng
namespace Go.Eng
open Go
set_option linter.unusedSectionVars false
set_option linter.unusedSimpArgs false
set_option linter.unusedVariables false
variable [PlanTab]
section
variable {P : Program} {W : AW} {α : Type}
def intC (n : Int) : List Value := [.int .i64 n]
theorem intC_len (n : Int) : (intC n).length = 1 := rfl
theorem intC_one (n : Int) : (intC n).all one = true := rfl
theorem intC_at (n : Int) (pre post : List Value) : intAt .i64 (pre ++ (intC n ++ post)) pre.length n := by
  unfold intAt
  rw [List.getElem?_append_right (by omega)]; simp [intC]
theorem Lst.ints {lo : Nat} {v : Value} {l : List Int} (h : Lst lo W 1 intC v l) : Ints W v l := h.row intC_len intC_at
theorem Row.nil {z : Nat} {at_ : List Value → Nat → α → Prop} : Row W z at_ (.slice none 0 0) ([] : List α) := ⟨none, 0, rfl, .inl rfl⟩
theorem app_lit {ts : Array TypeId} {z bytes : Nat} (hk : appOk P ts z bytes = true) {b o n c : Nat} {cs new : List Value} (hc : cellsAt W b = some cs) (hn : new = (cs.drop o).take (n * z)) (hl : new.length = n * z) (h0 : 0 < n) (h1 : new.all one = true)
    {B m : Nat} {old : List Value} (ho : cellsAt W B = some old) (hol : old.length = m * z) (hb : m + n < 1099511627776) (hb2 : (2 * (m + n) + 192) * bytes ≤ 281474976710656) (hm : 0 < m) :
    aAppend P W ts (.slice (some ⟨B, 0, none⟩) m m) (.slice (some ⟨b, o, none⟩) n c) = some (.slice (some ⟨W.next, 0, none⟩) (m + n) (BIG + z), W.add (.cells (old ++ new))) := by
  obtain ⟨t, e, zv, k1, k2, k3, k4, k5, k6⟩ := appOk_inv hk
  have hr : readN W b o (n * z) = some new := by rw [readN_def, hc]; simp only; rw [if_pos (by rw [← hn]; exact hl), hn]
  have hr1 : readSlice W (.slice (some ⟨b, o, none⟩) n c) (n * z) = some new := by
    unfold readSlice
    simp only
    rw [if_neg (by have := Nat.mul_pos h0 k5; omega), if_neg (by omega)]
    exact hr
  have hro : readN W B 0 (m * z) = some old := by
    rw [readN_def, ho]; simp only [List.drop_zero]
    rw [List.take_of_length_le (by omega), if_pos hol]
  have hr2 : readSlice W (.slice (some ⟨B, 0, none⟩) m m) (m * z) = some old := by
    unfold readSlice
    simp only
    rw [if_neg (by have := Nat.mul_pos hm k5; omega), if_neg (by omega)]
    exact hro
  have hB : m < BIG := by unfold BIG; omega
  have hB2 : ¬ m = BIG + z := by unfold BIG; omega
  unfold aAppend
  simp only [k1, k2, k3, k4, if_true, if_pos (And.intro k5 (And.intro k6 (And.intro hb hb2))), if_neg (show ¬ n = 0 by omega), hr1, hr2, h1, if_neg hB2, if_pos hB, if_neg (show ¬ m + n ≤ m by omega), AW.new_eq]
end
end Go.Eng
namespace Go.Eng
open Go
set_option linter.unusedSectionVars false
set_option linter.unusedSimpArgs false
set_option linter.unusedVariables false
variable [PlanTab]
def entV (l : List (Int × Value × Nat)) : List MapEntry := l.map fun p => { key := .int .i64 p.1, val := p.2.1, born := p.2.2 }
def lkV : List (Int × Value × Nat) → Int → Option Value
  | [], _ => none
  | p :: l, k => if k = p.1 then some p.2.1 else lkV l k
def fndV : List (Int × Value × Nat) → Int → Nat → Option (Nat × Value)
  | [], _, _ => none
  | p :: l, k, i => if k = p.1 then some (i, p.2.1) else fndV l k (i + 1)
theorem findNow_entV (l : List (Int × Value × Nat)) (k : Int) : ∀ i, Instr.findNow (.int .i64) (.int .i64 k) (entV l) i = some (fndV l k i) := by
  induction l with
  | nil => intro i; rfl
  | cons p l ih =>
    intro i
    show (match Instr.sameNow (.int .i64) (.int .i64 k) (.int .i64 p.1) with | some true => some (some (i, p.2.1)) | some false => Instr.findNow (.int .i64) (.int .i64 k) (entV l) (i + 1) | none => none) = _
    unfold fndV
    by_cases h : k = p.1
    · have : Instr.sameNow (.int .i64) (.int .i64 k) (.int .i64 p.1) = some true := by simp [Instr.sameNow, h]
      rw [this, if_pos h]
    · have : Instr.sameNow (.int .i64) (.int .i64 k) (.int .i64 p.1) = some false := by simp [Instr.sameNow, h]
      rw [this, if_neg h]
      exact ih (i + 1)
theorem lkV_fnd (l : List (Int × Value × Nat)) (k : Int) : ∀ i, lkV l k = (fndV l k i).map (·.2) := by
  induction l with
  | nil => intro i; rfl
  | cons p l ih =>
    intro i
    unfold lkV fndV
    by_cases h : k = p.1
    · rw [if_pos h, if_pos h]; rfl
    · rw [if_neg h, if_neg h]; exact ih (i + 1)
def keysV (l : List (Int × Value × Nat)) : List Int := l.map (·.1)
theorem lkV_none {l : List (Int × Value × Nat)} {k : Int} (h : k ∉ keysV l) : lkV l k = none := by
  induction l with
  | nil => rfl
  | cons p l ih =>
    unfold keysV at h
    rw [List.map_cons, List.mem_cons, not_or] at h
    unfold lkV
    rw [if_neg h.1]
    exact ih h.2
theorem fndV_some {k : Int} {v : Value} : ∀ {l : List (Int × Value × Nat)} {i j : Nat}, (keysV l).Nodup → fndV l k i = some (j, v) → i ≤ j ∧ (∃ b, l[j - i]? = some (k, v, b) ∧ ∀ v' k', lkV (l.set (j - i) (k, v', b)) k' = if k' = k then some v' else lkV l k') ∧
    (∀ k', lkV (l.eraseIdx (j - i)) k' = if k' = k then none else lkV l k') ∧ (keysV (l.eraseIdx (j - i))).Nodup ∧ (l.eraseIdx (j - i)).length + 1 = l.length ∧ ∀ v' b, keysV (l.set (j - i) (k, v', b)) = keysV l
  | [], i, j, _, h => by cases h
  | p :: l, i, j, hn, h => by
    unfold fndV at h
    have hn0 : p.1 ∉ keysV l ∧ (keysV l).Nodup := List.nodup_cons.1 hn
    by_cases hk : k = p.1
    · rw [if_pos hk] at h
      injection h with h
      injection h with h1 h2
      subst h1
      rw [Nat.sub_self]
      refine ⟨Nat.le_refl _, ⟨p.2.2, by rw [hk, ← h2]; rfl, fun v' k' => ?_⟩, fun k' => ?_, hn0.2, rfl, fun v' b => by rw [List.set_cons_zero]; simp [keysV, hk]⟩
      · rw [List.set_cons_zero]
        unfold lkV
        rw [← hk]
        by_cases hk' : k' = k
        · rw [if_pos hk', if_pos hk']
        · rw [if_neg hk', if_neg hk', if_neg hk']
      · show lkV l k' = _
        by_cases hk' : k' = k
        · rw [if_pos hk', hk', hk]; exact lkV_none hn0.1
        · rw [if_neg hk']
          conv => rhs; unfold lkV
          rw [if_neg (fun e => hk' (e.trans hk.symm))]
    · rw [if_neg hk] at h
      obtain ⟨h1, ⟨b, h2, h3⟩, h4, h5, h6, h7⟩ := fndV_some hn0.2 h
      have e : j - i = (j - (i + 1)) + 1 := by omega
      rw [e]
      refine ⟨by omega, ⟨b, by rw [List.getElem?_cons_succ]; exact h2, fun v' k' => ?_⟩, fun k' => ?_, ?_, ?_, fun v' b => ?_⟩
      · rw [List.set_cons_succ]
        unfold lkV
        by_cases hp : k' = p.1
        · have : ¬ k' = k := fun x => hk (x.symm.trans hp)
          rw [if_pos hp, if_neg this, if_pos hp]
        · rw [if_neg hp, h3, if_neg hp]
      · rw [List.eraseIdx_cons_succ]
        unfold lkV
        by_cases hp : k' = p.1
        · have : ¬ k' = k := fun x => hk (x.symm.trans hp)
          rw [if_pos hp, if_neg this, if_pos hp]
        · rw [if_neg hp, h4, if_neg hp]
      · rw [List.eraseIdx_cons_succ]
        refine List.nodup_cons.2 ⟨fun hm => hn0.1 ?_, h5⟩
        unfold keysV at hm ⊢
        obtain ⟨x, hx, hxe⟩ := List.mem_map.1 hm
        exact List.mem_map.2 ⟨x, List.mem_of_mem_eraseIdx hx, hxe⟩
      · rw [List.eraseIdx_cons_succ, List.length_cons, List.length_cons, h6]
      · rw [List.set_cons_succ]
        show p.1 :: keysV _ = p.1 :: keysV l
        rw [h7]
theorem fndV_none {k : Int} : ∀ {l : List (Int × Value × Nat)} {i : Nat}, fndV l k i = none → k ∉ keysV l ∧ ∀ v b k', lkV (l ++ [(k, v, b)]) k' = if k' = k then some v else lkV l k'
  | [], i, _ => ⟨by simp [keysV], fun v b k' => by simp [lkV]⟩
  | p :: l, i, h => by
    unfold fndV at h
    by_cases hk : k = p.1
    · rw [if_pos hk] at h; cases h
    · rw [if_neg hk] at h
      obtain ⟨h1, h2⟩ := fndV_none h
      refine ⟨?_, fun v b k' => ?_⟩
      · unfold keysV
        rw [List.map_cons, List.mem_cons, not_or]
        exact ⟨hk, h1⟩
      · rw [List.cons_append]
        unfold lkV
        by_cases hp : k' = p.1
        · have : ¬ k' = k := fun x => hk (x.symm.trans hp)
          rw [if_pos hp, if_neg this, if_pos hp]
        · rw [if_neg hp, h2, if_neg hp]
theorem mapErase {α β : Type} (f : α → β) : ∀ (l : List α) (i : Nat), (l.map f).eraseIdx i = (l.eraseIdx i).map f
  | [], _ => by simp
  | a :: l, 0 => rfl
  | a :: l, i + 1 => by rw [List.map_cons, List.eraseIdx_cons_succ, List.eraseIdx_cons_succ, List.map_cons, mapErase f l i]
def MapV (W : AW) (r : Nat) (m : Int → Option Value) (n : Nat) : Prop := ∃ l c, W.get r = some (.map (entV l) c) ∧ (keysV l).Nodup ∧ l.length = n ∧ ∀ k, lkV l k = m k
section
variable {P : Program} {W : AW} {r : Nat} {m : Int → Option Value} {n : Nat} {t kt e : TypeId}
theorem entV_plain (l : List (Int × Value × Nat)) : keysPlain (entV l) = true := by
  unfold keysPlain entV
  rw [List.all_map, List.all_eq_true]
  intro p _
  rfl
theorem key_intV (hk : P.underlying kt = some (.int .i64)) (empty : Bool) (k : Int) : keyOk P empty kt (.int .i64 k) = true := by
  unfold keyOk
  have : pureRun P (Instr.checkKey empty 10000 kt (.int .i64 k)) = some () := by
    unfold Instr.checkKey
    simp only [pureRun_bind, pureRun_underlying hk, Option.bind_some]
    rfl
  rw [this]
  rfl
theorem find_intV (hk : P.underlying kt = some (.int .i64)) (l : List (Int × Value × Nat)) (k : Int) : aFind2 P kt (.int .i64 k) (entV l) = some (fndV l k 0) := by
  unfold aFind2 aFind
  have hp : plain (.int .i64 k) = true ∧ keysPlain (entV l) = true := ⟨rfl, entV_plain l⟩
  simp only [if_pos hp, hk, findNow_entV]
theorem mapV_get (h : MapV W r m n) (ht : P.underlying t = some (.map kt e)) (hk : P.underlying kt = some (.int .i64)) {z : Value} (hz : tZero P e = some z) (k : Int) : oLookup P t (.map (some r)) (.int .i64 k) false W = some ((m k).getD z, W) := by
  obtain ⟨l, c, hg, hn, hl, hm⟩ := h
  unfold oLookup aLookup
  simp only [ht, hg, key_intV hk, if_true, find_intV hk]
  rw [← hm k, lkV_fnd l k 0]
  unfold aFound
  cases fndV l k 0 with
  | none => simp only [hz]; rfl
  | some q => rfl
theorem mapV_get2 (h : MapV W r m n) (ht : P.underlying t = some (.map kt e)) (hk : P.underlying kt = some (.int .i64)) {z : Value} (hz : tZero P e = some z) (k : Int) : oLookup P t (.map (some r)) (.int .i64 k) true W = some (.tuple #[(m k).getD z, .bool (m k).isSome], W) := by
  obtain ⟨l, c, hg, hn, hl, hm⟩ := h
  unfold oLookup aLookup
  simp only [ht, hg, key_intV hk, if_true, find_intV hk]
  rw [← hm k, lkV_fnd l k 0]
  unfold aFound
  cases fndV l k 0 with
  | none => simp only [hz]; rfl
  | some q => rfl
theorem mapV_set (h : MapV W r m n) (ht : P.underlying t = some (.map kt e)) (hk : P.underlying kt = some (.int .i64)) (k : Int) (v : Value) : ∃ es c, oMapUpdate P t (.map (some r)) (.int .i64 k) v W = some (undef, W.put r (.map es c)) ∧ MapV (W.put r (.map es c)) r (fun x => if x = k then some v else m x) (if (m k).isSome then n else n + 1) := by
  obtain ⟨l, c, hg, hn, hl, hm⟩ := h
  have hmk : m k = (fndV l k 0).map (·.2) := by rw [← hm k, lkV_fnd l k 0]
  cases hf : fndV l k 0 with
  | none =>
    obtain ⟨h1, h2⟩ := fndV_none hf
    rw [hf] at hmk
    refine ⟨entV (l ++ [(k, v, c)]), c + 1, ?_, l ++ [(k, v, c)], c + 1, AW.get_put _ _ _, ?_, ?_, fun x => by rw [h2, hm]⟩
    · unfold oMapUpdate aMapUpdate
      simp only [ht, hg, key_intV hk, if_true, find_intV hk, hf, Option.map_none, Option.map_some]
      unfold entV
      rw [List.map_append]; rfl
    · unfold keysV at h1 hn ⊢
      rw [List.map_append, List.nodup_append]
      refine ⟨hn, by simp, fun a ha b hb hab => ?_⟩
      simp only [List.map_cons, List.map_nil, List.mem_singleton] at hb
      subst hb; subst hab
      exact h1 ha
    · rw [hmk]
      simp [hl]
  | some q =>
    obtain ⟨j, v0⟩ := q
    obtain ⟨_, ⟨b, h2, h3⟩, -, -, -, h7⟩ := fndV_some hn hf
    rw [Nat.sub_zero] at h2 h3 h7
    rw [hf] at hmk
    refine ⟨entV (l.set j (k, v, b)), c, ?_, l.set j (k, v, b), c, AW.get_put _ _ _, by rw [h7]; exact hn, by rw [hmk]; simp [hl], fun x => by rw [h3, hm]⟩
    have he : (entV l)[j]? = some { key := .int .i64 k, val := v0, born := b } := by
      unfold entV
      rw [List.getElem?_map, h2]; rfl
    have hs : Instr.sameBits 10000 (.int .i64 k) (.int .i64 k) = true := by
      unfold Instr.sameBits
      simp
    have hpl : plain (.int .i64 k) = true := rfl
    unfold oMapUpdate aMapUpdate
    simp only [ht, hg, key_intV hk, if_true, find_intV hk, hf, Option.map_some, he, hs, hpl, and_self]
    unfold entV
    rw [List.map_set]
theorem mapV_del (h : MapV W r m n) (ht : P.underlying t = some (.map kt e)) (hk : P.underlying kt = some (.int .i64)) (ts : List TypeId) (k : Int) : ∃ es c, aDelete P W (t :: ts).toArray (.map (some r)) (.int .i64 k) = some (W.put r (.map es c)) ∧ MapV (W.put r (.map es c)) r (fun x => if x = k then none else m x) (if (m k).isSome then n - 1 else n) := by
  obtain ⟨l, c, hg, hn, hl, hm⟩ := h
  have hmk : m k = (fndV l k 0).map (·.2) := by rw [← hm k, lkV_fnd l k 0]
  cases hf : fndV l k 0 with
  | none =>
    obtain ⟨h1, -⟩ := fndV_none hf
    rw [hf] at hmk
    refine ⟨entV l, c, ?_, l, c, AW.get_put _ _ _, hn, by rw [hmk]; simp [hl], fun x => ?_⟩
    · unfold aDelete
      simp only [ht, hg, key_intV hk, if_true, find_intV hk, hf]
    · show lkV l x = if x = k then none else m x
      by_cases hx : x = k
      · rw [if_pos hx, hx, lkV_none h1]
      · rw [if_neg hx, hm]
  | some q =>
    obtain ⟨j, v0⟩ := q
    obtain ⟨_, -, h4, h5, h6, -⟩ := fndV_some hn hf
    rw [Nat.sub_zero] at h4 h5 h6
    rw [hf] at hmk
    refine ⟨entV (l.eraseIdx j), c, ?_, l.eraseIdx j, c, AW.get_put _ _ _, h5, by rw [hmk]; simp; omega, fun x => by rw [h4, hm]⟩
    unfold aDelete
    simp only [ht, hg, key_intV hk, if_true, find_intV hk, hf]
    unfold entV
    rw [mapErase]
theorem mapV_new : MapV (W.add (.map [] 0)) W.next (fun _ => none) 0 := ⟨[], 0, AW.get_add _ _, by simp [keysV], rfl, fun k => rfl⟩
theorem MapV.keep {W' : AW} (h : MapV W r m n) (hg : W'.get r = W.get r) : MapV W' r m n := by
  obtain ⟨l, c, h1, h2⟩ := h
  exact ⟨l, c, hg.trans h1, h2⟩
end
end Go.Eng
namespace Go.Eng
open Go
set_option linter.unusedSectionVars false
set_option linter.unusedSimpArgs false
set_option linter.unusedVariables false
variable [PlanTab]
section
variable {P : Program} {W : AW}
theorem slice_open {t : TypeId} {z : Nat} (hz : sliceZ P t = some z) (h0 : 0 < z) {b o l h : Nat} {k : IntKind} (h1 : h ≤ l) :
    oSlice P t (.slice (some ⟨b, o, none⟩) l (BIG + z)) none (some (.int k (h : Int))) none W = some (.slice (some ⟨b, o, none⟩) h (BIG + z), W) := by
  obtain ⟨e, he, hz⟩ := sliceZ_inv hz
  have h2 : ((⟨b, o, none⟩ : Addr).add (0 * z)) = ⟨b, o, none⟩ := by rw [addr_add]; simp
  unfold oSlice aSlice
  simp only [he, hz, boundOf, natOf, Nat.zero_le, if_true, true_and, if_pos h0, if_pos h1, Nat.sub_zero, h2]
end
end Go.Eng
namespace Go.Eng
open Go
set_option linter.unusedSectionVars false
set_option linter.unusedSimpArgs false
set_option linter.unusedVariables false
variable [PlanTab]
section
variable {P : Program} {W : AW} {α : Type}
theorem app_lit0' {ts : Array TypeId} {z bytes : Nat} (hk : appOk P ts z bytes = true) {b o n c : Nat} {cs new : List Value} (hc : cellsAt W b = some cs) (hn : new = (cs.drop o).take (n * z)) (hl : new.length = n * z) (h0 : 0 < n) (h1 : new.all Eng.one = true)
    {a : Addr} (hb : n < 1099511627776) (hb2 : (2 * n + 192) * bytes ≤ 281474976710656) :
    aAppend P W ts (.slice (some a) 0 0) (.slice (some ⟨b, o, none⟩) n c) = some (.slice (some ⟨W.next, 0, none⟩) n (BIG + z), W.add (.cells new)) := by
  obtain ⟨t, e, zv, k1, k2, k3, k4, k5, k6⟩ := appOk_inv hk
  have hr : readN W b o (n * z) = some new := by rw [readN_def, hc]; simp only; rw [if_pos (by rw [← hn]; exact hl), hn]
  have hr1 : readSlice W (.slice (some ⟨b, o, none⟩) n c) (n * z) = some new := by
    unfold readSlice
    simp only
    rw [if_neg (by have := Nat.mul_pos h0 k5; omega), if_neg (by omega)]
    exact hr
  have hr2 : readSlice W (.slice (some a) 0 0) (0 * z) = some [] := by
    unfold readSlice
    simp
  have hB : 0 < BIG := by unfold BIG; omega
  have hB2 : ¬ 0 = BIG + z := by unfold BIG; omega
  unfold aAppend
  simp only [k1, k2, k3, k4, if_true, Nat.zero_add, if_pos (And.intro k5 (And.intro k6 (And.intro hb hb2))), if_neg (show ¬ n = 0 by omega), hr1, hr2, h1, if_neg hB2, if_pos hB, if_neg (show ¬ n ≤ 0 by omega), AW.new_eq, List.nil_append]
theorem app_none' {ts : Array TypeId} {z bytes : Nat} (hk : appOk P ts z bytes = true) {a a2 : Option Addr} {l c c2 : Nat} (h : l ≤ c) (hb : l < 1099511627776) (hb2 : (2 * l + 192) * bytes ≤ 281474976710656) :
    aAppend P W ts (.slice a l c) (.slice a2 0 c2) = some (.slice a l c, W) := by
  obtain ⟨t, e, zv, k1, k2, k3, k4, k5, k6⟩ := appOk_inv hk
  unfold aAppend
  simp only [k1, k2, k3, k4, if_true, Nat.add_zero, if_pos (And.intro k5 (And.intro k6 (And.intro hb hb2))), if_pos h]
theorem all_flat {f : α → List Value} (h1 : ∀ a, (f a).all one = true) : ∀ l : List α, (l.flatMap f).all one = true
  | [] => rfl
  | a :: l => by rw [List.flatMap_cons, List.all_append, h1 a, all_flat h1 l]; rfl
def EL (lo : Nat) (W : AW) (z : Nat) (f : α → List Value) (v : Value) (l : List α) : Prop :=
  (l = [] ∧ (v = .slice none 0 0 ∨ ∃ B, v = .slice (some ⟨B, 0, none⟩) 0 0)) ∨ (l ≠ [] ∧ ∃ B c, lo ≤ B ∧ B < W.next ∧ v = .slice (some ⟨B, 0, none⟩) l.length c ∧ (c = BIG + z ∨ c = l.length) ∧ W.get B = some (.cells (l.flatMap f)))
def Rd (W : AW) (z : Nat) (f : α → List Value) (v : Value) (l : List α) : Prop :=
  ∃ a c, v = .slice a l.length c ∧ (l = [] ∨ ∃ b o cs, a = some ⟨b, o, none⟩ ∧ b < W.next ∧ cellsAt W b = some cs ∧ (cs.drop o).take (l.length * z) = l.flatMap f)
theorem EL.nil (lo : Nat) (W : AW) (z : Nat) (f : α → List Value) : EL lo W z f (.slice none 0 0) [] := .inl ⟨rfl, .inl rfl⟩
theorem EL.nil' (lo : Nat) (W : AW) (z : Nat) (f : α → List Value) (B : Nat) : EL lo W z f (.slice (some ⟨B, 0, none⟩) 0 0) [] := .inl ⟨rfl, .inr ⟨B, rfl⟩⟩
theorem EL.keep {lo z : Nat} {f : α → List Value} {v : Value} {l : List α} {W' : AW} (h : EL lo W z f v l) (hn : W.next ≤ W'.next) (hg : ∀ b, lo ≤ b → b < W.next → W'.get b = W.get b) : EL lo W' z f v l := by
  rcases h with h | ⟨h0, B, c, h1, h2, h3, hc, h4⟩
  · exact .inl h
  · exact .inr ⟨h0, B, c, h1, by omega, h3, hc, by rw [hg B h1 h2]; exact h4⟩
theorem EL.mono {lo z : Nat} {f : α → List Value} {v : Value} {l : List α} {W' : AW} (h : EL lo W z f v l) (hle : Le W W') : EL lo W' z f v l := h.keep hle.next fun b _ hb => hle.get b hb
theorem EL.low {lo lo' z : Nat} {f : α → List Value} {v : Value} {l : List α} (h : EL lo W z f v l) (hl : lo' ≤ lo) : EL lo' W z f v l := by
  rcases h with h | ⟨h0, B, c, h1, h⟩
  · exact .inl h
  · exact .inr ⟨h0, B, c, by omega, h⟩
theorem EL.slice {lo z : Nat} {f : α → List Value} {v : Value} {l : List α} (h : EL lo W z f v l) : ∃ a c, v = .slice a l.length c := by
  rcases h with ⟨rfl, rfl | ⟨B, rfl⟩⟩ | ⟨_, B, c, _, _, rfl, _⟩ <;> exact ⟨_, _, rfl⟩
theorem EL.row {lo z : Nat} {f : α → List Value} {v : Value} {l : List α} {at_ : List Value → Nat → α → Prop} (hf : ∀ a, (f a).length = z) (h : EL lo W z f v l) (hat : ∀ a pre post, at_ (pre ++ (f a ++ post)) pre.length a) : Row W z at_ v l := by
  rcases h with ⟨rfl, rfl | ⟨B, rfl⟩⟩ | ⟨h0, B, c, i1, i2, rfl, hc, i4⟩
  · exact ⟨none, 0, rfl, .inl rfl⟩
  · exact ⟨_, 0, rfl, .inl rfl⟩
  · refine ⟨_, _, rfl, .inr ⟨B, 0, _, rfl, i2, cellsAt_of i4, fun i hi => ?_⟩⟩
    have e : l.flatMap f = (l.take i).flatMap f ++ (f l[i] ++ (l.drop (i + 1)).flatMap f) := by
      rw [← List.flatMap_cons, ← List.drop_eq_getElem_cons hi, ← List.flatMap_append, List.take_append_drop]
    have e2 : ((l.take i).flatMap f).length = 0 + i * z := by rw [flatMap_len hf, List.length_take]; rw [Nat.min_eq_left (by omega), Nat.zero_add]
    rw [e, ← e2]
    exact hat _ _ _
theorem Rd.keep {z : Nat} {f : α → List Value} {v : Value} {l : List α} {W' : AW} (h : Rd W z f v l) (hle : Le W W') : Rd W' z f v l := by
  obtain ⟨a, c, rfl, h⟩ := h
  refine ⟨a, c, rfl, ?_⟩
  rcases h with h | ⟨b, o, cs, h1, h2, h3, h4⟩
  · exact .inl h
  · exact .inr ⟨b, o, cs, h1, Nat.lt_of_lt_of_le h2 hle.next, by unfold cellsAt at h3 ⊢; rw [hle.get b h2]; exact h3, h4⟩
section
variable {t : TypeId} {z lo : Nat} {f : α → List Value} {v : Value} {l : List α} {kk : IntKind} {k : Nat}
theorem take_flat (hf : ∀ a, (f a).length = z) (l : List α) (k : Nat) : (l.flatMap f).take (k * z) = (l.take k).flatMap f := by
  rcases Nat.lt_or_ge l.length k with h | h
  · rw [List.take_of_length_le (by rw [flatMap_len hf]; exact Nat.mul_le_mul_right z (by omega)), List.take_of_length_le (by omega)]
  · have e : l.flatMap f = (l.take k).flatMap f ++ (l.drop k).flatMap f := by rw [← List.flatMap_append, List.take_append_drop]
    have e2 : ((l.take k).flatMap f).length = k * z := by rw [flatMap_len hf, List.length_take, Nat.min_eq_left h]
    rw [e, ← e2, List.take_left]
theorem drop_flat (hf : ∀ a, (f a).length = z) (l : List α) (k : Nat) : (l.flatMap f).drop (k * z) = (l.drop k).flatMap f := by
  rcases Nat.lt_or_ge l.length k with h | h
  · rw [List.drop_of_length_le (by rw [flatMap_len hf]; exact Nat.mul_le_mul_right z (by omega)), List.drop_of_length_le (by omega)]; rfl
  · have e : l.flatMap f = (l.take k).flatMap f ++ (l.drop k).flatMap f := by rw [← List.flatMap_append, List.take_append_drop]
    have e2 : ((l.take k).flatMap f).length = k * z := by rw [flatMap_len hf, List.length_take, Nat.min_eq_left h]
    rw [e, ← e2, List.drop_left]
theorem EL.to (hz : sliceZ P t = some z) (h0 : 0 < z) (hf : ∀ a, (f a).length = z) (h : EL lo W z f v l) (hk : k ≤ l.length) (hl : l.length < 1099511627776) :
    ∃ v', (∀ W' : AW, oSlice P t v none (some (.int kk (k : Int))) none W' = some (v', W')) ∧ Rd W z f v' (l.take k) := by
  have hlen : (l.take k).length = k := by rw [List.length_take]; omega
  have hB : l.length < BIG := by unfold BIG; omega
  rcases h with ⟨rfl, rfl | ⟨B, rfl⟩⟩ | ⟨h1, B, c, i1, i2, rfl, hc, i4⟩
  · have : k = 0 := by simpa using hk
    subst this
    exact ⟨_, fun _ => oSlice_to_nil hz, none, 0, rfl, .inl rfl⟩
  · have : k = 0 := by simpa using hk
    subst this
    exact ⟨_, fun _ => oSlice_to hz (Nat.le_refl _) (by unfold BIG; omega), _, 0, rfl, .inl rfl⟩
  · have hr : l.take k = [] ∨ ∃ b o cs, (some ⟨B, 0, none⟩ : Option Addr) = some ⟨b, o, none⟩ ∧ b < W.next ∧ cellsAt W b = some cs ∧ (cs.drop o).take ((l.take k).length * z) = (l.take k).flatMap f :=
      .inr ⟨B, 0, _, rfl, i2, cellsAt_of i4, by rw [List.drop_zero, hlen, take_flat hf]⟩
    rcases hc with rfl | rfl
    · exact ⟨_, fun _ => slice_open hz h0 hk, _, BIG + z, by rw [hlen], hr⟩
    · exact ⟨_, fun _ => oSlice_to hz hk hB, _, l.length, by rw [hlen], hr⟩
theorem oSlice_from {t : TypeId} {z : Nat} (hz : sliceZ P t = some z) (h0 : 0 < z) {B l c k : Nat} {kk : IntKind} (hk : k ≤ l) (hl : l < BIG) (hc : c = BIG + z ∨ c = l) :
    ∃ a c', (∀ W : AW, oSlice P t (.slice (some ⟨B, 0, none⟩) l c) (some (.int kk (k : Int))) none none W = some (.slice a (l - k) c', W)) ∧ (k < l → a = some ⟨B, k * z, none⟩) := by
  obtain ⟨e, he, hz⟩ := sliceZ_inv hz
  have h2 : ((⟨B, 0, none⟩ : Addr).add (k * z)) = ⟨B, k * z, none⟩ := by rw [addr_add]; simp
  unfold oSlice aSlice
  rcases hc with rfl | rfl
  · refine ⟨some ⟨B, k * z, none⟩, BIG + z, fun W => ?_, fun _ => rfl⟩
    simp only [he, hz, boundOf, natOf, if_pos hk, true_and, if_pos h0, Nat.le_refl, if_true, h2]
  · have hb : ¬ (c = BIG + z ∧ 0 < z) := fun x => by omega
    refine ⟨some (if c = k then ⟨B, 0, none⟩ else ⟨B, k * z, none⟩), c - k, fun W => ?_, fun h => by rw [if_neg (by omega)]⟩
    simp only [he, hz, boundOf, natOf, if_pos hk, if_neg hb, if_pos (And.intro hl (Nat.le_refl c)), h2]
theorem EL.from (hz : sliceZ P t = some z) (h0 : 0 < z) (hf : ∀ a, (f a).length = z) (h : EL lo W z f v l) (hk : k ≤ l.length) (hl : l.length < 1099511627776) :
    ∃ v', (∀ W' : AW, oSlice P t v (some (.int kk (k : Int))) none none W' = some (v', W')) ∧ Rd W z f v' (l.drop k) := by
  have hlen : (l.drop k).length = l.length - k := by rw [List.length_drop]
  have hB : l.length < BIG := by unfold BIG; omega
  rcases h with ⟨rfl, rfl | ⟨B, rfl⟩⟩ | ⟨h1, B, c, i1, i2, rfl, hc, i4⟩
  · have : k = 0 := by simpa using hk
    subst this
    refine ⟨.slice none 0 0, fun W' => ?_, none, 0, rfl, .inl rfl⟩
    obtain ⟨e, he, hz⟩ := sliceZ_inv hz
    unfold oSlice aSlice
    simp only [he, hz, boundOf, natOf, Nat.le_refl, and_self, if_true, Nat.sub_zero]
  · have : k = 0 := by simpa using hk
    subst this
    obtain ⟨a, c', e1, -⟩ := oSlice_from (P := P) (B := B) (kk := kk) hz h0 (Nat.le_refl 0) (by unfold BIG; omega) (.inr rfl)
    exact ⟨_, e1, a, c', rfl, .inl rfl⟩
  · obtain ⟨a, c', e1, e2⟩ := oSlice_from (P := P) (B := B) (kk := kk) hz h0 hk hB hc
    refine ⟨_, e1, a, c', by rw [hlen], ?_⟩
    rcases Nat.lt_or_ge k l.length with hk' | hk'
    · refine .inr ⟨B, k * z, _, e2 hk', i2, cellsAt_of i4, ?_⟩
      rw [drop_flat hf, ← flatMap_len hf, List.take_length]
    · exact .inl (List.drop_of_length_le hk')
theorem EL.app {ts : Array TypeId} {bytes : Nat} {v2 : Value} {l2 : List α} (hk : appOk P ts z bytes = true) (hf : ∀ a, (f a).length = z) (h1 : ∀ a, (f a).all one = true)
    (h : EL lo W z f v l) (h2 : Rd W z f v2 l2) (hb : l.length + l2.length < 1099511627776) (hb2 : (2 * (l.length + l2.length) + 192) * bytes ≤ 281474976710656) (hlo : lo ≤ W.next) :
    ∃ v' W', aAppend P W ts v v2 = some (v', W') ∧ EL lo W' z f v' (l ++ l2) ∧ W.next ≤ W'.next ∧ ∀ b, b < lo → W'.get b = W.get b := by
  have hz0 : 0 < z := by obtain ⟨t, e, zv, _, _, _, _, k5, _⟩ := appOk_inv hk; exact k5
  obtain ⟨a, c, rfl, h2⟩ := h2
  by_cases he : l2 = []
  · subst he
    rw [List.append_nil]
    have hb' : (2 * l.length + 192) * bytes ≤ 281474976710656 := by simpa using hb2
    rcases h with ⟨rfl, rfl | ⟨B, rfl⟩⟩ | ⟨h1', B, c', i1, i2, rfl, hc, i4⟩
    · exact ⟨_, _, app_none' hk (Nat.le_refl _) (by simp at hb; omega) (by simpa using hb'), .inl ⟨rfl, .inl rfl⟩, Nat.le_refl _, fun _ _ => rfl⟩
    · exact ⟨_, _, app_none' hk (Nat.le_refl _) (by simp at hb; omega) (by simpa using hb'), .inl ⟨rfl, .inr ⟨B, rfl⟩⟩, Nat.le_refl _, fun _ _ => rfl⟩
    · exact ⟨_, _, app_none' hk (by rcases hc with rfl | rfl <;> (try unfold BIG) <;> omega) (by omega) hb', .inr ⟨h1', B, c', i1, i2, rfl, hc, i4⟩, Nat.le_refl _, fun _ _ => rfl⟩
  · rcases h2 with h2 | ⟨b, o, cs, rfl, j1, j2, j3⟩
    · exact absurd h2 he
    have hpos2 : 0 < l2.length := List.length_pos_iff.2 he
    have hnl : (l2.flatMap f).length = l2.length * z := flatMap_len hf l2
    have ha := all_flat h1 l2
    rcases h with ⟨rfl, rfl | ⟨B, rfl⟩⟩ | ⟨h1', B, c', i1, i2, rfl, hc, i4⟩
    · refine ⟨_, _, app_nil hk j2 j3.symm hnl hpos2 ha (by simp at hb; omega) (by simpa using hb2), .inr ⟨by simpa using he, W.next, _, hlo, by rw [AW.add_next]; omega, by simp, .inl rfl, by rw [AW.get_add]; simp⟩, by rw [AW.add_next]; omega, fun b hb => AW.get_add_ne _ _ (by omega)⟩
    · refine ⟨_, _, app_lit0' hk j2 j3.symm hnl hpos2 ha (by simp at hb; omega) (by simpa using hb2), .inr ⟨by simpa using he, W.next, _, hlo, by rw [AW.add_next]; omega, by simp, .inl rfl, by rw [AW.get_add]; simp⟩, by rw [AW.add_next]; omega, fun b hb => AW.get_add_ne _ _ (by omega)⟩
    · have hpos : 0 < l.length := List.length_pos_iff.2 h1'
      rcases hc with rfl | rfl
      · refine ⟨_, _, app_on hk j2 j3.symm hnl hpos2 ha i4 (flatMap_len hf l) hb hb2 hpos, .inr ⟨by simp [h1'], W.next, _, hlo, by rw [AW.add_next, AW.kill_next]; omega, by rw [List.length_append], .inl rfl, ?_⟩, by rw [AW.add_next, AW.kill_next]; omega, fun b hb => ?_⟩
        · have := (W.kill B).get_add (.cells (l.flatMap f ++ l2.flatMap f))
          rw [AW.kill_next] at this
          rw [this, List.flatMap_append]
        · rw [AW.get_add_ne _ _ (by rw [AW.kill_next]; omega), AW.get_kill_ne _ (by omega)]
      · refine ⟨_, _, app_lit hk j2 j3.symm hnl hpos2 ha (cellsAt_of i4) (flatMap_len hf l) hb hb2 hpos, .inr ⟨by simp [h1'], W.next, _, hlo, by rw [AW.add_next]; omega, by rw [List.length_append], .inl rfl, by rw [AW.get_add, List.flatMap_append]⟩, by rw [AW.add_next]; omega, fun b hb => AW.get_add_ne _ _ (by omega)⟩
end
end
def isSl (v : Value) : Prop := (∃ b l c, v = .slice (some ⟨b, 0, none⟩) l c) ∨ ∃ l c, v = .slice none l c
theorem EL.isSl {α : Type} {lo z : Nat} {W : AW} {f : α → List Value} {v : Value} {l : List α} (h : EL lo W z f v l) : isSl v := by
  rcases h with ⟨rfl, rfl | ⟨B, rfl⟩⟩ | ⟨_, B, c, _, _, rfl, _⟩
  · exact .inr ⟨_, _, rfl⟩
  · exact .inl ⟨_, _, _, rfl⟩
  · exact .inl ⟨_, _, _, rfl⟩
theorem isSl.one {v : Value} (h : isSl v) : one v = true := by
  rcases h with ⟨b, l, c, rfl⟩ | ⟨l, c, rfl⟩ <;> rfl
theorem isSl.cells {v : Value} (h : isSl v) : v.cells = #[v] := by rcases h with ⟨b, l, c, rfl⟩ | ⟨l, c, rfl⟩ <;> rfl
theorem isSl.vs {v : Value} (h : isSl v) : vs1 v v = true := by
  rcases h with ⟨b, l, c, rfl⟩ | ⟨l, c, rfl⟩
  · exact vs1_slice _ _ _ _
  · exact vs1_snil _ _
theorem isSl.vsame {v : Value} (h : isSl v) : vsame v v = true := by
  rcases h with ⟨b, l, c, rfl⟩ | ⟨l, c, rfl⟩
  · exact vsame_slice _ _ _ _
  · exact vsame_snil _ _
def LstA {α : Type} (W : AW) (z : Nat) (f : α → List Value) (v : Value) (l : List α) (bo : Option Nat) : Prop :=
  (l = [] ∧ v = .slice none 0 0 ∧ bo = none) ∨ (l ≠ [] ∧ ∃ B, bo = some B ∧ B < W.next ∧ v = .slice (some ⟨B, 0, none⟩) l.length (BIG + z) ∧ W.get B = some (.cells (l.flatMap f)))
theorem LstA.lst {α : Type} {W : AW} {z : Nat} {f : α → List Value} {v : Value} {l : List α} {bo : Option Nat} (h : LstA W z f v l bo) : Lst 0 W z f v l := by
  rcases h with ⟨h1, h2, -⟩ | ⟨h0, B, -, h2, h3, h4⟩
  · exact .inl ⟨h1, h2⟩
  · exact .inr ⟨h0, B, Nat.zero_le _, h2, h3, h4⟩
theorem LstA.keep {α : Type} {W W' : AW} {z : Nat} {f : α → List Value} {v : Value} {l : List α} {bo : Option Nat} (h : LstA W z f v l bo) (hn : W.next ≤ W'.next) (hg : ∀ B, bo = some B → W'.get B = W.get B) : LstA W' z f v l bo := by
  rcases h with h | ⟨h0, B, h1, h2, h3, h4⟩
  · exact .inl h
  · exact .inr ⟨h0, B, h1, by omega, h3, (hg B h1).trans h4⟩
theorem LstA.lt {α : Type} {W : AW} {z : Nat} {f : α → List Value} {v : Value} {l : List α} {bo : Option Nat} (h : LstA W z f v l bo) {B : Nat} (hB : bo = some B) : B < W.next := by
  rcases h with ⟨-, -, h⟩ | ⟨h0, B', h1, h2, -⟩
  · rw [h] at hB; cases hB
  · rw [h1] at hB; injection hB with hB; omega
theorem LstA.push {α : Type} {P : Program} {W : AW} {ts : Array TypeId} {z bytes : Nat} {f : α → List Value} {v : Value} {l : List α} {bo : Option Nat} {a : α} (hk : appOk P ts z bytes = true) (hf : ∀ a, (f a).length = z) (h1 : ∀ a, (f a).all one = true)
    (h : LstA W z f v l bo) {b c : Nat} (hc : cellsAt W b = some (f a)) (hb : l.length + 1 < 1099511627776) (hb2 : (2 * (l.length + 1) + 192) * bytes ≤ 281474976710656) :
    ∃ v' W', aAppend P W ts v (.slice (some ⟨b, 0, none⟩) 1 c) = some (v', W') ∧ LstA W' z f v' (l ++ [a]) (some W.next) ∧ W'.next = W.next + 1 ∧ ∀ b, b < W.next → bo ≠ some b → W'.get b = W.get b := by
  have hn : f a = ((f a).drop 0).take (1 * z) := by rw [List.drop_zero, Nat.one_mul, ← hf a, List.take_length]
  have hl : (f a).length = 1 * z := by rw [hf]; omega
  rcases h with ⟨rfl, rfl, rfl⟩ | ⟨h0, B, rfl, i2, rfl, i4⟩
  · refine ⟨_, _, app_nil (b := b) (o := 0) (c := c) hk hc hn hl (by omega) (h1 a) (by omega) (by simpa using hb2), .inr ⟨by simp, W.next, rfl, by rw [AW.add_next]; omega, by simp, by rw [AW.get_add]; simp⟩, AW.add_next _ _, fun d hd _ => AW.get_add_ne _ _ (by omega)⟩
  · have hpos : 0 < l.length := List.length_pos_iff.2 h0
    refine ⟨_, _, app_on (b := b) (o := 0) (c := c) hk hc hn hl (by omega) (h1 a) i4 (flatMap_len hf l) (by omega) hb2 hpos, .inr ⟨by simp, W.next, rfl, by rw [AW.add_next, AW.kill_next]; omega, by simp [AW.kill_next], ?_⟩, by rw [AW.add_next, AW.kill_next], fun d hd hne => ?_⟩
    · have := (W.kill B).get_add (.cells (l.flatMap f ++ f a))
      rw [AW.kill_next] at this
      rw [this, List.flatMap_append]
      simp
    · rw [AW.get_add_ne _ _ (by rw [AW.kill_next]; omega), AW.get_kill_ne _ (fun e => hne (by rw [e]))]
section
variable {P : Program} {W : AW} {α : Type} {t : TypeId} {z lo : Nat} {f : α → List Value} {v : Value} {l : List α} {kk : IntKind} {k : Nat}
def RL (lo : Nat) (W : AW) (z : Nat) (f : α → List Value) (v : Value) (l : List α) : Prop :=
  EL lo W z f v l ∨ (l ≠ [] ∧ ∃ B c, lo ≤ B ∧ B < W.next ∧ v = .slice (some ⟨B, 0, none⟩) l.length c ∧ l.length ≤ c ∧ c < BIG ∧ cellsAt W B = some (l.flatMap f)) ∨ (l = [] ∧ ((∃ c, v = .slice none 0 c) ∨ ∃ B c, v = .slice (some ⟨B, 0, none⟩) 0 c ∧ c < BIG))
theorem RL.keep {W' : AW} (h : RL lo W z f v l) (hn : W.next ≤ W'.next) (hg : ∀ b, lo ≤ b → b < W.next → W'.get b = W.get b) : RL lo W' z f v l := by
  rcases h with h | ⟨h0, B, c, h1, h2, h3, h4, h5, h6⟩ | h
  · exact .inl (h.keep hn hg)
  · exact .inr (.inl ⟨h0, B, c, h1, by omega, h3, h4, h5, by unfold cellsAt at h6 ⊢; rw [hg B h1 h2]; exact h6⟩)
  · exact .inr (.inr h)
theorem RL.mono {W' : AW} (h : RL lo W z f v l) (hle : Le W W') : RL lo W' z f v l := h.keep hle.next fun b _ hb => hle.get b hb
theorem RL.low {lo' : Nat} (h : RL lo W z f v l) (hl : lo' ≤ lo) : RL lo' W z f v l := by
  rcases h with h | ⟨h0, B, c, h1, h⟩ | h
  · exact .inl (h.low hl)
  · exact .inr (.inl ⟨h0, B, c, by omega, h⟩)
  · exact .inr (.inr h)
theorem RL.isSl (h : RL lo W z f v l) : isSl v := by
  rcases h with h | ⟨_, B, c, _, _, rfl, _⟩ | ⟨_, ⟨c, rfl⟩ | ⟨B, c, rfl, _⟩⟩
  · exact h.isSl
  · exact .inl ⟨_, _, _, rfl⟩
  · exact .inr ⟨_, _, rfl⟩
  · exact .inl ⟨_, _, _, rfl⟩
theorem flat_at {cs : List Value} {at_ : List Value → Nat → α → Prop} (hf : ∀ a, (f a).length = z) (hat : ∀ a pre post, at_ (pre ++ (f a ++ post)) pre.length a) (e : cs = l.flatMap f) {i : Nat} (hi : i < l.length) : at_ cs (0 + i * z) l[i] := by
  have e1 : l.flatMap f = (l.take i).flatMap f ++ (f l[i] ++ (l.drop (i + 1)).flatMap f) := by
    rw [← List.flatMap_cons, ← List.drop_eq_getElem_cons hi, ← List.flatMap_append, List.take_append_drop]
  have e2 : ((l.take i).flatMap f).length = 0 + i * z := by rw [flatMap_len hf, List.length_take]; rw [Nat.min_eq_left (by omega), Nat.zero_add]
  rw [e, e1, ← e2]
  exact hat _ _ _
theorem RL.row {at_ : List Value → Nat → α → Prop} (hf : ∀ a, (f a).length = z) (h : RL lo W z f v l) (hat : ∀ a pre post, at_ (pre ++ (f a ++ post)) pre.length a) : Row W z at_ v l := by
  rcases h with h | ⟨h0, B, c, _, h2, rfl, _, _, h6⟩ | ⟨rfl, ⟨c, rfl⟩ | ⟨B, c, rfl, _⟩⟩
  · exact h.row hf hat
  · exact ⟨_, _, rfl, .inr ⟨B, 0, _, rfl, h2, h6, fun i hi => flat_at hf hat rfl hi⟩⟩
  · exact ⟨none, c, rfl, .inl rfl⟩
  · exact ⟨_, c, rfl, .inl rfl⟩
theorem RL.to (hz : sliceZ P t = some z) (h0 : 0 < z) (hf : ∀ a, (f a).length = z) (h : RL lo W z f v l) (hk : k ≤ l.length) (hl : l.length < 1099511627776) :
    ∃ v', (∀ W' : AW, oSlice P t v none (some (.int kk (k : Int))) none W' = some (v', W')) ∧ Rd W z f v' (l.take k) := by
  rcases h with h | ⟨h0', B, c, _, h2, rfl, h4, h5, h6⟩ | ⟨rfl, h⟩
  · exact h.to hz h0 hf hk hl
  · have hlen : (l.take k).length = k := by rw [List.length_take]; omega
    refine ⟨_, fun _ => oSlice_to hz (by omega) h5, _, c, by rw [hlen], .inr ⟨B, 0, _, rfl, h2, h6, ?_⟩⟩
    rw [List.drop_zero, hlen, take_flat hf]
  · have hk0 : k = 0 := by simpa using hk
    subst hk0
    rcases h with ⟨c, rfl⟩ | ⟨B, c, rfl, hc⟩
    · refine ⟨.slice none 0 c, fun W' => ?_, none, c, rfl, .inl rfl⟩
      obtain ⟨e, he, hz⟩ := sliceZ_inv hz
      unfold oSlice aSlice
      simp only [he, hz, boundOf, natOf, Nat.le_refl, Nat.zero_le, and_self, if_true, Nat.sub_zero]
    · exact ⟨_, fun _ => oSlice_to hz (Nat.zero_le _) hc, _, c, rfl, .inl rfl⟩
theorem RL.from (hz : sliceZ P t = some z) (h0 : 0 < z) (hf : ∀ a, (f a).length = z) (h : RL lo W z f v l) (hk : k ≤ l.length) (hl : l.length < 1099511627776) :
    ∃ v', (∀ W' : AW, oSlice P t v (some (.int kk (k : Int))) none none W' = some (v', W')) ∧ Rd W z f v' (l.drop k) := by
  rcases h with h | ⟨h0', B, c, _, h2, rfl, h4, h5, h6⟩ | ⟨rfl, h⟩
  · exact h.from hz h0 hf hk hl
  · have hlen : (l.drop k).length = l.length - k := by rw [List.length_drop]
    obtain ⟨e, he, hz'⟩ := sliceZ_inv hz
    have h2' : ((⟨B, 0, none⟩ : Addr).add (k * z)) = ⟨B, k * z, none⟩ := by rw [addr_add]; simp
    have hb : ¬ (c = BIG + z ∧ 0 < z) := fun x => by omega
    refine ⟨.slice (some (if c = k then ⟨B, 0, none⟩ else ⟨B, k * z, none⟩)) (l.length - k) (c - k), fun W' => ?_, _, c - k, by rw [hlen], ?_⟩
    · unfold oSlice aSlice
      simp only [he, hz', boundOf, natOf, if_pos hk, if_neg hb, if_pos (And.intro h5 h4), h2']
    · rcases Nat.lt_or_ge k l.length with hk' | hk'
      · refine .inr ⟨B, k * z, _, by rw [if_neg (by omega)], h2, h6, ?_⟩
        rw [drop_flat hf, ← flatMap_len hf, List.take_length]
      · exact .inl (List.drop_of_length_le hk')
  · have hk0 : k = 0 := by simpa using hk
    subst hk0
    obtain ⟨e, he, hz'⟩ := sliceZ_inv hz
    rcases h with ⟨c, rfl⟩ | ⟨B, c, rfl, hc⟩
    · refine ⟨.slice none 0 c, fun W' => ?_, none, c, rfl, .inl rfl⟩
      unfold oSlice aSlice
      simp only [he, hz', boundOf, natOf, Nat.le_refl, Nat.zero_le, and_self, if_true, Nat.sub_zero, List.length_nil]
    · have hb : ¬ (c = BIG + z ∧ 0 < z) := fun x => by omega
      have h2' : ((⟨B, 0, none⟩ : Addr).add (0 * z)) = ⟨B, 0, none⟩ := by rw [addr_add]; simp
      refine ⟨.slice (some ⟨B, 0, none⟩) 0 c, fun W' => ?_, _, c, rfl, .inl rfl⟩
      unfold oSlice aSlice
      simp only [he, hz', boundOf, natOf, Nat.le_refl, Nat.zero_le, if_true, if_neg hb, and_true, if_pos hc, Nat.sub_zero, List.length_nil, h2', ite_self]
end
theorem gc_two' {W W' : AW} (v : Value) : gc W (v, W') = (v, W') ∨ (gc W (v, W') = (v, W) ∧ Le W W' ∧ plain v = true) := by
  unfold gc
  split
  · rename_i h
    have := h.1
    simp only [Bool.and_eq_true] at this
    exact .inr ⟨rfl, h.2, this.1⟩
  · exact .inl rfl
theorem om_q' {o t : Option (Value × AW)} {W : AW} {Q : Value → AW → Prop} (h : Ok t fun r => Q r.1 r.2) (hom : ∀ {r}, t = some r → o = some (gc W r)) (hq : ∀ v W', Q v W' → Le W W' → plain v = true → Q v W) : ∃ v W', o = some (v, W') ∧ Q v W' := by
  obtain ⟨⟨v, W'⟩, h1, h2⟩ := h
  rcases gc_two' (W := W) (W' := W') v with hg | ⟨hg, hle, hp⟩
  · exact ⟨v, W', by rw [hom h1, hg], h2⟩
  · exact ⟨v, W, by rw [hom h1, hg], hq v W' h2 hle hp⟩
def putL {α : Type} (l : List α) (x : α) (n : Nat) : List α := l.take n ++ (x :: l.drop n)
end Go.Eng
namespace Go.Eng
open Go Go.RowKit
set_option linter.unusedSectionVars false
set_option linter.unusedSimpArgs false
set_option linter.unusedVariables false
variable [PlanTab]

def layF (P : Program) (total : Nat) : Nat → List Field → Bool
  | off, [] => off == total
  | off, f :: fs => f.offset == off && layF P total (off + P.cellsOf f.type) fs
def simT (P : Program) : Nat → TypeId → Bool
  | 0, _ => false
  | n + 1, t => match P.underlying t with
    | some .bool => true
    | some (.int _) => true
    | some .string => true
    | some (.struct fs) => layF P (P.cellsOf t) 0 fs.toList && fs.toList.all fun f => simT P n f.type
    | some (.slice e) => decide (0 < P.cellsOf e) && simT P n e
    | _ => false
def fldR (g : TypeId → List Value → Prop) : List TypeId → List Value → Prop
  | [], cs => cs = []
  | t :: ts, cs => ∃ c1 c2, cs = c1 ++ c2 ∧ g t c1 ∧ fldR g ts c2
theorem fldR.imp {g g' : TypeId → List Value → Prop} (h : ∀ t cs, g t cs → g' t cs) : ∀ {ts : List TypeId} {cs : List Value}, fldR g ts cs → fldR g' ts cs
  | [], _, hc => hc
  | _ :: _, _, ⟨c1, c2, e, h1, h2⟩ => ⟨c1, c2, e, h _ _ h1, fldR.imp h h2⟩
def DR (P : Program) (W : AW) : Nat → TypeId → List Value → Prop
  | 0, _, _ => False
  | n + 1, t, cs => match P.underlying t with
    | some .bool => ∃ b, cs = [.bool b]
    | some (.int k) => ∃ m, cs = [.int k m] ∧ k.min ≤ m ∧ m ≤ k.max
    | some .string => ∃ s : ByteArray, cs = [.string s] ∧ s.size < 9223372036854775808
    | some (.struct fs) => fldR (DR P W n) (fs.toList.map (·.type)) cs
    | some (.slice e) => ∃ a len cap, cs = [.slice a len cap] ∧ len ≤ cap ∧ cap < BIG ∧ (a = none ∨ ∃ b, a = some ⟨b, 0, none⟩) ∧ (len = 0 ∨ ∃ (b : Nat) (l : List (List Value)), a = some ⟨b, 0, none⟩ ∧ b < W.next ∧ cellsAt W b = some l.flatten ∧ l.length = len ∧ ∀ c ∈ l, c.length = P.cellsOf e ∧ DR P W n e c)
    | _ => False
theorem DR.mono {P : Program} {W W' : AW} (hle : Le W W') : ∀ {n : Nat} {t : TypeId} {cs : List Value}, DR P W n t cs → DR P W' n t cs := by
  intro n
  induction n with
  | zero => intro t cs h; exact h.elim
  | succ n ih =>
    intro t cs h
    unfold DR at h ⊢
    split at h
    · exact h
    · exact h
    · exact h
    · exact fldR.imp (fun t cs h => ih h) h
    · obtain ⟨a, len, cap, e1, e2, e3, e3', h⟩ := h
      refine ⟨a, len, cap, e1, e2, e3, e3', ?_⟩
      rcases h with h | ⟨b, l, e4, e5, e6, e7, h⟩
      · exact .inl h
      · exact .inr ⟨b, l, e4, Nat.lt_of_lt_of_le e5 hle.next, (hle.cellsAt e5).trans e6, e7, fun c hc => ⟨(h c hc).1, ih (h c hc).2⟩⟩
    · exact h
structure Opened (σ : Inj) (W : AW) (w : World) : Prop where
  rel : WRel σ W w.heap
  ro : AllRo σ W
  some_ : ∃ b g, σ b = some g
theorem Opened.add {σ : Inj} {W : AW} {w : World} (h : Opened σ W w) {B s : Nat} {cs : List Value} {c : Array Value} {t : TypeId} {fr : Nat × Nat} (hB : w.heap[B]? = some (.cells c t fr))
    (hc : ∀ (i : Nat) (v : Value), cs[i]? = some v → ∃ v', c[s + i]? = some v' ∧ VR σ v v') :
    Opened (bind1 σ W.next ⟨B, s, s + cs.length⟩) (W.add (.ro cs)) w ∧ Sub σ (bind1 σ W.next ⟨B, s, s + cs.length⟩) := by
  have hfr := h.rel.fresh
  have hs : Sub σ (bind1 σ W.next ⟨B, s, s + cs.length⟩) := bind1_sub hfr
  have hlt : B < w.heap.size := (Array.getElem?_eq_some_iff.1 hB).1
  have hne : ∀ {x : Nat}, x ≠ W.next → (W.add (.ro cs)).get x = W.get x := fun hx => W.get_add_ne _ (Ne.symm hx)
  have hinv : ∀ x g, bind1 σ W.next ⟨B, s, s + cs.length⟩ x = some g → (x = W.next ∧ g = ⟨B, s, s + cs.length⟩) ∨ (x ≠ W.next ∧ σ x = some g) := fun x g hc => by
    unfold bind1 at hc
    split at hc
    · rename_i hx; injection hc with hc; exact .inl ⟨hx, hc.symm⟩
    · rename_i hx; exact .inr ⟨hx, hc⟩
  have hro : AllRo (bind1 σ W.next ⟨B, s, s + cs.length⟩) (W.add (.ro cs)) := by
    intro x g hx
    rcases hinv x g hx with ⟨rfl, rfl⟩ | ⟨h1, h2⟩
    · exact ⟨cs, AW.get_add _ _⟩
    · obtain ⟨cs', hcs⟩ := h.ro x g h2
      exact ⟨cs', by rw [hne h1]; exact hcs⟩
  refine ⟨⟨⟨?_, ?_, ?_, ?_⟩, hro, ?_⟩, hs⟩
  · intro x hx
    rw [AW.add_next] at hx
    rw [hne (by omega)]
    exact h.rel.free x (by omega)
  · intro x g hx
    rw [AW.add_next]
    rcases hinv x g hx with ⟨rfl, rfl⟩ | ⟨_, h2⟩
    · exact ⟨by omega, hlt⟩
    · have := h.rel.dom x g h2
      exact ⟨by omega, this.2⟩
  · intro x o g hx hk
    rcases hinv x g hk with ⟨rfl, rfl⟩ | ⟨h1, h2⟩
    · rw [AW.get_add] at hx
      injection hx with hx
      subst hx
      exact ⟨c, t, fr, hB, Nat.le_refl _, fun i v hv => let ⟨v', a, b⟩ := hc i v hv; ⟨v', a, b.mono hs⟩⟩
    · rw [hne h1] at hx
      exact (h.rel.obj x o g hx h2).mono hs
  · intro b1 b2 o1 o2 g1 g2 hbb h1 h2 k1 k2 hr
    obtain ⟨c1, e1⟩ := hro b1 g1 k1
    obtain ⟨c2, e2⟩ := hro b2 g2 k2
    rw [h1] at e1; rw [h2] at e2
    injection e1 with e1; injection e2 with e2
    subst e1; subst e2
    simp [rw_] at hr
  · obtain ⟨b, g, hb⟩ := h.some_
    exact ⟨b, g, hs b g hb⟩
theorem cells?_at {w : World} {base : Nat} {a : Addr} {n : Nat} {cs : List Value} (h : w.cells? base a n = some cs) (hn : 0 < n) : ∃ c t fr, w.heap[a.block]? = some (.cells c t fr) ∧ a.spot = none ∧ cs.length = n ∧ ∀ i, i < n → c[a.off + i]? = cs[i]? := by
  unfold World.cells? at h
  split at h
  case isFalse => cases h
  have hl := mapM_some_length h
  rw [List.length_range] at hl
  have hg : ∀ i, i < n → w.cell? (a.add i) = cs[i]? := fun i hi => mapM_some_get h i i (by simp [hi])
  have h0 := hg 0 hn
  have e0 : a.add 0 = a := by simp [Addr.add]
  rw [e0, List.getElem?_eq_getElem (by omega)] at h0
  unfold World.cell? at h0
  split at h0
  case h_2 => cases h0
  rename_i c t fr hh
  split at h0
  case isTrue => cases h0
  rename_i hsp
  refine ⟨c, t, fr, hh, by simpa using hsp, hl, fun i hi => ?_⟩
  rw [← hg i hi]
  unfold World.cell?
  have eb : (a.add i).block = a.block := by unfold Addr.add; split <;> rfl
  have eo : (a.add i).off = a.off + i := by unfold Addr.add; split <;> simp_all
  have es : (a.add i).spot = none := by unfold Addr.add; split <;> simp_all
  rw [eb, hh]
  simp only [es, eo, Option.isSome_none, Bool.false_eq_true, if_false]
section
variable {H : Type} {enc : TypeId × Value → H} {P : Program} {w : World}
def Opens (P : Program) (w : World) (n : Nat) (t : TypeId) (cs' : List Value) : Prop := ∀ σ W, Opened σ W w → ∃ σ2 W2 cs, Opened σ2 W2 w ∧ Sub σ σ2 ∧ Le W W2 ∧ LR σ2 cs cs' ∧ DR P W2 n t cs
theorem opens_fields {n : Nat} {total : Nat} {cs' : List Value} (hl : cs'.length = total) : ∀ {fs : List Field} {off : Nat}, layF P total off fs = true → (∀ f ∈ fs, Opens P w n f.type ((cs'.drop f.offset).take (P.cellsOf f.type))) →
    ∀ σ W, Opened σ W w → ∃ σ2 W2 cs, Opened σ2 W2 w ∧ Sub σ σ2 ∧ Le W W2 ∧ LR σ2 cs (cs'.drop off) ∧ fldR (DR P W2 n) (fs.map (·.type)) cs
  | [], off, h, _, σ, W, ho => by
    unfold layF at h
    have := beq_iff_eq.1 h
    refine ⟨σ, W, [], ho, .refl _, .refl _, ?_, rfl⟩
    rw [List.drop_of_length_le (by omega)]
    exact .nil
  | f :: fs, off, h, hf, σ, W, ho => by
    unfold layF at h
    simp only [Bool.and_eq_true] at h
    have hoff := beq_iff_eq.1 h.1
    obtain ⟨σ1, W1, c1, o1, s1, l1, r1, a1⟩ := hf f (by simp) σ W ho
    obtain ⟨σ2, W2, c2, o2, s2, l2, r2, a2⟩ := opens_fields hl h.2 (fun g hg => hf g (by simp [hg])) σ1 W1 o1
    refine ⟨σ2, W2, c1 ++ c2, o2, s1.trans s2, l1.trans l2, ?_, c1, c2, rfl, a1.mono l2, a2⟩
    rw [hoff] at r1
    have e : cs'.drop off = (cs'.drop off).take (P.cellsOf f.type) ++ cs'.drop (off + P.cellsOf f.type) := by
      rw [← List.drop_drop, List.take_append_drop]
    rw [e]
    exact (r1.mono s2).append r2
theorem opens_list {n z : Nat} {e : TypeId} : ∀ {LL : List (List Value)}, (∀ c ∈ LL, c.length = z ∧ Opens P w n e c) →
    ∀ σ W, Opened σ W w → ∃ (σ2 : Inj) (W2 : AW) (l : List (List Value)), Opened σ2 W2 w ∧ Sub σ σ2 ∧ Le W W2 ∧ LR σ2 l.flatten LL.flatten ∧ l.length = LL.length ∧ ∀ c ∈ l, c.length = z ∧ DR P W2 n e c
  | [], _, σ, W, ho => ⟨σ, W, [], ho, .refl _, .refl _, .nil, rfl, by simp⟩
  | c0 :: LL, h, σ, W, ho => by
    obtain ⟨σ1, W1, c1, o1, s1, l1, r1, a1⟩ := (h c0 (by simp)).2 σ W ho
    obtain ⟨σ2, W2, l, o2, s2, l2, r2, e2, a2⟩ := opens_list (LL := LL) (fun c hc => h c (by simp [hc])) σ1 W1 o1
    refine ⟨σ2, W2, c1 :: l, o2, s1.trans s2, l1.trans l2, ?_, by simp [e2], ?_⟩
    · rw [List.flatten_cons, List.flatten_cons]
      exact (r1.mono s2).append r2
    · intro c hc
      rcases List.mem_cons.1 hc with rfl | hc
      · exact ⟨by rw [r1.1]; exact (h c0 (by simp)).1, a1.mono l2⟩
      · exact a2 c hc
theorem flat_row (L : List Value) (o z : Nat) : ∀ n, ((List.range n).map fun i => (L.drop (o + i * z)).take z).flatten = (L.drop o).take (n * z)
  | 0 => by simp
  | n + 1 => by
    rw [List.range_succ, List.map_append, List.flatten_append, flat_row L o z n, Nat.succ_mul, List.take_add, List.drop_drop]
    simp
theorem opens_trod : ∀ {n m : Nat} {t : TypeId} {cs' : List Value} {x : DataW H × List MemPlace}, simT P n t = true → DataW.trod enc P w 0 (fun _ => true) true m t cs' = some x → Opens P w n t cs' := by
  intro n
  induction n with
  | zero => intro m t cs' x h; cases h
  | succ n ih =>
    intro m t cs' x h hx σ W ho
    unfold simT at h
    split at h
    · rename_i ht
      obtain ⟨b, rfl, _⟩ := DataW.trod_bool ht hx
      exact ⟨σ, W, [.bool b], ho, .refl _, .refl _, .cons (.bool b) .nil, by unfold DR; rw [ht]; exact ⟨b, rfl⟩⟩
    · rename_i k ht
      obtain ⟨z, rfl, _, hwf⟩ := DataW.trod_int ht hx
      simp only [Lit.wf, Bool.and_eq_true, decide_eq_true_eq] at hwf
      exact ⟨σ, W, [.int k z], ho, .refl _, .refl _, .cons (.int k z) .nil, by unfold DR; rw [ht]; exact ⟨z, rfl, hwf⟩⟩
    · rename_i ht
      obtain ⟨s, rfl, _, hs⟩ := DataW.trod_string ht hx
      exact ⟨σ, W, [.string s], ho, .refl _, .refl _, .cons (.string s) .nil, by unfold DR; rw [ht]; exact ⟨s, rfl, by unfold maxLen at hs; omega⟩⟩
    · rename_i fs ht
      simp only [Bool.and_eq_true, List.all_eq_true] at h
      obtain ⟨xs, m', _, _, hl, hlen, hf⟩ := DataW.trod_struct ht hx
      have := opens_fields (P := P) (w := w) (n := n) hl h.1 (fun f hfm => by
        obtain ⟨i, hi, rfl⟩ := List.getElem_of_mem hfm
        have hi2 : i < fs.size := by simpa using hi
        have h1 := hf i fs[i] (by rw [Array.getElem?_eq_getElem hi2])
        rw [List.getElem?_eq_getElem (by omega)] at h1
        have e : fs.toList[i] = fs[i] := by simp
        rw [e]
        exact ih (by rw [← e]; exact h.2 _ hfm) h1) σ W ho
      obtain ⟨σ2, W2, cs, o2, s2, l2, r2, a2⟩ := this
      rw [List.drop_zero] at r2
      exact ⟨σ2, W2, cs, o2, s2, l2, r2, by unfold DR; rw [ht]; exact a2⟩
    · rename_i e ht
      simp only [Bool.and_eq_true, decide_eq_true_eq] at h
      obtain ⟨hz, hse⟩ := h
      have mk : ∀ {W2 : AW} {a : Option Addr} {len cap : Nat}, len ≤ cap → cap < BIG → (a = none ∨ ∃ b, a = some ⟨b, 0, none⟩) → (len = 0 ∨ ∃ (b : Nat) (l : List (List Value)), a = some ⟨b, 0, none⟩ ∧ b < W2.next ∧ cellsAt W2 b = some l.flatten ∧ l.length = len ∧ ∀ c ∈ l, c.length = P.cellsOf e ∧ DR P W2 n e c) → DR P W2 (n + 1) t [.slice a len cap] := fun h1 h2 h2' h3 => by
        unfold DR; rw [ht]; exact ⟨_, _, _, rfl, h1, h2, h2', h3⟩
      rcases DataW.trod_slice ht hx with ⟨rfl, _⟩ | ⟨a, len, cap, elems, rest, m', _, rfl, _, _, hlc, hcap, hel, hle, hsp, _⟩
      · exact ⟨σ, W, [.slice none 0 0], ho, .refl _, .refl _, .cons (.snil 0 0) .nil, mk (Nat.le_refl _) (by unfold BIG; omega) (.inl rfl) (.inl rfl)⟩
      obtain ⟨hrl, hre⟩ := hsp rfl
      have hcap2 : cap < BIG := by unfold maxLen at hcap; unfold BIG; omega
      by_cases hc0 : cap = 0
      · obtain rfl : len = 0 := by omega
        subst hc0
        obtain ⟨b, g, hg⟩ := ho.some_
        exact ⟨σ, W, [.slice (some ⟨b, 0, none⟩) 0 0], ho, .refl _, .refl _, .cons (.sliceE ⟨b, 0, none⟩ a 0 g hg (.inl rfl)) .nil, mk (Nat.le_refl _) (by unfold BIG; omega) (.inr ⟨b, rfl⟩) (.inl rfl)⟩
      · -- each element's cells
        have hall : ∀ i, i < cap → ∃ ci, w.cells? 0 (a.add (i * P.cellsOf e)) (P.cellsOf e) = some ci ∧ ∃ x, DataW.trod enc P w 0 (fun _ => true) true m' e ci = some x := by
          intro i hi
          by_cases hil : i < len
          · have h1 := hle i hil
            rw [List.getElem?_eq_getElem (by omega)] at h1
            obtain ⟨ci, h2, h3⟩ := Option.bind_eq_some_iff.1 h1
            exact ⟨ci, h2, _, h3⟩
          · have h1 := hre (i - len) (by omega)
            rw [List.getElem?_eq_getElem (by omega), show len + (i - len) = i by omega] at h1
            obtain ⟨ci, h2, h3⟩ := Option.bind_eq_some_iff.1 h1
            exact ⟨ci, h2, _, h3⟩
        obtain ⟨c0, hc0', _⟩ := hall 0 (by omega)
        have ea0 : a.add (0 * P.cellsOf e) = a := by simp [Addr.add]
        rw [ea0] at hc0'
        obtain ⟨c, tt, fr, hB, hspot, _, _⟩ := cells?_at hc0' hz
        have hci : ∀ i, i < cap → ∃ x, ((c.toList.drop (a.off + i * P.cellsOf e)).take (P.cellsOf e)).length = P.cellsOf e ∧ DataW.trod enc P w 0 (fun _ => true) true m' e ((c.toList.drop (a.off + i * P.cellsOf e)).take (P.cellsOf e)) = some x := by
          intro i hi
          obtain ⟨ci, h1, x, h2⟩ := hall i hi
          obtain ⟨c2, t2, fr2, hB2, _, hl2, hg2⟩ := cells?_at h1 hz
          have eb : (a.add (i * P.cellsOf e)).block = a.block := by unfold Addr.add; split <;> rfl
          have eo : (a.add (i * P.cellsOf e)).off = a.off + i * P.cellsOf e := by unfold Addr.add; split <;> simp_all
          rw [eb, hB] at hB2
          injection hB2 with hB2
          injection hB2 with hB2
          subst hB2
          rw [eo] at hg2
          have ec : (c.toList.drop (a.off + i * P.cellsOf e)).take (P.cellsOf e) = ci := by
            apply List.ext_getElem?
            intro j
            by_cases hj : j < P.cellsOf e
            · rw [List.getElem?_take, if_pos hj, List.getElem?_drop, Array.getElem?_toList]
              exact hg2 j hj
            · rw [List.getElem?_take, if_neg hj, List.getElem?_eq_none (by omega)]
          rw [ec]
          exact ⟨x, hl2, h2⟩
        obtain ⟨σ1, W1, l, o1, s1, l1, r1, e1, a1⟩ := opens_list (P := P) (w := w) (n := n) (z := P.cellsOf e) (e := e) (LL := (List.range len).map fun i => (c.toList.drop (a.off + i * P.cellsOf e)).take (P.cellsOf e)) (fun ci hm => by
          obtain ⟨i, hi, rfl⟩ := List.mem_map.1 hm
          rw [List.mem_range] at hi
          obtain ⟨x, h1, h2⟩ := hci i (by omega)
          exact ⟨h1, ih hse h2⟩) σ W ho
        rw [flat_row] at r1
        rw [List.length_map, List.length_range] at e1
        obtain ⟨o2, s2⟩ := o1.add (s := a.off) (cs := l.flatten) hB (fun i v hv => by
          obtain ⟨v', hv', hr⟩ := r1.get hv
          refine ⟨v', ?_, hr⟩
          rw [List.getElem?_take] at hv'
          split at hv'
          · rw [List.getElem?_drop, Array.getElem?_toList] at hv'; exact hv'
          · cases hv')
        have lw : Le W1 (W1.add (.ro l.flatten)) := (Le.refl W1).add _
        have ev : (⟨a.block, a.off + 0, none⟩ : Addr) = a := by
          obtain ⟨b, o, s⟩ := a
          simp only at hspot
          subst hspot
          rfl
        have hv : VR (bind1 σ1 W1.next ⟨a.block, a.off, a.off + l.flatten.length⟩) (.slice (some ⟨W1.next, 0, none⟩) len cap) (.slice (some ⟨a.block, a.off + 0, none⟩) len cap) :=
          .slice ⟨W1.next, 0, none⟩ len cap cap ⟨a.block, a.off, a.off + l.flatten.length⟩ bind1_same rfl (.known cap hcap2)
        rw [ev] at hv
        refine ⟨_, _, [.slice (some ⟨W1.next, 0, none⟩) len cap], o2, s1.trans s2, l1.trans lw, .cons hv .nil, mk hlc hcap2 (.inr ⟨W1.next, rfl⟩) (.inr ⟨W1.next, l, rfl, by rw [AW.add_next]; omega, cellsAt_ro (W1.get_add _), e1, fun ci hm => ⟨(a1 ci hm).1, (a1 ci hm).2.mono lw⟩⟩)⟩
    · cases h
end
end Go.Eng
namespace Go.Eng
open Go Go.RowKit Go.ChangeShapes Go.WideShapes
set_option linter.unusedSectionVars false
set_option linter.unusedSimpArgs false
set_option linter.unusedVariables false
variable [PlanTab]
section
variable {P : Program} {W : AW} {α : Type}
theorem DR.int {n : Nat} {t : TypeId} {cs : List Value} {k : IntKind} (h : DR P W (n + 1) t cs) (ht : P.underlying t = some (.int k)) : ∃ m, cs = [.int k m] := by
  unfold DR at h; rw [ht] at h
  obtain ⟨m, h, _⟩ := h
  exact ⟨m, h⟩
theorem DR.str {n : Nat} {t : TypeId} {cs : List Value} (h : DR P W (n + 1) t cs) (ht : P.underlying t = some .string) : ∃ s : ByteArray, cs = [.string s] ∧ s.size < 9223372036854775808 := by
  unfold DR at h; rw [ht] at h; exact h
theorem DR.struct {n : Nat} {t : TypeId} {cs : List Value} {fs : Array Field} (h : DR P W (n + 1) t cs) (ht : P.underlying t = some (.struct fs)) : fldR (DR P W n) (fs.toList.map (·.type)) cs := by
  unfold DR at h; rw [ht] at h; exact h
theorem DR.slice {n : Nat} {t e : TypeId} {cs : List Value} (h : DR P W (n + 1) t cs) (ht : P.underlying t = some (.slice e)) :
    ∃ a len cap, cs = [.slice a len cap] ∧ len ≤ cap ∧ cap < BIG ∧ (len = 0 ∨ ∃ (b : Nat) (l : List (List Value)), a = some ⟨b, 0, none⟩ ∧ b < W.next ∧ cellsAt W b = some l.flatten ∧ l.length = len ∧ ∀ c ∈ l, c.length = P.cellsOf e ∧ DR P W n e c) := by
  unfold DR at h; rw [ht] at h
  obtain ⟨a, len, cap, h1, h2, h3, _, h4⟩ := h
  exact ⟨a, len, cap, h1, h2, h3, h4⟩
theorem DR.sliceA {n : Nat} {t e : TypeId} {cs : List Value} (h : DR P W (n + 1) t cs) (ht : P.underlying t = some (.slice e)) :
    ∃ a len cap, cs = [.slice a len cap] ∧ len ≤ cap ∧ cap < BIG ∧ (a = none ∨ ∃ b, a = some ⟨b, 0, none⟩) ∧ (len = 0 ∨ ∃ (b : Nat) (l : List (List Value)), a = some ⟨b, 0, none⟩ ∧ b < W.next ∧ cellsAt W b = some l.flatten ∧ l.length = len ∧ ∀ c ∈ l, c.length = P.cellsOf e ∧ DR P W n e c) := by
  unfold DR at h; rw [ht] at h; exact h
theorem row_list {z : Nat} {at_ : List Value → Nat → α → Prop} : ∀ {l : List (List Value)}, (∀ c ∈ l, c.length = z ∧ ∃ x : α, ∀ pre post, at_ (pre ++ (c ++ post)) pre.length x) → ∀ pre : List Value,
    ∃ xs : List α, xs.length = l.length ∧ ∀ i (h : i < xs.length), at_ (pre ++ l.flatten) (pre.length + i * z) xs[i]
  | [], _, _ => ⟨[], rfl, fun i h => by simp at h⟩
  | c :: l, hc, pre => by
    obtain ⟨hz, x, hx⟩ := hc c (by simp)
    obtain ⟨xs, h1, h2⟩ := row_list (l := l) (fun d hd => hc d (by simp [hd])) (pre ++ c)
    refine ⟨x :: xs, by simp [h1], fun i h => ?_⟩
    rw [List.flatten_cons]
    match i with
    | 0 => simpa using hx pre l.flatten
    | i + 1 =>
      have := h2 i (by simpa using h)
      rw [List.length_append, hz, List.append_assoc] at this
      rw [List.getElem_cons_succ, Nat.succ_mul, Nat.add_comm (i * z) z, ← Nat.add_assoc]
      exact this
def RowC {α : Type} (W : AW) (z : Nat) (at_ : List Value → Nat → α → Prop) (v : Value) (l : List α) : Prop := Row W z at_ v l ∧ (∃ a c, v = .slice a l.length c ∧ l.length ≤ c ∧ c < BIG ∧ (l ≠ [] → ∃ b o, a = some ⟨b, o, none⟩))
theorem DR.row {n : Nat} {t e : TypeId} {cs : List Value} (h : DR P W (n + 1) t cs) (ht : P.underlying t = some (.slice e)) {at_ : List Value → Nat → α → Prop}
    (hat : ∀ c, c.length = P.cellsOf e → DR P W n e c → ∃ x : α, ∀ pre post, at_ (pre ++ (c ++ post)) pre.length x) : ∃ v l, cs = [v] ∧ RowC W (P.cellsOf e) at_ v l := by
  obtain ⟨a, len, cap, rfl, h1, h2, h3⟩ := h.slice ht
  rcases h3 with rfl | ⟨b, l, rfl, h4, h5, rfl, h6⟩
  · exact ⟨_, [], rfl, ⟨a, cap, rfl, .inl rfl⟩, a, cap, rfl, h1, h2, fun h => absurd rfl h⟩
  · obtain ⟨xs, e1, e2⟩ := row_list (z := P.cellsOf e) (at_ := at_) (l := l) (fun c hc => ⟨(h6 c hc).1, hat c (h6 c hc).1 (h6 c hc).2⟩) []
    refine ⟨_, xs, rfl, ⟨_, cap, by rw [e1], .inr ⟨b, 0, l.flatten, rfl, h4, h5, fun i hi => ?_⟩⟩, _, cap, by rw [e1], by omega, h2, fun _ => ⟨b, 0, rfl⟩⟩
    have := e2 i hi
    simpa using this
theorem DR.ints {n : Nat} {t e : TypeId} {cs : List Value} {k : IntKind} (h : DR P W (n + 2) t cs) (ht : P.underlying t = some (.slice e)) (he : P.underlying e = some (.int k)) (hz : P.cellsOf e = 1) : ∃ v l, cs = [v] ∧ RowC W 1 (intAt k) v l := by
  have := h.row ht (at_ := intAt k) (fun c _ hc => by
    obtain ⟨m, rfl⟩ := hc.int he
    refine ⟨m, fun pre post => ?_⟩
    unfold intAt
    rw [List.getElem?_append_right (by omega)]; simp)
  rwa [hz] at this
theorem fldR.nil {g : TypeId → List Value → Prop} {cs : List Value} (h : fldR g [] cs) : cs = [] := h
theorem fldR.cons {g : TypeId → List Value → Prop} {t : TypeId} {ts : List TypeId} {cs : List Value} (h : fldR g (t :: ts) cs) : ∃ c1 c2, cs = c1 ++ c2 ∧ g t c1 ∧ fldR g ts c2 := h
end
section
variable {H : Type} {enc : TypeId × Value → H} {P : Program} {w w' : World} {base : Nat} {spare : Nat → Bool} {held : Bool}
theorem Quiet.same {p : MemPlace} (hq : Quiet w w') (hp : p.block < w.heap.size) : w.sameAt w' p := by
  cases p with
  | cell b off => exact World.cell?_of_block (a := ⟨b, off, none⟩) (hq.block b hp)
  | map b => exact hq.block b hp
theorem Quiet.trodAll (hq : Quiet w w') : ∀ {ts : List TypeId} {vs : List Value} {ds : List (DataW H)} {ps : List MemPlace}, DataW.TrodAll enc P w base spare held ts vs ds ps → DataW.TrodAll enc P w' base spare held ts vs ds ps
  | [], [], [], _, h => h
  | _ :: _, _ :: _, _ :: _, _, ⟨p, q, ⟨n, h1⟩, h2, e⟩ => ⟨p, q, ⟨n, DataW.trod_carry n _ _ _ h1 (fun x hx => hq.same (DataW.trod_lt n _ _ _ h1 x hx))⟩, hq.trodAll h2, e⟩
theorem post_true {f : Func} {s : ChangeSpec} {args : Array Value} {ds gs : List (DataW H)} {before : List MemPlace} {T : TypeId → Prop} (K : Kids P T) (hz : ∀ t e, T t → P.underlying t = some (.slice e) → 0 < P.cellsOf e) (hT : ∀ t ∈ f.params.toList, T t)
    (hW : DataW.Whole enc P f.params.toList s.vars false w args.toList ds gs before) (hq : Quiet w w') (hv : s.vars = []) (hfn : s.fn H ds = { results := [.lit (.bool true)], args := ds }) {t : TypeId} (hr : f.resultTypes = #[t]) (ht : P.underlying t = some .bool) :
    s.post enc P f false true false false w args (.bool true) w' := by
  have hW' := hW
  obtain ⟨p, q, hA, hV, rfl, _, _⟩ := hW
  rw [hv] at hV
  obtain ⟨rfl, rfl⟩ := trodVars_none hV
  have hlt := hA.lt
  refine ⟨ds, [], p ++ [], [], p, [], hW', ?_, ?_, ?_, hq.grown.frame _, fun h => by cases h⟩
  · rw [hr, List.append_nil, hfn]
    exact trodAll_cons_mk (shut_bool ht _) trodAll_mk0
  · rw [List.append_nil, hfn]
    exact hq.trodAll (hA.respare K hz hT (fun x hx => by simpa using hlt x hx))
  · rw [hv, List.append_nil, hfn]
    exact rfl
end
end Go.Eng
namespace Go.Eng
open Go Go.RowKit
set_option linter.unusedSectionVars false
set_option linter.unusedSimpArgs false
set_option linter.unusedVariables false
variable [PlanTab]
noncomputable def quietC (F : Nat) (val : List Value → AW → Option Value) : Callee := fun f args W => match f with
  | .func (.func g) fs cs => (match Nat.beq g F && (fs.isEmpty && cs.isEmpty) with
    | true => (match val args W with
      | some v => some (v, W)
      | none => none)
    | false => none)
  | _ => none
theorem quietC_ok {P : Program} {ng : List Nat} {F : Nat} {fn : Func} {body : Code} (hfn : P.funcs[F]? = some fn) (hname : (fn.name == "runtime.NumGoroutine") = false) (hb : fn.body = some body) {val : List Value → AW → Option Value}
    (hall : ∀ args W v, val args W = some v → plain v = true ∧ ∀ σ (w : World) args', WRel σ W w.heap → LR σ args args' → Calls P F args'.toArray w fun e w' => e = .returned v ∧ Quiet w w') : CalleeOK P ng (quietC F val) := by
  intro f args W v W' h σ w f' args' hW hG hf hargs
  unfold quietC at h
  split at h
  case h_2 => cases h
  rename_i g fs cs
  split at h
  case h_2 => cases h
  rename_i hgf
  simp only [Bool.and_eq_true, Nat.beq_eq, Array.isEmpty_iff] at hgf
  obtain ⟨rfl, rfl, rfl⟩ := hgf
  split at h
  case h_2 => cases h
  rename_i u hu
  injection h with h
  injection h with h1 h2
  subst h1; subst h2
  obtain ⟨fn', fs', cs', hfr, hfs, hcs, rfl⟩ := hf.func_inv
  cases hfr
  obtain rfl : fs' = #[] := by
    have h1 : fs'.toList.length = 0 := hfs.1.symm
    exact Array.toList_eq_nil_iff.1 (List.length_eq_zero_iff.1 h1)
  obtain rfl : cs' = #[] := by
    have h1 : cs'.toList.length = 0 := hcs.1.symm
    exact Array.toList_eq_nil_iff.1 (List.length_eq_zero_iff.1 h1)
  obtain ⟨hpl, hc⟩ := hall _ _ _ hu
  refine ⟨run_callFunc_enter' hfn hname hb _ w, ?_⟩
  have e1 : (#[] : Array Value) ++ args'.toArray ++ #[] = args'.toArray := by simp
  rw [e1]
  refine CallsIn.mono (show CallsIn Fence.wide 0 P g _ w _ from (callsIn_wide (n := 0)).2 (hc σ w args' hW hargs)) ?_
  rintro e w' ⟨rfl, hq⟩
  exact ⟨_, rfl, σ, plain_refl hpl, hq.rel hW, hq.ext σ W⟩
theorem quiet_below {w w' : World} (h : Below w.heap.size w w') : Quiet w w' := ⟨h.os, h.tape, h.output, h.size, h.block⟩
noncomputable def strOf (v : Value) : Option ByteArray := match v with
  | .string s => some s
  | _ => none
noncomputable def strsOf : List Value → Option (List ByteArray) := List.rec (motive := fun _ => Option (List ByteArray)) (some []) (fun v _ ih => match strOf v with
  | some b => ih.map (fun l => b :: l)
  | none => none)
theorem strsOf_get : ∀ {cs : List Value} {l : List ByteArray}, strsOf cs = some l → cs = l.map Value.string
  | [], l, h => by injection h with h; subst h; rfl
  | v :: cs, l, h => by
    have h' : (match strOf v with
      | some b => (strsOf cs).map (fun l => b :: l)
      | none => none) = some l := h
    cases hv : strOf v with
    | none => rw [hv] at h'; cases h'
    | some b0 =>
      rw [hv] at h'
      cases hb : strsOf cs with
      | none => rw [hb] at h'; cases h'
      | some l0 =>
        rw [hb] at h'
        injection h' with h'
        subst h'
        rw [strsOf_get hb]
        cases v <;> first | (injection hv with hv; subst hv; rfl) | cases hv
def joinB (xs : List ByteArray) (sep : ByteArray) : List UInt8 := Lib.join (xs.map (·.data.toList)) sep.data.toList
noncomputable def joinVal (args : List Value) (W : AW) : Option Value := match args with
  | [.slice (some a) n c, .string sep] => (match readSlice W (.slice (some a) n c) n with
    | some cs => (match strsOf cs with
      | some xs => if 0 < n ∧ n ≤ 1099511627776 ∧ n ≤ c ∧ (joinB xs sep).length ≤ 1099511627776 then some (.string ⟨(joinB xs sep).toArray⟩) else none
      | none => none)
    | none => none)
  | _ => none
theorem joinVal_eq {args : List Value} {W : AW} {v : Value} (h : joinVal args W = some v) : ∃ a n c sep xs, args = [.slice (some a) n c, .string sep] ∧ readSlice W (.slice (some a) n c) n = some (xs.map Value.string) ∧ 0 < n ∧ n ≤ 1099511627776 ∧ n ≤ c ∧ (joinB xs sep).length ≤ 1099511627776 ∧ v = .string ⟨(joinB xs sep).toArray⟩ := by
  unfold joinVal at h
  split at h
  case h_2 => cases h
  rename_i a n c sep
  split at h
  case h_2 => cases h
  rename_i cs hcs
  split at h
  case h_2 => cases h
  rename_i xs hxs
  split at h
  case isFalse => cases h
  rename_i hc
  injection h with h
  have := strsOf_get hxs
  subst this
  exact ⟨a, n, c, sep, xs, rfl, hcs, hc.1, hc.2.1, hc.2.2.1, hc.2.2.2, h.symm⟩
theorem joinVal_ok {P : Program} {F : Nat} (hJ : ∀ (bk o c : Nat) (xs : List ByteArray) (sep : ByteArray) (w : World), (∀ (j : Nat) x, xs[j]? = some x → w.cell? ⟨bk, o + j, none⟩ = some (.string x)) → bk < w.heap.size → xs.length ≤ 140737488355328 → xs.length ≤ c →
      (Lib.join (xs.map (·.data.toList)) sep.data.toList).length ≤ 140737488355328 →
      Calls P F #[.slice (some ⟨bk, o, none⟩) xs.length c, .string sep] w fun e w' => e = .returned (.string ⟨(Lib.join (xs.map (·.data.toList)) sep.data.toList).toArray⟩) ∧ Below w.heap.size w w')
    {args : List Value} {W : AW} {v : Value} (h : joinVal args W = some v) : plain v = true ∧ ∀ σ (w : World) args', WRel σ W w.heap → LR σ args args' → Calls P F args'.toArray w fun e w' => e = .returned v ∧ Quiet w w' := by
  obtain ⟨a, n, c, sep, xs, rfl, hr, h0, hn, hnc, hl, rfl⟩ := joinVal_eq h
  refine ⟨rfl, fun σ w args' hW hargs => ?_⟩
  obtain ⟨v', l', rfl, hv, hl1⟩ := hargs.of_cons
  obtain ⟨s', l'', rfl, hs, hl2⟩ := hl1.of_cons
  obtain rfl := hl2.of_nil
  have hs' : s' = .string sep := VR.string_inv hs
  subst hs'
  cases hv with
  | sliceE => omega
  | slice _ _ _ c' g hg hsp hc =>
    have hc2 : n ≤ c' := by rcases hc.inv with ⟨_, h2⟩ | ⟨_, _, _, h2, _⟩ <;> omega
    obtain ⟨a', c2, cs', e, h1, h2, h3⟩ := readSlice_cells (z := 1) hW (by rw [Nat.mul_one]; exact hr) (.slice a n c c' g hg hsp hc) (by omega)
    injection e with e1 e2 e3
    injection e1 with e1
    subst e1; subst e3
    rw [Nat.mul_one, List.length_map] at h2
    have hB := (hW.dom _ _ hg).2
    have := hJ g.B (g.s + a.off) c' xs sep w (fun j x hj => by
      obtain ⟨u, u1, u2⟩ := h1.get (show (xs.map Value.string)[j]? = some (.string x) by rw [List.getElem?_map, hj]; rfl)
      have h4 := h3 j u u1
      rw [addr_add] at h4
      cases u2
      exact h4) hB (by omega) (by omega) (by unfold joinB at hl; omega)
    rw [h2] at this
    exact this.mono fun e w' ⟨he, hb⟩ => ⟨he, quiet_below hb⟩
noncomputable def copyC (F : Nat) (T : TypeId) : Callee := fun f args W => match f with
  | .func (.func g) fs cs => (match Nat.beq g F && (fs.isEmpty && cs.isEmpty) with
    | true => (match args with
      | [.pointer (some ⟨b, 0, none⟩)] => (match W.get b with
        | some (.tc t [p, s]) => if t = T then (match p with
          | .pointer none => some (.tuple #[], W.put b (.tc T [.pointer (some ⟨b, 0, none⟩), s]))
          | .pointer (some ⟨b2, 0, none⟩) => if b2 = b then some (.tuple #[], W) else none
          | _ => none) else none
        | _ => none)
      | _ => none)
    | false => none)
  | _ => none
theorem copyC_ok {P : Program} {ng : List Nat} {F : Nat} {T : TypeId} {fn : Func} {body : Code} (hfn : P.funcs[F]? = some fn) (hname : (fn.name == "runtime.NumGoroutine") = false) (hb : fn.body = some body) (hex : PlanTab.ex T = true)
    (hused : ∀ (b : Nat) (w : World), w.cell? ⟨b, 0, none⟩ = some (.pointer (some ⟨b, 0, none⟩)) → Calls P F #[.pointer (some ⟨b, 0, none⟩)] w fun e w' => e = .returned (.tuple #[]) ∧ w' = w)
    (hfresh : ∀ (b : Nat) (w : World), w.cell? ⟨b, 0, none⟩ = some (.pointer none) → w.shape? b = some (T, 2) → w.frozen? ⟨b, 0, none⟩ = false → Calls P F #[.pointer (some ⟨b, 0, none⟩)] w fun e w' => e = .returned (.tuple #[]) ∧ w' = w.setCell ⟨b, 0, none⟩ (.pointer (some ⟨b, 0, none⟩))) :
    CalleeOK P ng (copyC F T) := by
  intro f args W v W' h σ w f' args' hW hG hf hargs
  unfold copyC at h
  split at h
  case h_2 => cases h
  rename_i g fs cs
  split at h
  case h_2 => cases h
  rename_i hgf
  simp only [Bool.and_eq_true, Nat.beq_eq, Array.isEmpty_iff] at hgf
  obtain ⟨rfl, rfl, rfl⟩ := hgf
  split at h
  case h_2 => cases h
  rename_i b
  split at h
  case h_2 => cases h
  rename_i t p s hget
  split at h
  case isFalse => cases h
  rename_i hT
  subst hT
  obtain ⟨fn', fs', cs', hfr, hfs, hcs, rfl⟩ := hf.func_inv
  cases hfr
  obtain rfl : fs' = #[] := by
    have h1 : fs'.toList.length = 0 := hfs.1.symm
    exact Array.toList_eq_nil_iff.1 (List.length_eq_zero_iff.1 h1)
  obtain rfl : cs' = #[] := by
    have h1 : cs'.toList.length = 0 := hcs.1.symm
    exact Array.toList_eq_nil_iff.1 (List.length_eq_zero_iff.1 h1)
  obtain ⟨x', l', rfl, hx, hl⟩ := hargs.of_cons
  obtain rfl := hl.of_nil
  obtain ⟨gs, hgs, _, rfl⟩ := hx.ptr_inv
  refine ⟨run_callFunc_enter' hfn hname hb _ w, ?_⟩
  have e1 : (#[] : Array Value) ++ [Value.pointer (some ⟨gs.B, gs.s + 0, none⟩)].toArray ++ #[] = #[.pointer (some ⟨gs.B, gs.s + 0, none⟩)] := by simp
  rw [e1]
  obtain ⟨a1, a2, a3, c, q1, q2, q3, q4⟩ := hW.obj b _ gs hget hgs
  have a4 := a3.2 hex
  simp only [List.length_cons, List.length_nil] at a4
  rw [a1]
  obtain ⟨p', hp1, hp2⟩ := q4 0 p rfl
  obtain ⟨s', hs1, hs2⟩ := q4 1 s rfl
  have hsz : c.size = 2 := by omega
  split at h
  · injection h with h
    injection h with h1 h2
    subst h1; subst h2
    obtain rfl : p' = .pointer none := by cases hp2; rfl
    refine CallsIn.mono (show CallsIn Fence.wide 0 P g _ w _ from (callsIn_wide (n := 0)).2 (hfresh gs.B w (by simp [World.cell?, q1, hp1]) (by simp [World.shape?, q1, hsz]) (ORel.cold (hW.obj b _ gs hget hgs) (fun _ hx => by cases hx) (by omega) rfl))) ?_
    rintro e w' ⟨rfl, rfl⟩
    have hat : (w.setCell ⟨gs.B, 0, none⟩ (.pointer (some ⟨gs.B, 0, none⟩))).heap[gs.B]? = some (.cells (c.setIfInBounds 0 (.pointer (some ⟨gs.B, 0, none⟩))) t (0, 0)) := by
      show (w.heap.modify gs.B _)[gs.B]? = _
      rw [Array.getElem?_modify, if_pos rfl, q1]
      rfl
    obtain ⟨r1, r2⟩ := hW.writeT (w' := w.setCell ⟨gs.B, 0, none⟩ (.pointer (some ⟨gs.B, 0, none⟩))) (cs' := [.pointer (some ⟨b, 0, none⟩), s]) hget hgs (by show (w.heap.modify _ _).size = _; simp) rfl rfl rfl
      (fun B hB => by show (w.heap.modify gs.B _)[B]? = _; rw [Array.getElem?_modify, if_neg (Ne.symm hB)]) q1 hat (by simp) rfl (fun i v hv => by
        match i, hv with
        | 0, hv =>
          simp only [List.getElem?_cons_zero, Option.some.injEq] at hv
          subst hv
          refine ⟨.pointer (some ⟨gs.B, gs.s + 0, none⟩), ?_, .ptr ⟨b, 0, none⟩ gs hgs rfl⟩
          rw [a1]
          simp only [Array.getElem?_setIfInBounds, Nat.add_zero, if_true]
          rw [if_pos (by omega)]
        | 1, hv =>
          simp only [List.getElem?_cons_succ, List.getElem?_cons_zero, Option.some.injEq] at hv
          subst hv
          exact ⟨s', by rw [Array.getElem?_setIfInBounds_ne (by omega)]; exact hs1, hs2⟩
        | i + 2, hv => simp at hv)
    exact ⟨_, rfl, σ, .undef, r1, r2⟩
  · rename_i b2
    split at h
    case isFalse => cases h
    rename_i hbb
    subst hbb
    injection h with h
    injection h with h1 h2
    subst h1; subst h2
    obtain ⟨g2, hg2, _, rfl⟩ := hp2.ptr_inv
    rw [hgs] at hg2
    injection hg2 with hg2
    subst hg2
    rw [a1] at hp1
    refine CallsIn.mono (show CallsIn Fence.wide 0 P g _ w _ from (callsIn_wide (n := 0)).2 (hused gs.B w (by simpa [World.cell?, q1] using hp1))) ?_
    rintro e w' ⟨rfl, rfl⟩
    exact ⟨_, rfl, σ, .undef, hW, Ext.refl _ _ _⟩
  · cases h
end Go.Eng
