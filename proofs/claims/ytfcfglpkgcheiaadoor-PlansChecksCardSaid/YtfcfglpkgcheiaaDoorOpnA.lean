/- Code told in continuations, its operations told by values. -/
import Derived.Test.YtfcfglpkgcheiaaDoorEngT
namespace Go.Eng
open Go
set_option linter.unusedSectionVars false
set_option linter.unusedSimpArgs false
set_option linter.unusedVariables false
variable [PlanTab]

/-! ### operations by values -/
noncomputable def pureS (P : Program) (ok : Bool) (s : Sem Next) : Option Value :=
  if ok then match nextVal (pureRun P s) with
    | some v => if plain v then some v else none
    | none => none
  else none
noncomputable def oMv (v : Value) (W : AW) : Option (Value × AW) := some (v, W)
noncomputable def oPick (c a b : Value) (W : AW) : Option (Value × AW) := match c with
  | .bool true => some (a, W)
  | .bool false => some (b, W)
  | _ => none
noncomputable def oAlloc (P : Program) (t : TypeId) (W : AW) : Option (Value × AW) := match tZero P t with
  | some z => some (.pointer (some ⟨W.next, 0, none⟩), W.add (.cells z.cells.toList))
  | none => none
noncomputable def oBox (x : Value) (W : AW) : Option (Value × AW) := some (.pointer (some ⟨W.next, 0, none⟩), W.add (.cells x.cells.toList))
noncomputable def buildV (P : Program) (t : TypeId) (vs : List (Nat × Value)) : Option Value :=
  match tZero P t, P.underlying t with
  | some z, some (.struct fs) => match placesOf P fs.toList with
    | some pl => (fillQ (pl.toArray[·]?) z.cells vs).map .agg
    | none => none
  | some z, some (.array _ e) => match tSz P e with
    | some n => (fillQ (fun i => some (i * n, n)) z.cells vs).map .agg
    | none => none
  | _, _ => none
noncomputable def oBuild (P : Program) (t : TypeId) (vs : List (Nat × Value)) (W : AW) : Option (Value × AW) := (buildV P t vs).map fun v => (v, W)
noncomputable def oBuildSlice (P : Program) (t : TypeId) (len : Nat) (vs : List (Nat × Value)) (W : AW) : Option (Value × AW) :=
  match P.underlying t with
  | some (.slice e) => match tSz P e, tZero P e with
    | some n, some z =>
      if len * n ≤ 16777216 ∧ len < BIG ∧ (Nat.beq z.cells.size n && z.cells.toList.all scalar) = true then
        match fillQ (fun i => some (i * n, n)) (rowL z.cells.toList len).toArray vs with
        | some c => some (Value.slice (some ⟨W.next, 0, none⟩) len len, W.add (.cells c.toList))
        | none => none
      else none
    | _, _ => none
  | _ => none
noncomputable def oLoad (P : Program) (t : TypeId) (a : Value) (W : AW) : Option (Value × AW) := (aLoad P W t a).map fun v => (v, W)
noncomputable def oStore (P : Program) (t : TypeId) (a x : Value) (W : AW) : Option (Value × AW) := (aStore P W t a x).map fun W' => (undef, W')
noncomputable def oNilCheck (x : Value) (W : AW) : Option (Value × AW) := match x with
  | .pointer (some a) => some (.pointer (some a), W)
  | .func (.func f) a b => some (.func (.func f) a b, W)
  | .func (.yield l) a b => some (.func (.yield l) a b, W)
  | .iface t v => some (.iface t v, W)
  | _ => none
def opd : Bool → Operand
  | true => .const undef
  | false => .tmp 0
noncomputable def isConst : Operand → Bool := Operand.rec (fun _ => false) (fun _ => true) (fun _ => false) (fun _ => false)
theorem eqGuard_const (op : BinOp) (t : TypeId) (x y : Operand) (a b : Value) : eqGuard op t x y a b = eqGuard op t (opd (isConst x)) (opd (isConst y)) a b := by
  cases x <;> cases y <;> rfl
/-- a, b: are the operands constants? -/
noncomputable def oBin (P : Program) (op : BinOp) (t : TypeId) (a b : Bool) (vx vy : Value) (W : AW) : Option (Value × AW) :=
  match aBin P W op t vx vy with
  | some v => some (v, W)
  | none => (pureS P (plain vx && (plain vy && true)) (do pure (.value (← (do eqGuard op t (opd a) (opd b) vx vy; binOp op t vx vy))))).map fun v => (v, W)
noncomputable def oUn (P : Program) (op : UnOp) (x : Value) (W : AW) : Option (Value × AW) :=
  (pureS P (plain x && true) (do pure (.value (← Op.unary op x)))).map fun v => (v, W)
noncomputable def oConv (P : Program) (s d : TypeId) (x : Value) (W : AW) : Option (Value × AW) :=
  (pureS P (plain x && true) (do pure (.value (← convert s d x)))).map fun v => (v, W)
noncomputable def oMkIface (P : Program) (t : TypeId) (x : Value) (W : AW) : Option (Value × AW) := match P.underlying t with
  | some (.interface _) => none
  | some _ => some (.iface t x, W)
  | none => none
noncomputable def oMkFunc (fn : Fn) (first captured : Array Value) (W : AW) : Option (Value × AW) := match fn with
  | .func f => some (.func (.func f) first captured, W)
  | _ => none
noncomputable def oMkMap (P : Program) (t : TypeId) (r : Option Value) (W : AW) : Option (Value × AW) := match r with
  | none => some (Value.map (some W.next), W.add (.map [] 0))
  | some h => match P.underlying t, h with
    | some (.map _ _), .int _ _ => some (Value.map (some W.next), W.add (.map [] 0))
    | _, _ => none
noncomputable def oMkSlice (P : Program) (t : TypeId) (l c : Value) (W : AW) : Option (Value × AW) :=
  match P.underlying t with
  | some (.slice e) => match tSz P e, tZero P e, (P.info? e).map (·.bytes), l, c with
    | some n, some z, some bytes, .int _ (.ofNat l), .int _ (.ofNat c) =>
      if l ≤ c ∧ c < 9223372036854775808 ∧ c * bytes ≤ 281474976710656 ∧ (rowOf z (c * n)).toList.all scalar = true then
        some (Value.slice (some ⟨W.next, 0, none⟩) l c, W.add (.cells (rowOf z (c * n)).toList))
      else none
    | _, _, _, _, _ => none
  | _ => none
noncomputable def oSlice (P : Program) (t : TypeId) (x : Value) (lo hi mx : Option Value) (W : AW) : Option (Value × AW) :=
  match aSlice P t x lo hi mx with
  | some v => some (v, W)
  | none => (pureS P ((x :: (lo.toList ++ (hi.toList ++ mx.toList))).all plain) (do pure (.value (← Instr.sliceAt t x lo hi mx)))).map fun v => (v, W)
noncomputable def oFieldAddr (P : Program) (s : TypeId) (x : Value) (f : Nat) (W : AW) : Option (Value × AW) := match P.underlying s, x with
  | some (.struct fs), .pointer (some a) => match fs[f]? with
    | some fl => match tSz P fl.type with
      | some (_ + 1) => some (.pointer (some (a.add fl.offset)), W)
      | _ => none
    | none => none
  | _, _ => none
noncomputable def oField (P : Program) (t : TypeId) (x : Value) (f : Nat) (W : AW) : Option (Value × AW) := match P.underlying t, x with
  | some (.struct fs), .agg cs => match fs[f]? with
    | some fl => (aPart P fl.type cs fl.offset).map fun v => (v, W)
    | none => none
  | _, _ => none
noncomputable def oIndexAddr (P : Program) (t : TypeId) (x i : Value) (W : AW) : Option (Value × AW) := match P.underlying t, x, natOf i with
  | some (.slice e), .slice (some a) len _, some n => match tSz P e with
    | some z => if n < len then some (.pointer (some (a.add (n * z))), W) else none
    | none => none
  | some (.array len e), .pointer (some a), some n => match tSz P e with
    | some z => if n < len then some (.pointer (some (a.add (n * z))), W) else none
    | none => none
  | _, _, _ => none
noncomputable def oIndex (P : Program) (t : TypeId) (x i : Value) (W : AW) : Option (Value × AW) := match P.underlying t, x, natOf i with
  | some (.array len e), .agg cs, some n => match tSz P e with
    | some z => if n < len then (aPart P e cs (n * z)).map fun v => (v, W) else none
    | none => none
  | _, _, _ => (pureS P (plain x && (plain i && true)) (do pure (.value (← Instr.index t x i)))).map fun v => (v, W)
noncomputable def oLookup (P : Program) (t : TypeId) (m k : Value) (ok : Bool) (W : AW) : Option (Value × AW) := (aLookup P W t m k ok).map fun v => (v, W)
noncomputable def oMapUpdate (P : Program) (t : TypeId) (m k v : Value) (W : AW) : Option (Value × AW) := (aMapUpdate P W t m k v).map fun W' => (undef, W')
noncomputable def oExtract (x : Value) (i : Nat) (W : AW) : Option (Value × AW) := match x with
  | .tuple vs => (vs[i]?).map fun v => (v, W)
  | _ => none
noncomputable def oAssert (P : Program) (x : Value) (t : TypeId) (ok : Bool) (W : AW) : Option (Value × AW) := match P.underlying t, x with
  | some (.interface _), _ => none
  | some _, .iface u v => if u = t then some (if ok then .tuple #[v, .bool true] else v, W) else none
  | _, _ => none
noncomputable def oRangeStr (P : Program) (t : TypeId) (x : Value) (W : AW) : Option (Value × AW) := match P.underlying t, x with
  | some .string, .string s => some (Value.pointer (some ⟨W.next, 0, none⟩), W.add (.siter s 0))
  | _, _ => none
noncomputable def oNextStr (it : Value) (W : AW) : Option (Value × AW) := match it with
  | .pointer (some ⟨b, 0, _⟩) => match W.get b with
    | some (.siter s pos) => if pos < s.size then some (.tuple #[.bool true, goInt pos, .int .i32 (Utf8.decode s pos).1], W.put b (.siter s (pos + (Utf8.decode s pos).2))) else some (.tuple #[.bool false], W)
    | _ => none
  | _ => none
noncomputable def oBuiltin (P : Program) (b : Builtin) (ts : Array TypeId) (ty : TypeId) (cf : Array Bool) (args : List Value) (W : AW) : Option (Value × AW) :=
  match b, args with
  | .len, [.slice _ n _] => match (ts[0]?).bind P.underlying with
    | some (.slice _) => some (goInt n, W)
    | _ => none
  | .len, [.map none] => match (ts[0]?).bind P.underlying with
    | some (.map _ _) => some (goInt 0, W)
    | _ => none
  | .len, [.map (some r)] => match (ts[0]?).bind P.underlying, W.get r with
    | some (.map _ _), some (.map es _) => some (goInt es.length, W)
    | _, _ => none
  | .append, [s, x] => aAppend P W ts s x
  | .copy, [d, x] => aCopy P W ts d x
  | .clear, [x] => (aClear P W ts x).map fun W' => (.tuple #[], W')
  | .delete, [m, k] => (aDelete P W ts m k).map fun W' => (.tuple #[], W')
  | _, _ => (pureS P (args.all plain) (builtin b ts ty cf args.toArray)).map fun v => (v, W)
noncomputable def oInvoke (P : Program) (call : Callee) (r : Value) (name : String) (args : List Value) (W : AW) : Option (Value × AW) := match r with
  | .iface t v => match methodOf P t name with
    | some f => call (.func (.func f) #[] #[]) (v :: args) W
    | none => none
  | _ => none

/-! ### the operations of a text -/
noncomputable def kMove (x : Operand) (P : Program) (call : Callee) (o : Oper) (R : PlanTab.Fr) (W : AW) : Option (Value × AW) := oMv (aEval R x) W
noncomputable def kPick (c a b : Operand) (P : Program) (call : Callee) (o : Oper) (R : PlanTab.Fr) (W : AW) : Option (Value × AW) := oPick (aEval R c) (aEval R a) (aEval R b) W
noncomputable def kAlloc (t : TypeId) (P : Program) (call : Callee) (o : Oper) (R : PlanTab.Fr) (W : AW) : Option (Value × AW) := oAlloc P t W
noncomputable def kBox (t : TypeId) (x : Operand) (P : Program) (call : Callee) (o : Oper) (R : PlanTab.Fr) (W : AW) : Option (Value × AW) := oBox (aEval R x) W
noncomputable def kBuild (t : TypeId) (ps : Array (Nat × Operand)) (P : Program) (call : Callee) (o : Oper) (R : PlanTab.Fr) (W : AW) : Option (Value × AW) := oBuild P t (parts R ps) W
noncomputable def kBuildSlice (t : TypeId) (n : Nat) (ps : Array (Nat × Operand)) (P : Program) (call : Callee) (o : Oper) (R : PlanTab.Fr) (W : AW) : Option (Value × AW) := oBuildSlice P t n (parts R ps) W
noncomputable def kInsert (_t : TypeId) (_m _k _v : Operand) (P : Program) (call : Callee) (o : Oper) (R : PlanTab.Fr) (W : AW) : Option (Value × AW) := none
noncomputable def kLoad (t : TypeId) (a : Operand) (P : Program) (call : Callee) (o : Oper) (R : PlanTab.Fr) (W : AW) : Option (Value × AW) := oLoad P t (aEval R a) W
noncomputable def kStore (t : TypeId) (a x : Operand) (P : Program) (call : Callee) (o : Oper) (R : PlanTab.Fr) (W : AW) : Option (Value × AW) := oStore P t (aEval R a) (aEval R x) W
noncomputable def kNat (_g : Nat) (P : Program) (call : Callee) (o : Oper) (R : PlanTab.Fr) (W : AW) : Option (Value × AW) := none
noncomputable def kNilCheck (x : Operand) (P : Program) (call : Callee) (o : Oper) (R : PlanTab.Fr) (W : AW) : Option (Value × AW) := oNilCheck (aEval R x) W
noncomputable def kBinOp (op : BinOp) (t : TypeId) (x y : Operand) (yt : TypeId) (P : Program) (call : Callee) (o : Oper) (R : PlanTab.Fr) (W : AW) : Option (Value × AW) := oBin P op t (isConst x) (isConst y) (aEval R x) (aEval R y) W
noncomputable def kUnOp (op : UnOp) (t : TypeId) (x : Operand) (P : Program) (call : Callee) (o : Oper) (R : PlanTab.Fr) (W : AW) : Option (Value × AW) := oUn P op (aEval R x) W
noncomputable def kConvert (s d : TypeId) (x : Operand) (P : Program) (call : Callee) (o : Oper) (R : PlanTab.Fr) (W : AW) : Option (Value × AW) := oConv P s d (aEval R x) W
noncomputable def kTO (_d : TypeId) (_x : Operand) (P : Program) (call : Callee) (o : Oper) (R : PlanTab.Fr) (W : AW) : Option (Value × AW) := none
noncomputable def kMakeInterface (t : TypeId) (x : Operand) (P : Program) (call : Callee) (o : Oper) (R : PlanTab.Fr) (W : AW) : Option (Value × AW) := oMkIface P t (aEval R x) W
noncomputable def kMakeFunc (fn : Fn) (first captured : Array Operand) (P : Program) (call : Callee) (o : Oper) (R : PlanTab.Fr) (W : AW) : Option (Value × AW) := oMkFunc fn (first.map (aEval R)) (captured.map (aEval R)) W
noncomputable def kMakeMap (t : TypeId) (r : Option Operand) (P : Program) (call : Callee) (o : Oper) (R : PlanTab.Fr) (W : AW) : Option (Value × AW) := oMkMap P t (r.map (aEval R)) W
noncomputable def kMakeSlice (t : TypeId) (l c : Operand) (P : Program) (call : Callee) (o : Oper) (R : PlanTab.Fr) (W : AW) : Option (Value × AW) := oMkSlice P t (aEval R l) (aEval R c) W
noncomputable def kSlice (t : TypeId) (x : Operand) (lo hi mx : Option Operand) (P : Program) (call : Callee) (o : Oper) (R : PlanTab.Fr) (W : AW) : Option (Value × AW) := oSlice P t (aEval R x) (lo.map (aEval R)) (hi.map (aEval R)) (mx.map (aEval R)) W
noncomputable def kFieldAddr (s : TypeId) (x : Operand) (f : Nat) (P : Program) (call : Callee) (o : Oper) (R : PlanTab.Fr) (W : AW) : Option (Value × AW) := oFieldAddr P s (aEval R x) f W
noncomputable def kField (t : TypeId) (x : Operand) (f : Nat) (P : Program) (call : Callee) (o : Oper) (R : PlanTab.Fr) (W : AW) : Option (Value × AW) := oField P t (aEval R x) f W
noncomputable def kIndexAddr (t : TypeId) (x i : Operand) (P : Program) (call : Callee) (o : Oper) (R : PlanTab.Fr) (W : AW) : Option (Value × AW) := oIndexAddr P t (aEval R x) (aEval R i) W
noncomputable def kIndex (t : TypeId) (x i : Operand) (P : Program) (call : Callee) (o : Oper) (R : PlanTab.Fr) (W : AW) : Option (Value × AW) := oIndex P t (aEval R x) (aEval R i) W
noncomputable def kLookup (t : TypeId) (m k : Operand) (ok : Bool) (P : Program) (call : Callee) (o : Oper) (R : PlanTab.Fr) (W : AW) : Option (Value × AW) := oLookup P t (aEval R m) (aEval R k) ok W
noncomputable def kMapUpdate (t : TypeId) (m k v : Operand) (P : Program) (call : Callee) (o : Oper) (R : PlanTab.Fr) (W : AW) : Option (Value × AW) := oMapUpdate P t (aEval R m) (aEval R k) (aEval R v) W
noncomputable def kTOO (_t : TypeId) (_m _k : Operand) (P : Program) (call : Callee) (o : Oper) (R : PlanTab.Fr) (W : AW) : Option (Value × AW) := none
noncomputable def kTOOO (_t : TypeId) (_m _s _v : Operand) (P : Program) (call : Callee) (o : Oper) (R : PlanTab.Fr) (W : AW) : Option (Value × AW) := none
noncomputable def kRange (t : TypeId) (x : Operand) (P : Program) (call : Callee) (o : Oper) (R : PlanTab.Fr) (W : AW) : Option (Value × AW) := oRangeStr P t (aEval R x) W
noncomputable def kNext (it : Operand) (s : Bool) (P : Program) (call : Callee) (o : Oper) (R : PlanTab.Fr) (W : AW) : Option (Value × AW) := match s with
  | true => oNextStr (aEval R it) W
  | false => none
noncomputable def kO (_it : Operand) (P : Program) (call : Callee) (o : Oper) (R : PlanTab.Fr) (W : AW) : Option (Value × AW) := none
noncomputable def kTypeAssert (x : Operand) (_t a : TypeId) (ok : Bool) (P : Program) (call : Callee) (o : Oper) (R : PlanTab.Fr) (W : AW) : Option (Value × AW) := oAssert P (aEval R x) a ok W
noncomputable def kExtract (x : Operand) (i : Nat) (P : Program) (call : Callee) (o : Oper) (R : PlanTab.Fr) (W : AW) : Option (Value × AW) := oExtract (aEval R x) i W
noncomputable def kCall (c : Call) (P : Program) (call : Callee) (o : Oper) (R : PlanTab.Fr) (W : AW) : Option (Value × AW) :=
  match c.callee with
  | .builtin b => oBuiltin P b c.argTypes o.type (c.args.map isConst) (c.args.toList.map (aEval R)) W
  | .value f => call (aEval R f) (c.args.toList.map (aEval R)) W
  | .invoke r name => oInvoke P call (aEval R r) name (c.args.toList.map (aEval R)) W
noncomputable def kC (_c : Call) (P : Program) (call : Callee) (o : Oper) (R : PlanTab.Fr) (W : AW) : Option (Value × AW) := none
noncomputable def kOO (_c _x : Operand) (P : Program) (call : Callee) (o : Oper) (R : PlanTab.Fr) (W : AW) : Option (Value × AW) := none
noncomputable def kRecv (_t : TypeId) (_c : Operand) (_ok : Bool) (P : Program) (call : Callee) (o : Oper) (R : PlanTab.Fr) (W : AW) : Option (Value × AW) := none
noncomputable def kSelect (_cs : Array SelectCase) (_bl : Bool) (P : Program) (call : Callee) (o : Oper) (R : PlanTab.Fr) (W : AW) : Option (Value × AW) := none
noncomputable def kOpF : Op → Program → Callee → Oper → PlanTab.Fr → AW → Option (Value × AW) :=
  Op.rec (motive := fun _ => Program → Callee → Oper → PlanTab.Fr → AW → Option (Value × AW)) kMove kMove kPick kAlloc kBox kBuild kBuildSlice kInsert kLoad kStore kNat kNat kNilCheck kBinOp kUnOp kConvert kTO kMakeInterface kMakeFunc kMakeMap kTO kMakeSlice kSlice kFieldAddr kField kIndexAddr kIndex kLookup kMapUpdate kTOO kTOOO kRange kNext kO kTypeAssert kExtract kCall kC kC kO kOO kRecv kSelect
noncomputable def kOp (P : Program) (call : Callee) (o : Oper) (R : PlanTab.Fr) (W : AW) : Option (Value × AW) := kOpF o.op P call o R W

theorem aPure_S {P : Program} {R : PlanTab.Fr} {o : Oper} (hs : notSelect o.op = true) : aPure P R o = pureS P (o.op.operands.toList.all fun x => plain (aEval R x)) (execOp (aEval R) o) := by
  unfold aPure pureS
  rw [hs, Bool.true_and]
  rfl
theorem all_map {α β : Type} (f : α → β) (p : β → Bool) (l : List α) : (l.map f).all p = l.all fun x => p (f x) := by
  rw [List.all_map]; rfl
theorem kBuiltin_eq (P : Program) (call : Callee) (dst : Option Tmp) (b : Builtin) (args : Array Operand) (ts : Array TypeId) (ty : TypeId) (pos : String) (after : Array Edge) (guard : Option (Nat × Bool)) (R : PlanTab.Fr) (W : AW) :
    oBuiltin P b ts ty (args.map isConst) (args.toList.map (aEval R)) W = aBuiltin P ⟨dst, .call ⟨.builtin b, args, ts⟩, ty, pos, after, guard⟩ b ts (args.toList.map (aEval R)) R W := by
  have hf : pureS P ((args.toList.map (aEval R)).all plain) (builtin b ts ty (args.map isConst) (args.toList.map (aEval R)).toArray) = aPure P R ⟨dst, .call ⟨.builtin b, args, ts⟩, ty, pos, after, guard⟩ := by
    rw [aPure_S rfl]
    have h1 : ((args.toList.map (aEval R)).all plain) = ((Op.call { callee := Callee.builtin b, args := args, argTypes := ts }).operands.toList.all fun x => plain (aEval R x)) := by
      rw [all_map]
      have : (Op.call { callee := .builtin b, args := args, argTypes := ts }).operands = args := by simp [Op.operands, Call.operands]
      rw [this]
    have h2 : builtin b ts ty (args.map isConst) (args.toList.map (aEval R)).toArray = execOp (aEval R) ⟨dst, .call ⟨.builtin b, args, ts⟩, ty, pos, after, guard⟩ := by
      have h4 : args.map isConst = args.map (fun | .const _ => true | _ => false) := by
        congr 1; funext x; cases x <;> rfl
      have h3 : (args.toList.map (aEval R)).toArray = args.map (aEval R) := by
        apply Array.toList_inj.1; simp
      rw [h4, h3]
      symm
      simp [execOp, resolve, invoke]
      rfl
    rw [h1, h2]
  unfold oBuiltin aBuiltin
  rw [hf]
  rfl
theorem kOp_eq (P : Program) (call : Callee) (o : Oper) (R : PlanTab.Fr) (W : AW) : kOp P call o R W = aOpC P call o R W := by
  rw [aOpC_eq]
  obtain ⟨dst, op, type, pos, after, guard⟩ := o
  cases op with
  | pick c a b => rfl
  | alloc t =>
    show oAlloc P t W = _
    (simp only [aOpS, aOp, oAlloc, AW.new_eq]; try rfl)
  | box t x =>
    show oBox (aEval R x) W = _
    simp only [aOpS, aOp, oBox, AW.new_eq]
  | buildSlice t len ps =>
    show oBuildSlice P t len (parts R ps) W = _
    (simp only [aOpS, aOp, oBuildSlice, aBuildSlice, AW.new_eq]; try rfl)
  | binOp op t x y yt =>
    show oBin P op t (isConst x) (isConst y) (aEval R x) (aEval R y) W = _
    simp only [aOpS, aOp, oBin]
    rw [aPure_S rfl, ← eqGuard_const]
    rfl
  | unOp op t x =>
    show oUn P op (aEval R x) W = _
    simp only [aOpS, aOp, oUn]
    rw [aPure_S rfl]
    rfl
  | convert s d x =>
    show oConv P s d (aEval R x) W = _
    simp only [aOpS, aOp, oConv]
    rw [aPure_S rfl]
    rfl
  | makeFunc fn a b => cases fn <;> rfl
  | makeMap t r =>
    cases r with
    | none => show oMkMap P t none W = _; (simp only [aOpS, aOp, oMkMap, AW.new_eq]; try rfl)
    | some r => show oMkMap P t (some (aEval R r)) W = _; (simp only [aOpS, aOp, oMkMap, AW.new_eq]; try rfl)
  | makeSlice t l c =>
    show oMkSlice P t (aEval R l) (aEval R c) W = _
    (simp only [aOpS, aOp, oMkSlice, aMakeSlice, AW.new_eq]; try rfl)
  | slice t x lo hi mx =>
    show oSlice P t (aEval R x) (lo.map (aEval R)) (hi.map (aEval R)) (mx.map (aEval R)) W = _
    simp only [aOpS, aOp, oSlice]
    rw [aPure_S rfl]
    have : (aEval R x :: ((lo.map (aEval R)).toList ++ ((hi.map (aEval R)).toList ++ (mx.map (aEval R)).toList))).all plain = ((Op.slice t x lo hi mx).operands.toList.all fun x => plain (aEval R x)) := by
      cases lo <;> cases hi <;> cases mx <;> simp [Op.operands]
    rw [this]
    rfl
  | index t x i =>
    show oIndex P t (aEval R x) (aEval R i) W = _
    simp only [aOpS, aOp, oIndex]
    rw [aPure_S rfl]
    rfl
  | range t x =>
    show oRangeStr P t (aEval R x) W = _
    (simp only [aOpS, aOp, oRangeStr, AW.new_eq]; try rfl)
  | next it s => cases s <;> rfl
  | call c =>
    obtain ⟨callee, args, ts⟩ := c
    cases callee with
    | builtin b => exact kBuiltin_eq P call dst b args ts type pos after guard R W
    | value f => rfl
    | invoke r name => rfl
  | _ => rfl
/-! ### operations whose types are known -/
noncomputable def ldC (x : Value) (W : AW) : Option (Value × AW) := (match x with
  | .pointer (some a) => (match cellsAt W a.block with
    | some cs => lget cs a.off
    | none => none)
  | _ => none).map fun v => (v, W)
noncomputable def ldA (n : Nat) (x : Value) (W : AW) : Option (Value × AW) := (match x with
  | .pointer (some a) => (readN W a.block a.off n).map fun (l : List Value) => Value.agg l.toArray
  | _ => none).map fun v => (v, W)
noncomputable def stV (n : Nat) (x v : Value) (W : AW) : Option (Value × AW) := (match x with
  | .pointer (some a) => if v.cells.size = n then writeN W a.block a.off v.cells.toList else none
  | _ => none).map fun W' => (undef, W')
noncomputable def faO (off : Nat) (x : Value) (W : AW) : Option (Value × AW) := match x with
  | .pointer (some a) => some (.pointer (some (a.add off)), W)
  | _ => none
noncomputable def fdC (off : Nat) (x : Value) (W : AW) : Option (Value × AW) := match x with
  | .agg cs => (cs[off]?).map fun v => (v, W)
  | _ => none
noncomputable def fdA (off n : Nat) (x : Value) (W : AW) : Option (Value × AW) := match x with
  | .agg cs => (some (Value.agg (cs.extract off (off + n)))).map fun v => (v, W)
  | _ => none
noncomputable def ixS (z : Nat) (x i : Value) (W : AW) : Option (Value × AW) := match x, natOf i with
  | .slice (some a) len _, some n => if n < len then some (.pointer (some (a.add (n * z))), W) else none
  | _, _ => none
noncomputable def ixA (len z : Nat) (x i : Value) (W : AW) : Option (Value × AW) := match x, natOf i with
  | .pointer (some a), some n => if n < len then some (.pointer (some (a.add (n * z))), W) else none
  | _, _ => none
end Go.Eng
