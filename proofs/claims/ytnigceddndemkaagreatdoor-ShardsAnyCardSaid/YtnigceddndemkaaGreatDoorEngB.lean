/- A part of the engine. -/
import Derived.Test.YtnigceddndemkaaGreatDoorEngA
import Derived.LoopNIn
import Derived.RangeFuncRecord
import Derived.RowKit3
import Derived.ProofKit
import Derived.OpenShut
import Derived.Maps.RangeWalk
import Derived.Orders
import Derived.Laws.StructEq
import Derived.ChangeKeysEq
set_option linter.unusedVariables false
set_option linter.unusedSimpArgs false
set_option linter.unusedSectionVars false
namespace Go.Eng
open Go
variable [PlanTab]
abbrev Callee:=Value->List Value->AW->Option (Value×AW)
def FE(ro:Option Nat):Fence:={Fence.wide with round:=ro}
noncomputable def jL(P:Program)(o:Oper)(b:Builtin)(argTypes:Array TypeId)(args:List Value)(R:PlanTab.Fr)(W:AW):Option (Value×AW):=
 match b,args with
 |.len,[.slice _ n _]=>match(argTypes[0]?).bind P.underlying with
  |some (.slice _)=>some (goInt n,W)
  |_=>none
 |.len,[.map none]=>match(argTypes[0]?).bind P.underlying with
  |some (.map _ _)=>some (goInt 0,W)
  |_=>none
 |.len,[.map (some r)]=>match(argTypes[0]?).bind P.underlying,W.get r with
  |some (.map _ _),some (.map es _)=>some (goInt es.length,W)
  |_,_=>none
 |.append,[s,x]=>D8 P W argTypes s x
 |.copy,[d,x]=>a1i P W argTypes d x
 |.clear,[x]=>(BS P W argTypes x).map λW'=>(.tuple #[],W')
 |.delete,[m,k]=>(rA P W argTypes m k).map λW'=>(.tuple #[],W')
 |.unsafeSliceData,[x]=>(vT x).map λv=>(v,W)
 |.unsafeString,[p,n]=>oZ P W argTypes p n
 |_,_=>(jM P R o).map λv=>(v,W)
def sN(P:Program)(t:TypeId)(name:String):Option FuncId:=
 match P.info? t,P.underlying t with
 |some i,some d=>match i.methods.find? (·.name==name)with
  |some m=>match m.path.toList,m.func,d with
   |[],some (f,true),.pointer _=>if 0<P.types.size then some f else none
   |_,_,_=>none
  |none=>none
 |_,_=>none
noncomputable def iL(P:Program)(call:Callee)(o:Oper)(R:PlanTab.Fr)(W:AW):Option (Value×AW):=
 match o.op with
 |.call c=>match c.callee with
  |.builtin b=>jL P o b c.argTypes (c.args.toList.map (aC R)) R W
  |.value f=>call (aC R f) (c.args.toList.map (aC R)) W
  |.invoke r name=>match aC R r with
   |.iface t v=>match sN P t name with
    |some f=>call (.func (.func f) #[] #[]) (v::c.args.toList.map (aC R)) W
    |none=>none
   |_=>none
 |_=>O7 P o R W
noncomputable def J3:Value->Option Addr:=Value.rec (motive_1:=λ_=>Option Addr) (motive_2:=λ_=>PUnit) (motive_3:=λ_=>PUnit) (λ_=>none) (λ_ _=>none) (λ_ _=>none) (λ_ _ _=>none) (λ_=>none) (λa=>a) (λ_ _ _=>none) (λ_=>none) (λ_=>none) (λ_ _ _ _ _=>none) (none) (λ_ _ _=>none) (none) (λ_ _=>none) (λ_ _=>none) (λ_ _=>.unit) .unit (λ_ _ _ _=>.unit)
noncomputable def a7F:Value->Option Bool:=Value.rec (motive_1:=λ_=>Option Bool) (motive_2:=λ_=>PUnit) (motive_3:=λ_=>PUnit) (λb=>some b) (λ_ _=>none) (λ_ _=>none) (λ_ _ _=>none) (λ_=>none) (λ_=>none) (λ_ _ _=>none) (λ_=>none) (λ_=>none) (λ_ _ _ _ _=>none) (none) (λ_ _ _=>none) (none) (λ_ _=>none) (λ_ _=>none) (λ_ _=>.unit) .unit (λ_ _ _ _=>.unit)
noncomputable def aAD:Value->Option (IntKind×Int):=Value.rec (motive_1:=λ_=>Option (IntKind×Int)) (motive_2:=λ_=>PUnit) (motive_3:=λ_=>PUnit) (λ_=>none) (λk n=>some (k,n)) (λ_ _=>none) (λ_ _ _=>none) (λ_=>none) (λ_=>none) (λ_ _ _=>none) (λ_=>none) (λ_=>none) (λ_ _ _ _ _=>none) (none) (λ_ _ _=>none) (none) (λ_ _=>none) (λ_ _=>none) (λ_ _=>.unit) .unit (λ_ _ _ _=>.unit)
noncomputable def a4W:Value->Option Nat:=Value.rec (motive_1:=λ_=>Option Nat) (motive_2:=λ_=>PUnit) (motive_3:=λ_=>PUnit) (λ_=>none) (λ_ n=>Int.rec (motive:=λ_=>Option Nat) (λn=>some n) (λ_=>none) n) (λ_ _=>none) (λ_ _ _=>none) (λ_=>none) (λ_=>none) (λ_ _ _=>none) (λ_=>none) (λ_=>none) (λ_ _ _ _ _=>none) (none) (λ_ _ _=>none) (none) (λ_ _=>none) (λ_ _=>none) (λ_ _=>.unit) .unit (λ_ _ _ _=>.unit)
noncomputable def vSl:Value->Option (Addr×Nat):=Value.rec (motive_1:=λ_=>Option (Addr×Nat)) (motive_2:=λ_=>PUnit) (motive_3:=λ_=>PUnit) (λ_=>none) (λ_ _=>none) (λ_ _=>none) (λ_ _ _=>none) (λ_=>none) (λ_=>none) (λa l _=>Option.rec (motive:=λ_=>Option (Addr×Nat)) none (λa=>some (a,l)) a) (λ_=>none) (λ_=>none) (λ_ _ _ _ _=>none) (none) (λ_ _ _=>none) (none) (λ_ _=>none) (λ_ _=>none) (λ_ _=>.unit) .unit (λ_ _ _ _=>.unit)
noncomputable def aAC:Value->Option (Array Value):=Value.rec (motive_1:=λ_=>Option (Array Value)) (motive_2:=λ_=>PUnit) (motive_3:=λ_=>PUnit) (λ_=>none) (λ_ _=>none) (λ_ _=>none) (λ_ _ _=>none) (λ_=>none) (λ_=>none) (λ_ _ _=>none) (λ_=>none) (λ_=>none) (λ_ _ _ _ _=>none) (none) (λ_ _ _=>none) (none) (λ_ _=>none) (λv _=>some v) (λ_ _=>.unit) .unit (λ_ _ _ _=>.unit)
theorem a5I(v:Value):a4W v=iN v:=by cases v<;>first|rfl|(rename_i k n;cases n<;>rfl)
noncomputable def a1h(P:Program)(W:AW)(t:TypeId)(a:Addr):Option (Value×AW):=
 match a2p P t with
 |some false=>match cellsAt W a.block with
  |some cs=>(a6J cs a.off).map λv=>(v,W)
  |none=>none
 |some true=>match nI P t with
  |some n=>(pX W a.block a.off n).map λl=>(.agg l.toArray,W)
  |none=>none
 |none=>none
theorem a5H(P:Program)(W:AW)(t:TypeId)(v:Value):(match J3 v with|some a=>a1h P W t a|none=>none)=(mY P W t v).map λv=>(v,W):=by
 cases v with
 |pointer a=>
  cases a with
  |none=>rfl
  |some a=>
   show a1h P W t a=_;unfold a1h mY;cases a2p P t with
   |none=>rfl
   |some b=>
    cases b with
    |false=>simp only;cases cellsAt W a.block<;>rfl
    |true=>
     simp only;cases nI P t with
     |none=>rfl
     |some n=>simp only;cases pX W a.block a.off n<;>rfl
 |_=>rfl
noncomputable def RV(P:Program)(W:AW)(t:TypeId)(a:Addr)(v:Value):Option (Value×AW):=
 match nI P t with
 |some n=>if v.cells.size=n then(qO W a.block a.off v.cells.toList).map λW'=>(undef,W')else none
 |none=>none
theorem a2G(P:Program)(W:AW)(t:TypeId)(x v:Value):(match J3 x with|some a=>RV P W t a v|none=>none)=(A9 P W t x v).map λW'=>(undef,W'):=by
 cases x with
 |pointer a=>
  cases a with
  |none=>rfl
  |some a=>
   show RV P W t a v=_;unfold RV A9;cases nI P t with
   |none=>rfl
   |some n=>simp only;split<;>rfl
 |_=>rfl
noncomputable def a5n:BinOp->IntKind->Int->Int->Option Value:=BinOp.rec (motive:=λ_=>IntKind->Int->Int->Option Value) (λk a b=>some (BM k (IM k (a+b)))) (λk a b=>some (BM k (IM k (a-b)))) (λk a b=>some (BM k (IM k (a*b)))) (λ_ _ _=>none) (λ_ _ _=>none) (λ_ _ _=>none) (λ_ _ _=>none) (λ_ _ _=>none) (λ_ _ _=>none) (λ_ _ _=>none) (λ_ _ _=>none) (λ_ a b=>some (.bool (decide (a=b)))) (λ_ a b=>some (.bool (!decide (a=b)))) (λ_ a b=>some (.bool (decide (a<b)))) (λ_ a b=>some (.bool (decide (a<=b)))) (λ_ a b=>some (.bool (decide (b<a)))) (λ_ a b=>some (.bool (decide (b<=a))))
theorem a5p(op:BinOp)(k:IntKind)(a b:Int):a5n op k a b=NY op k a b:=by cases op<;>rfl
noncomputable def aAv(P:Program)(W:AW)(op:BinOp)(t:TypeId)(x y:Value):Option Value:=
 match aAD x with
 |some (k,a)=>match aAD y with
  |some (k',b)=>if k=k' then a5n op k a b else none
  |none=>lY P W op t x y
 |none=>lY P W op t x y
theorem a6U(P:Program)(W:AW)(op:BinOp)(t:TypeId)(x y:Value):aAv P W op t x y=lY P W op t x y:=by
 cases x with
 |int k a=>
  cases y with
  |int k' b=>show(if k=k' then a5n op k a b else none)=_;rw[a5p];rfl
  |_=>rfl
 |_=>rfl
def YV(P:Program)(s:TypeId)(f:Nat):Option Nat:=match P.underlying s with
 |some (.struct fs)=>match fs[f]? with
  |some fl=>match nI P fl.type with
   |some (_+1)=>some fl.offset
   |_=>none
  |none=>none
 |_=>none
def a3W(P:Program)(t:TypeId):Option (Option Nat×Nat):=match P.underlying t with
 |some (.slice e)=>(nI P e).map λz=>(none,z)
 |some (.array n e)=>(nI P e).map λz=>(some n,z)
 |_=>none
theorem a7c{X:Type}(v:Value)(a b:X):(match a7F v with|some true=>some a|some false=>some b|none=>none)=(match v with|.bool true=>some a|.bool false=>some b|_=>none):=by
 cases v with
 |bool c=>cases c<;>rfl
 |_=>rfl
theorem a0k(W:AW)(v:Value)(i:Nat):(match aAC v with|some vs=>(vs[i]?).map λv=>(v,W)|none=>none)=(match v with|.tuple vs=>(vs[i]?).map λv=>(v,W)|_=>none):=by cases v<;>rfl
theorem SN(P:Program)(W:AW)(s:TypeId)(v:Value)(f:Nat):
 (match J3 v with
 |some a=>(match YV P s f with
  |some k=>some (Value.pointer (some (a.add k)),W)
  |none=>none)
 |none=>none)=(match P.underlying s,v with
 |some (.struct fs),.pointer (some a)=>match fs[f]? with
  |some fl=>match nI P fl.type with
   |some (_+1)=>some (.pointer (some (a.add fl.offset)),W)
   |_=>none
  |none=>none
 |_,_=>none):=by
 unfold YV;generalize P.underlying s=u
 have hno:∀(o:Option TypeDesc) (v:Value),J3 v=none->(match o,v with
  |some (.struct fs),.pointer (some a)=>match fs[f]? with
   |some fl=>match nI P fl.type with
    |some (_+1)=>some (Value.pointer (some (a.add fl.offset)),W)
    |_=>none
   |none=>none
  |_,_=>none)=none:=by
  intro o v hv;split
  ·cases hv
  ·rfl
 cases hv:J3 v with
 |none=>exact(hno u v hv).symm
 |some a=>
  obtain rfl:v=.pointer (some a):=by
   cases v with
   |pointer b=>cases b with|none=>cases hv|some b=>injection hv with hv;rw[hv]
   |_=>cases hv
  cases u with
  |none=>rfl
  |some d=>
   cases d with
   |struct fs=>
    simp only;cases fs[f]? with
    |none=>rfl
    |some fl=>
     simp only;cases nI P fl.type with
     |none=>rfl
     |some n=>cases n<;>rfl
   |_=>rfl
theorem TJ(P:Program)(W:AW)(t:TypeId)(v i:Value):
 (match a3W P t with
 |some (none,z)=>(match vSl v with
  |some (a,len)=>(match a4W i with
   |some n=>(match Nat.blt n len with
    |true=>some (Value.pointer (some (a.add (n*z))),W)
    |false=>none)
   |none=>none)
  |none=>none)
 |some (some len,z)=>(match J3 v with
  |some a=>(match a4W i with
   |some n=>(match Nat.blt n len with
    |true=>some (.pointer (some (a.add (n*z))),W)
    |false=>none)
   |none=>none)
  |none=>none)
 |none=>none)=(match P.underlying t,v,iN i with
 |some (.slice e),.slice (some a) len _,some n=>match nI P e with
  |some z=>if n<len then some (.pointer (some (a.add (n*z))),W)else none
  |none=>none
 |some (.array len e),.pointer (some a),some n=>match nI P e with
  |some z=>if n<len then some (.pointer (some (a.add (n*z))),W)else none
  |none=>none
 |_,_,_=>none):=by
 rw[a5I];have key:∀(n len:Nat) (u:Option (Value×AW)),(match Nat.blt n len with|true=>u|false=>none)=if n<len then u else none:=by
  intro n len u;by_cases h:n<len
  ·have h1:Nat.blt n len=true:=by rw[Nat.blt_eq];exact h
   rw[if_pos h,h1]
  ·rw[if_neg h];cases hb:Nat.blt n len with
   |true=>exact absurd (by rw[Nat.blt_eq]at hb;exact hb) h
   |false=>rfl
 simp only[key];unfold a3W;generalize iN i=k;generalize P.underlying t=u;cases u with
 |none=>rfl
 |some d=>
  cases d with
  |slice e=>
   cases hz:nI P e with
   |none=>cases v with
    |slice a l c=>cases a<;>cases k<;>simp[hz]
    |_=>simp[hz]
   |some z=>cases v with
    |slice a l c=>cases a<;>cases k<;>simp[hz,vSl]
    |_=>simp[hz,vSl]
  |array n e=>
   cases hz:nI P e with
   |none=>cases v with
    |pointer a=>cases a<;>cases k<;>simp[hz]
    |_=>simp[hz]
   |some z=>cases v with
    |pointer a=>cases a<;>cases k<;>simp[hz,J3]
    |_=>simp[hz,J3]
  |_=>rfl
noncomputable def a94(x:Operand)(P:Program)(call:Callee)(o:Oper)(R:PlanTab.Fr)(W:AW):Option (Value×AW):=
 some (aC R x,W)
noncomputable def a6K(x:Operand)(P:Program)(call:Callee)(o:Oper)(R:PlanTab.Fr)(W:AW):Option (Value×AW):=
 some (aC R x,W)
noncomputable def aAj(c:Operand)(a:Operand)(b:Operand)(P:Program)(call:Callee)(o:Oper)(R:PlanTab.Fr)(W:AW):Option (Value×AW):=
 match a7F (aC R c)with
  |some true=>some (aC R a,W)
  |some false=>some (aC R b,W)
  |none=>none
noncomputable def a9c(t:TypeId)(P:Program)(call:Callee)(o:Oper)(R:PlanTab.Fr)(W:AW):Option (Value×AW):=
 match kR P t with
  |some z=>some (W.new (qL t z.cells.toList) λb W'=>(Value.pointer (some ⟨b,0,none⟩),W'))
  |none=>none
noncomputable def aCh(t:TypeId)(x:Operand)(P:Program)(call:Callee)(o:Oper)(R:PlanTab.Fr)(W:AW):Option (Value×AW):=
 some (W.new (.cells (aC R x).cells.toList) λb W'=>(Value.pointer (some ⟨b,0,none⟩),W'))
noncomputable def a8p(t:TypeId)(ps:Array (Nat×Operand))(P:Program)(call:Callee)(o:Oper)(R:PlanTab.Fr)(W:AW):Option (Value×AW):=
 (AB P R t ps).map λv=>(v,W)
noncomputable def XV(t:TypeId)(n:Nat)(ps:Array (Nat×Operand))(P:Program)(call:Callee)(o:Oper)(R:PlanTab.Fr)(W:AW):Option (Value×AW):=
 lM P R W t n ps
noncomputable def a7g(_t:TypeId)(_m:Operand)(_k:Operand)(_v:Operand)(P:Program)(call:Callee)(o:Oper)(R:PlanTab.Fr)(W:AW):Option (Value×AW):=
 iL P call o R W
noncomputable def aAJ(t:TypeId)(a:Operand)(P:Program)(call:Callee)(o:Oper)(R:PlanTab.Fr)(W:AW):Option (Value×AW):=
 match J3 (aC R a)with
  |some a=>a1h P W t a
  |none=>none
noncomputable def a9G(t:TypeId)(a:Operand)(x:Operand)(P:Program)(call:Callee)(o:Oper)(R:PlanTab.Fr)(W:AW):Option (Value×AW):=
 match J3 (aC R a)with
  |some a=>RV P W t a (aC R x)
  |none=>none
noncomputable def a8L(_g:Nat)(P:Program)(call:Callee)(o:Oper)(R:PlanTab.Fr)(W:AW):Option (Value×AW):=
 iL P call o R W
noncomputable def a8o(_g:Nat)(P:Program)(call:Callee)(o:Oper)(R:PlanTab.Fr)(W:AW):Option (Value×AW):=
 iL P call o R W
noncomputable def a2o(_x:Operand)(P:Program)(call:Callee)(o:Oper)(R:PlanTab.Fr)(W:AW):Option (Value×AW):=
 iL P call o R W
noncomputable def ZQ(op:BinOp)(t:TypeId)(x:Operand)(y:Operand)(yt:TypeId)(P:Program)(call:Callee)(o:Oper)(R:PlanTab.Fr)(W:AW):Option (Value×AW):=
 match aAv P W op t (aC R x) (aC R y)with
  |some v=>some (v,W)
  |none=>(jM P R o).map λv=>(v,W)
noncomputable def aA0(op:UnOp)(t:TypeId)(x:Operand)(P:Program)(call:Callee)(o:Oper)(R:PlanTab.Fr)(W:AW):Option (Value×AW):=
 (jM P R o).map λv=>(v,W)
noncomputable def a4P(s:TypeId)(d:TypeId)(x:Operand)(P:Program)(call:Callee)(o:Oper)(R:PlanTab.Fr)(W:AW):Option (Value×AW):=
 (LQ P W s d (aC R x) (jM P R o)).map λv=>(v,W)
noncomputable def xJ(_d:TypeId)(_x:Operand)(P:Program)(call:Callee)(o:Oper)(R:PlanTab.Fr)(W:AW):Option (Value×AW):=
 iL P call o R W
noncomputable def M4(_t:TypeId)(_x:Operand)(P:Program)(call:Callee)(o:Oper)(R:PlanTab.Fr)(W:AW):Option (Value×AW):=
 iL P call o R W
noncomputable def a2L(_fn:Fn)(_first:Array Operand)(_captured:Array Operand)(P:Program)(call:Callee)(o:Oper)(R:PlanTab.Fr)(W:AW):Option (Value×AW):=
 iL P call o R W
noncomputable def a3A(_t:TypeId)(_r:Option Operand)(P:Program)(call:Callee)(o:Oper)(R:PlanTab.Fr)(W:AW):Option (Value×AW):=
 iL P call o R W
noncomputable def a1A(_t:TypeId)(_s:Operand)(P:Program)(call:Callee)(o:Oper)(R:PlanTab.Fr)(W:AW):Option (Value×AW):=
 iL P call o R W
noncomputable def a0D(t:TypeId)(l:Operand)(c:Operand)(P:Program)(call:Callee)(o:Oper)(R:PlanTab.Fr)(W:AW):Option (Value×AW):=
 oQ P W t (aC R l) (aC R c)
noncomputable def a9E(t:TypeId)(x:Operand)(lo:Option Operand)(hi:Option Operand)(mx:Option Operand)(P:Program)(call:Callee)(o:Oper)(R:PlanTab.Fr)(W:AW):Option (Value×AW):=
 match iD P t (aC R x) (lo.map (aC R)) (hi.map (aC R)) (mx.map (aC R))with
  |some v=>some (v,W)
  |none=>(jM P R o).map λv=>(v,W)
noncomputable def a0b(s:TypeId)(x:Operand)(f:Nat)(P:Program)(call:Callee)(o:Oper)(R:PlanTab.Fr)(W:AW):Option (Value×AW):=
 match J3 (aC R x)with
  |some a=>(match YV P s f with
   |some k=>some (.pointer (some (a.add k)),W)
   |none=>none)
  |none=>none
noncomputable def a9l(t:TypeId)(x:Operand)(f:Nat)(P:Program)(call:Callee)(o:Oper)(R:PlanTab.Fr)(W:AW):Option (Value×AW):=
 match P.underlying t,aC R x with
  |some (.struct fs),.agg cs=>match fs[f]? with
   |some fl=>(C9 P fl.type cs fl.offset).map λv=>(v,W)
   |none=>none
  |_,_=>none
noncomputable def ZJ(t:TypeId)(x:Operand)(i:Operand)(P:Program)(call:Callee)(o:Oper)(R:PlanTab.Fr)(W:AW):Option (Value×AW):=
 match a3W P t with
  |some (none,z)=>(match vSl (aC R x)with
   |some (a,len)=>(match a4W (aC R i)with
    |some n=>(match Nat.blt n len with
     |true=>some (.pointer (some (a.add (n*z))),W)
     |false=>none)
    |none=>none)
   |none=>none)
  |some (some len,z)=>(match J3 (aC R x)with
   |some a=>(match a4W (aC R i)with
    |some n=>(match Nat.blt n len with
     |true=>some (.pointer (some (a.add (n*z))),W)
     |false=>none)
    |none=>none)
   |none=>none)
  |none=>none
noncomputable def a9g(_t:TypeId)(_x:Operand)(_i:Operand)(P:Program)(call:Callee)(o:Oper)(R:PlanTab.Fr)(W:AW):Option (Value×AW):=
 iL P call o R W
noncomputable def a7A(t:TypeId)(m:Operand)(k:Operand)(ok:Bool)(P:Program)(call:Callee)(o:Oper)(R:PlanTab.Fr)(W:AW):Option (Value×AW):=
 (rH P W t (aC R m) (aC R k) ok).map λv=>(v,W)
noncomputable def ZZ(t:TypeId)(m:Operand)(k:Operand)(v:Operand)(P:Program)(call:Callee)(o:Oper)(R:PlanTab.Fr)(W:AW):Option (Value×AW):=
 (l7 P W t (aC R m) (aC R k) (aC R v)).map λW'=>(undef,W')
noncomputable def a1I(_t:TypeId)(_m:Operand)(_k:Operand)(P:Program)(call:Callee)(o:Oper)(R:PlanTab.Fr)(W:AW):Option (Value×AW):=
 iL P call o R W
noncomputable def Y4(_t:TypeId)(_m:Operand)(_s:Operand)(_v:Operand)(P:Program)(call:Callee)(o:Oper)(R:PlanTab.Fr)(W:AW):Option (Value×AW):=
 iL P call o R W
noncomputable def a9h(_t:TypeId)(_x:Operand)(P:Program)(call:Callee)(o:Oper)(R:PlanTab.Fr)(W:AW):Option (Value×AW):=
 iL P call o R W
noncomputable def aA3(_it:Operand)(_s:Bool)(P:Program)(call:Callee)(o:Oper)(R:PlanTab.Fr)(W:AW):Option (Value×AW):=
 iL P call o R W
noncomputable def a8H(_it:Operand)(P:Program)(call:Callee)(o:Oper)(R:PlanTab.Fr)(W:AW):Option (Value×AW):=
 iL P call o R W
noncomputable def VL(_x:Operand)(_t:TypeId)(_a:TypeId)(_ok:Bool)(P:Program)(call:Callee)(o:Oper)(R:PlanTab.Fr)(W:AW):Option (Value×AW):=
 iL P call o R W
noncomputable def a2X(x:Operand)(i:Nat)(P:Program)(call:Callee)(o:Oper)(R:PlanTab.Fr)(W:AW):Option (Value×AW):=
 match aAC (aC R x)with
  |some vs=>(vs[i]?).map λv=>(v,W)
  |none=>none
noncomputable def aAl(c:Call)(P:Program)(call:Callee)(o:Oper)(R:PlanTab.Fr)(W:AW):Option (Value×AW):=
 match c.callee with
  |.builtin b=>jL P o b c.argTypes (c.args.toList.map (aC R)) R W
  |.value f=>call (aC R f) (c.args.toList.map (aC R)) W
  |.invoke r name=>match aC R r with
   |.iface t v=>match sN P t name with
    |some f=>call (.func (.func f) #[] #[]) (v::c.args.toList.map (aC R)) W
    |none=>none
   |_=>none
noncomputable def hGo(_c:Call)(P:Program)(call:Callee)(o:Oper)(R:PlanTab.Fr)(W:AW):Option (Value×AW):=
 iL P call o R W
noncomputable def a8Q(_c:Call)(P:Program)(call:Callee)(o:Oper)(R:PlanTab.Fr)(W:AW):Option (Value×AW):=
 iL P call o R W
noncomputable def a8j(_x:Operand)(P:Program)(call:Callee)(o:Oper)(R:PlanTab.Fr)(W:AW):Option (Value×AW):=
 iL P call o R W
noncomputable def aBa(_c:Operand)(_x:Operand)(P:Program)(call:Callee)(o:Oper)(R:PlanTab.Fr)(W:AW):Option (Value×AW):=
 iL P call o R W
noncomputable def aAn(_t:TypeId)(_c:Operand)(_ok:Bool)(P:Program)(call:Callee)(o:Oper)(R:PlanTab.Fr)(W:AW):Option (Value×AW):=
 iL P call o R W
noncomputable def a7d(_cs:Array SelectCase)(_bl:Bool)(P:Program)(call:Callee)(o:Oper)(R:PlanTab.Fr)(W:AW):Option (Value×AW):=
 iL P call o R W
noncomputable def aB3:Op->Program->Callee->Oper->PlanTab.Fr->AW->Option (Value×AW):=
 Op.rec (motive:=λ_=>Program->Callee->Oper->PlanTab.Fr->AW->Option (Value×AW)) a94 a6K aAj a9c aCh a8p XV a7g aAJ a9G a8L a8o a2o ZQ aA0 a4P xJ M4 a2L a3A a1A a0D a9E a0b a9l ZJ a9g a7A ZZ a1I Y4 a9h aA3 a8H VL a2X aAl hGo a8Q a8j aBa aAn a7d
noncomputable def tZ(P:Program)(call:Callee)(o:Oper)(R:PlanTab.Fr)(W:AW):Option (Value×AW):=aB3 o.op P call o R W
theorem zF(P:Program)(call:Callee)(o:Oper)(R:PlanTab.Fr)(W:AW):tZ P call o R W=iL P call o R W:=by
 obtain⟨dst,op,type,pos,after,guard⟩:=o;cases op with
 |pick c a b=>exact a7c (aC R c) _ _
 |load t a=>exact a5H P W t (aC R a)
 |store t a x=>exact a2G P W t (aC R a) (aC R x)
 |binOp op t x y yt=>show ZQ op t x y yt P call ⟨dst,.binOp op t x y yt,type,pos,after,guard⟩ R W=_;unfold ZQ;rw[a6U];rfl
 |extract x i=>exact a0k W (aC R x) i
 |fieldAddr s x f=>exact SN P W s (aC R x) f
 |indexAddr t x i=>exact TJ P W t (aC R x) (aC R i)
 |_=>rfl
def zY(P:Program)(f':Value)(args':List Value)(w:World)(R:Value->World->Prop):Prop:=
 match f' with
 |.func (.func i) fs cs=>(callFunc i (fs++args'.toArray++cs)).run P w=.ok (.enter i (fs++args'.toArray++cs)) w/\
  CallsIn (FE none) 0 P i (fs++args'.toArray++cs) w (λe w'=>∃v,e=.returned v/\R v w')
 |.func (.yield l) fs _=>∃f tmps as bd,(Instr.yield l (fs++args'.toArray)).run P w=.ok (.round l f tmps as bd) w/\
  RoundIn (FE none) 0 P l f tmps as bd w (λe w'=>∃v,e=.returned v/\R v w')
 |_=>False
def aW(P:Program)(ng:List Nat)(call:Callee):Prop:=
 ∀f args W v W',call f args W=some (v,W')->∀σ w f' args',WRel σ W w.heap->Glob σ ng->VR σ f f'->LR σ args args'->
  zY P f' args' w (λv' w'=>∃σ',VR σ' v v'/\WRel σ' W' w'.heap/\Ext σ W w σ' W' w')
section
variable {P:Program} {σ:bQ} {W:AW} {w:World}
theorem SI(hW:WRel σ W w.heap){b:Builtin}{R:PlanTab.Fr}{ρ:Operand->Value}{v:Value}{W':AW}{dst:Option Tmp}{type:TypeId}{pos:String}{after:Array Edge}{guard:Option (Nat×Bool)}{args:Array Operand}{argTypes:Array TypeId}
 (h:jL P {dst,op:=.call {callee:=.builtin b,args,argTypes},type,pos,after,guard} b argTypes (args.toList.map (aC R)) R W=some (v,W'))(hρ:∀x∈args,VR σ (aC R x) (ρ x)):
 Does P σ W w (execOp ρ {dst,op:=.call {callee:=.builtin b,args,argTypes},type,pos,after,guard}) v W':=by
 have hmap:∀(x:Option Value),(x.map λv=>(v,W))=some (v,W')->x=some v/\W'=W:=by
  intro x hx;cases x with
  |none=>cases hx
  |some u=>simp at hx;exact⟨by rw[hx.1],hx.2.symm⟩
 have hmapT:∀(x:Option AW),(x.map λW'=>(Value.tuple #[],W'))=some (v,W')->x=some W'/\v=.tuple #[]:=by
  intro x hx;cases x with
  |none=>cases hx
  |some u=>simp at hx;exact⟨by rw[hx.2],hx.1.symm⟩
 have hex:execOp ρ {dst,op:=.call {callee:=.builtin b,args,argTypes},type,pos,after,guard}=builtin b argTypes type (args.map λ|.const _=>true|_=>false) (args.map ρ):=by simp[execOp,resolve,invoke];rfl
 have hargs:LR σ (args.toList.map (aC R)) (args.map ρ).toList:=by have:=JZ args hρ;simpa using this
 unfold jL at h;split at h
 ·rename_i A n c heq;rw[heq]at hargs;obtain⟨x',l',e1,hx,hl⟩:=hargs.of_cons;have:=hl.of_nil;subst this;have e2:args.map ρ=#[x']:=by rw[<-Array.toArray_toList (xs:=args.map ρ),e1]
  split at h
  ·rename_i e hu;injection h with h;injection h with h1 h2;subst h1;subst h2;rw[hex,e2];cases ha:argTypes[0]? with
   |none=>rw[ha]at hu;cases hu
   |some t=>rw[ha]at hu;simp only[Option.bind_some]at hu;refine .value (s:=Builtin.len_ argTypes type #[x']) rfl hW (v':=goInt n) ?_ (.int _ _);cases hx<;>simp[Builtin.len_,ha,run_underlying hu]
  ·cases h
 ·rename_i heq;rw[heq]at hargs;obtain⟨x',l',e1,hx,hl⟩:=hargs.of_cons;have:=hl.of_nil;subst this;have e2:args.map ρ=#[x']:=by rw[<-Array.toArray_toList (xs:=args.map ρ),e1]
  split at h
  ·rename_i k e hu;injection h with h;injection h with h1 h2;subst h1;subst h2;rw[hex,e2];cases ha:argTypes[0]? with
   |none=>rw[ha]at hu;cases hu
   |some t=>rw[ha]at hu;simp only[Option.bind_some]at hu;refine .value (s:=Builtin.len_ argTypes type #[x']) rfl hW (v':=goInt 0) ?_ (.int _ _);cases hx;simp[Builtin.len_,ha,run_underlying hu]
  ·cases h
 ·rename_i r heq;rw[heq]at hargs;obtain⟨x',l',e1,hx,hl⟩:=hargs.of_cons;have:=hl.of_nil;subst this;have e2:args.map ρ=#[x']:=by rw[<-Array.toArray_toList (xs:=args.map ρ),e1]
  split at h
  ·rename_i k e es c hu hr;injection h with h;injection h with h1 h2;subst h1;subst h2;rw[hex,e2];cases ha:argTypes[0]? with
   |none=>rw[ha]at hu;cases hu
   |some t=>
    rw[ha]at hu;simp only[Option.bind_some]at hu;cases hx with
    |map _ g hg=>
     obtain⟨_,_,es',g3,g4⟩:=JP hW hr hg;refine .value (s:=Builtin.len_ argTypes type #[.map (some g.B)]) rfl hW (v':=goInt es.length) ?_ (.int _ _);have hlen:es'.size=es.length:=by have:=g4.1;simp at this;omega
     simp[Builtin.len_,ha,run_underlying hu,fM g3,hlen]
  ·cases h
 ·rename_i s x heq;rw[heq]at hargs;obtain⟨s',l',e1,hs,hl⟩:=hargs.of_cons;obtain⟨x',l'',e3,hx,hl2⟩:=hl.of_cons;have:=hl2.of_nil;subst this;subst e3;have e2:args.map ρ=#[s',x']:=by rw[<-Array.toArray_toList (xs:=args.map ρ),e1]
  rw[hex,e2];exact .value' (s:=Builtin.append_ argTypes type #[s',x']) rfl (T9 hW h hs hx)
 ·rename_i s x heq;rw[heq]at hargs;obtain⟨s',l',e1,hs,hl⟩:=hargs.of_cons;obtain⟨x',l'',e3,hx,hl2⟩:=hl.of_cons;have:=hl2.of_nil;subst this;subst e3;have e2:args.map ρ=#[s',x']:=by rw[<-Array.toArray_toList (xs:=args.map ρ),e1]
  rw[hex,e2];obtain⟨v',w',a,b,c,d⟩:=a1D (ty:=type) hW h hs hx;exact .value' (s:=Builtin.copy_ argTypes type #[s',x']) rfl ⟨σ,v',w',a,b,c,d⟩
 ·rename_i x heq;rw[heq]at hargs;obtain⟨x',l',e1,hx,hl⟩:=hargs.of_cons;have:=hl.of_nil;subst this;have e2:args.map ρ=#[x']:=by rw[<-Array.toArray_toList (xs:=args.map ρ),e1]
  rw[hex,e2];obtain⟨hc,rfl⟩:=hmapT _ h;obtain⟨w',a,b,c⟩:=ZN (ty:=type) hW hc hx;exact .value' (s:=Builtin.clear_ argTypes type #[x']) rfl ⟨σ,.tuple #[],w',a,.undef,b,c⟩
 ·rename_i s x heq;rw[heq]at hargs;obtain⟨s',l',e1,hs,hl⟩:=hargs.of_cons;obtain⟨x',l'',e3,hx,hl2⟩:=hl.of_cons;have:=hl2.of_nil;subst this;subst e3;have e2:args.map ρ=#[s',x']:=by rw[<-Array.toArray_toList (xs:=args.map ρ),e1]
  rw[hex,e2];obtain⟨hc,rfl⟩:=hmapT _ h;obtain⟨w',a,b,c⟩:=X8 (ty:=type) hW hc hs hx;exact .value' (s:=Builtin.delete_ argTypes type #[s',x']) rfl ⟨σ,.tuple #[],w',a,.undef,b,c⟩
 ·rename_i x heq;rw[heq]at hargs;obtain⟨x',l',e1,hx,hl⟩:=hargs.of_cons;have:=hl.of_nil;subst this;have e2:args.map ρ=#[x']:=by rw[<-Array.toArray_toList (xs:=args.map ρ),e1]
  rw[hex,e2];obtain⟨hc,rfl⟩:=hmap _ h;obtain⟨v',a,b⟩:=KW (P:=P) (w:=w) (ts:=argTypes) (ty:=type) hc hx;exact .value' (s:=Builtin.unsafeSliceData_ argTypes type #[x']) rfl ⟨σ,v',w,a,b,hW,Ext.refl _ _ _⟩
 ·rename_i s x heq;rw[heq]at hargs;obtain⟨s',l',e1,hs,hl⟩:=hargs.of_cons;obtain⟨x',l'',e3,hx,hl2⟩:=hl.of_cons;have:=hl2.of_nil;subst this;subst e3;have e2:args.map ρ=#[s',x']:=by rw[<-Array.toArray_toList (xs:=args.map ρ),e1]
  rw[hex,e2];exact .value' (s:=Builtin.unsafeString_ argTypes type #[s',x']) rfl (D6 hW h hs hx)
 ·obtain⟨hb,rfl⟩:=hmap _ h;exact .pure_ hW hb (λx hx=>by simp only[Op.operands,Call.operands]at hx;exact hρ x (by simpa using hx))
theorem YM{t:TypeId}{name:String}{f:FuncId}(h:sN P t name=some f)(v:Value)(w:World):(method (P.types.size+Made.depth) t v name).run P w=.ok (f,v) w:=by
 unfold sN at h;split at h
 ·rename_i i d hi hd;split at h
  ·rename_i m hm;split at h
   ·rename_i g e hp hf;split at h
    ·rename_i h0;injection h with h;subst h;obtain⟨n,hn⟩:∃n,P.types.size+Made.depth=n+1:=⟨P.types.size+Made.depth-1,by omega⟩;rw[hn];simp[method,typeInfo,hi,hm,hp,follow,hf,receiverAt,run_underlying hd,Place.get]
    ·cases h
   ·cases h
  ·cases h
 ·cases h
theorem LY(ro:Option Nat):(FE ro).depth=none:=rfl
theorem LU{ro ro':Option Nat}{n:Nat}{f:FuncId}{args:Array Value}{w:World}{R:Ending->World->Prop}(h:CallsIn (FE ro) n P f args w R):CallsIn (FE ro') n P f args w R:=h
theorem a0B{ro ro':Option Nat}{n l:Nat}{f:FuncId}{tmps:Array Value}{as bd:Code}{w:World}{R:Ending->World->Prop}(h:RoundIn (FE ro) n P l f tmps as bd w R):RoundIn (FE ro') n P l f tmps as bd w R:=h
theorem QH{ro:Option Nat}{o:Oper}{a:Act}{v:Value}{W':AW}{next:Act->World->Prop}{Q:Exit->Act->World->Prop}(hnd:∀c,o.op≠ .defer c)(h:Does P σ W w (execOp a.eval o) v W')
 (hn:∀σ' v' w',VR σ' v v'->WRel σ' W' w'.heap->Ext σ W w σ' W' w'->next (a.put o.dst v') w'):o.wpIn (FE ro) 0 P a w next Q:=by
 refine⟨λf _=>trivial,?_⟩;rw[Oper.semAt_eq _ _ _ hnd];obtain⟨σ',nx,v',w',hr,hx,h1,h2,h3⟩:=h;rw[hr];rcases hx with rfl|⟨rfl,rfl⟩
 ·exact hn σ' v' w' h1 h2 h3
 ·exact hn σ' undef w' h1 h2 h3
theorem MK{ro:Option Nat}{o:Oper}{a:Act}{v:Value}{W':AW}{next:Act->World->Prop}{Q:Exit->Act->World->Prop}{f':Value}{args':List Value}(hnd:∀c,o.op≠ .defer c)
 (hf:∀i fs cs,f'=.func (.func i) fs cs->(execOp a.eval o).run P w=(callFunc i (fs++args'.toArray++cs)).run P w)
 (hy:∀l fs cs,f'=.func (.yield l) fs cs->(execOp a.eval o).run P w=(Instr.yield l (fs++args'.toArray)).run P w)
 (h:zY P f' args' w (λv' w'=>∃σ',VR σ' v v'/\WRel σ' W' w'.heap/\Ext σ W w σ' W' w'))
 (hn:∀σ' v' w',VR σ' v v'->WRel σ' W' w'.heap->Ext σ W w σ' W' w'->next (a.put o.dst v') w'):o.wpIn (FE ro) 0 P a w next Q:=by
 refine⟨λf _=>trivial,?_⟩;rw[Oper.semAt_eq _ _ _ hnd];unfold zY at h;split at h
 ·rename_i i fs cs;obtain⟨h1,h2⟩:=h;rw[hf i fs cs rfl,h1];refine⟨λhd=>by rw[LY]at hd;simp at hd,?_⟩;refine CallsIn.mono (LU h2) ?_;rintro e w' ⟨u,rfl,σ',k1,k2,k3⟩;exact hn σ' u w' k1 k2 k3
 ·rename_i l fs cs;obtain⟨f,tmps,as,bd,h1,h2⟩:=h;rw[hy l fs cs rfl,h1];refine⟨λhd=>by rw[LY]at hd;simp at hd,?_⟩;refine RoundIn.mono (a0B h2) ?_;rintro e w' ⟨u,rfl,σ',k1,k2,k3⟩;exact hn σ' u w' k1 k2 k3
 ·exact h.elim
theorem RG{ng:List Nat}{call:Callee}(hc:aW P ng call)(hW:WRel σ W w.heap)(hG:Glob σ ng){ro:Option Nat}{o:Oper}{R:PlanTab.Fr}{a:Act}{v:Value}{W':AW}{next:Act->World->Prop}{Q:Exit->Act->World->Prop}
 (h:tZ P call o R W=some (v,W'))(hρ:∀x∈o.op.operands,VR σ (aC R x) (a.eval x))
 (hn:∀σ' v' w',VR σ' v v'->WRel σ' W' w'.heap->Ext σ W w σ' W' w'->next (a.put o.dst v') w'):o.wpIn (FE ro) 0 P a w next Q:=by
 rw[zF]at h;unfold iL at h;split at h
 ·rename_i c hop;obtain⟨dst,op,type,pos,after,guard⟩:=o;simp only at hop;subst hop;obtain⟨callee,args,argTypes⟩:=c;have hargs:∀x∈args,VR σ (aC R x) (a.eval x):=λx hx=>hρ x (by simp[Op.operands,Call.operands,hx])
  have hl:LR σ (args.toList.map (aC R)) (args.map a.eval).toList:=by simpa using JZ args hargs
  split at h
  ·rename_i b hb;simp only at hb h;subst hb;exact QH (λ_ hx=>by cases hx) (SI hW h hargs) hn
  ·rename_i f hb;simp only at hb h;subst hb;have hf:=hρ f (by simp[Op.operands,Call.operands]);refine MK (λ_ hx=>by cases hx) ?_ ?_ (hc _ _ _ _ _ h σ w _ _ hW hG hf hl) hn
   ·intro i fs cs e;rw[Array.toArray_toList];simp[execOp,resolve,e,Deferred.ofValue,invoke]
   ·intro l fs cs e;rw[Array.toArray_toList];simp[execOp,resolve,e,Deferred.ofValue,invoke]
  ·rename_i r name hb;simp only at hb h;subst hb;have hr:=hρ r (by simp[Op.operands,Call.operands]);split at h
   ·rename_i t u hre;rw[hre]at hr;obtain⟨u',hu,e⟩:=hr.iface_inv;split at h
    ·rename_i f hm;refine MK (f':=.func (.func f) #[] #[]) (args':=u'::(args.map a.eval).toList) (λ_ hx=>by cases hx) ?_ ?_ (hc _ _ _ _ _ h σ w _ _ hW hG (.func _ _ _ _ _ _ (.func f) rfl (λi v v' x=>by simp at x) rfl (λi v v' x=>by simp at x)) (.cons hu hl)) hn
     ·intro i fs cs e';injection e' with e1 e2 e3;injection e1 with e1;subst e1;subst e2;subst e3;have hx:(#[a.eval r]++args.map a.eval).extract 1 (args.size+1)=args.map a.eval:=by apply Array.toList_inj.1;simp[List.extract_eq_take_drop];exact List.take_of_length_le (by simp)
      have h0:(#[a.eval r]++args.map a.eval)[0]? =some (.iface t u'):=by rw[Array.getElem?_append];simp[e]
      have hsz:(#[a.eval r]++args.map a.eval).size=args.size+1:=by simp;omega
      have hgo:(invoke (.fn (.method name) #[]) (#[a.eval r]++args.map a.eval)).run P w=(callFunc f (#[u']++args.map a.eval)).run P w:=by rw[show invoke (.fn (.method name) #[]) (#[a.eval r]++args.map a.eval)=(match(#[a.eval r]++args.map a.eval)[0]? with|some recv=>callMethod recv name ((#[a.eval r]++args.map a.eval).extract 1 (#[a.eval r]++args.map a.eval).size)|none=>stuck "call: a method without a receiver")from by unfold invoke;split<;>simp_all];rw[h0];simp only[hsz,hx,callMethod,Sem.run_bind,run_program,Result.andThen_ok,YM hm u' w]
      have e3:(#[]:Array Value)++(u'::(args.map a.eval).toList).toArray++#[]=#[u']++args.map a.eval:=by apply Array.toList_inj.1;simp
      rw[e3,<-hgo];simp[execOp,resolve]
     ·intro l fs cs e';injection e' with e1 e2 e3;cases e1
    ·cases h
   ·cases h
 ·rename_i hnc;refine QH ?_ (a5V hW h hρ) hn;intro c hx;unfold O7 at h;rw[hx]at h;cases h
end
end Go.Eng
namespace Go.Eng
open Go
variable [PlanTab]
def Grow(W W':AW):Prop:=∀b o,W.get b=some o->W'.get b=some o
theorem Grow.refl(W:AW):Grow W W:=λ_ _ h=>h
theorem Grow.add{W:AW}(hf:W.get W.next=none)(o:AObj):Grow W (W.add o):=λb o' h=>by
 have:W.next≠b:=λe=>by subst e;rw[hf]at h;cases h
 rw[AW.get_add_ne _ _ this];exact h
def OX(o:Oper)(R R':PlanTab.Fr):Prop:=∀x∈o.op.operands,aC R' x=aC R x
theorem XJ{P:Program}{o:Oper}{R R':PlanTab.Fr}(h:OX o R R'):jM P R' o=jM P R o:=by
 unfold jM;have e1:o.op.operands.toList.all (λx=>aX (aC R' x))=o.op.operands.toList.all (λx=>aX (aC R x)):=by rw[Bool.eq_iff_iff];simp only[List.all_eq_true,Array.mem_toList_iff];exact⟨λk x hx=>by rw[<-h x hx];exact k x hx,λk x hx=>by rw[h x hx];exact k x hx⟩
 rw[e1];cases hn:zH o.op with
 |false=>rfl
 |true=>rw[execOp_congr o (λcs b hs=>by rw[hs]at hn;cases hn) (λx hx=>h x hx)]
theorem KQ{P:Program}{W W':AW}{t:TypeId}{x y:Value}(hx:aX x=true):jY P W' t x y=jY P W t x y:=by
 unfold jY;split;case h_3=>simp[aX,jA,bW]at hx
 all_goals first
  |rfl
  |(simp only[*];done)
  |skip
 all_goals(split<;>first|rfl|(simp_all;done)|skip)
theorem Q8{P:Program}{W W':AW}(hg:Grow W W'){t:TypeId}{x y:Value}{b:Bool}(h:jY P W t x y=some b):jY P W' t x y=some b:=by
 unfold jY at h|-;split at h<;>try exact h
 split at h<;>try(cases h;done)
 split at h<;>try(cases h;done)
 rename_i ca cb h1 h2;rw[hg _ _ h1,hg _ _ h2];exact h
theorem DY{W W':AW}(hg:Grow W W'){b:Nat}{cs:List Value}(h:cellsAt W b=some cs):cellsAt W' b=some cs:=by
 unfold cellsAt at h|-;split at h
 ·rename_i cs' h1;rw[hg _ _ h1];exact h
 ·rename_i cs' h1;rw[hg _ _ h1];exact h
 ·rename_i t' cs' h1;rw[hg _ _ h1];exact h
 ·cases h
theorem NS{W W':AW}(hg:Grow W W'){b off n:Nat}{l:List Value}(h:pX W b off n=some l):pX W' b off n=some l:=by
 rw[j5]at h|-;split at h
 ·rename_i cs hc;rw[DY hg hc];exact h
 ·cases h
theorem KU{W W':AW}(hg:Grow W W'){x:Value}{n:Nat}{l:List Value}(h:bA W x n=some l):bA W' x n=some l:=by
 unfold bA at h|-;split at h
 ·exact h
 ·split at h
  ·rename_i h0;rw[if_pos h0];exact h
  ·rename_i h0;rw[if_neg h0];split at h
   ·cases h
   ·rename_i h1;rw[if_neg h1];exact NS hg h
 ·cases h
theorem Z8{P:Program}{W W':AW}(hg:Grow W W'){s d:TypeId}{x v:Value}{alt:Option Value}(h:LQ P W s d x alt=some v):LQ P W' s d x alt=some v:=by
 unfold LQ at h|-;split at h
 ·rename_i a n c;show uS P W' s d (.slice (some a) n c)=some v;unfold uS at h|-;dsimp only at h|-;split at h
  ·rename_i e hs hd;split at h
   ·rename_i he;split at h
    ·rename_i cs hcs;rw[KU hg hcs];exact h
    ·cases h
   ·cases h
  ·cases h
 ·exact h
theorem YZ{P:Program}{W W':AW}(hg:Grow W W'){t:TypeId}{x v:Value}(h:mY P W t x=some v):mY P W' t x=some v:=by
 unfold mY at h|-;split at h
 ·rename_i a;split at h
  ·rename_i ha;split at h
   ·rename_i cs hc;simp only[DY hg hc];exact h
   ·cases h
  ·rename_i ha;split at h
   ·rename_i n hn;cases hr:pX W a.block a.off n with
    |none=>rw[hr]at h;cases h
    |some l=>rw[hr]at h;rw[NS hg hr];exact h
   ·cases h
  ·cases h
 ·cases h
theorem SF{P:Program}{W W':AW}(hg:Grow W W'){t:TypeId}{m k v:Value}{ok:Bool}(h:rH P W t m k ok=some v):rH P W' t m k ok=some v:=by
 unfold rH at h|-;split at h
 ·exact h
 ·rename_i kt e r hu;split at h
  ·rename_i es c hr;simp only[hg _ _ hr];exact h
  ·cases h
 ·cases h
theorem UU{R R':PlanTab.Fr}{ps:Array (Nat×Operand)}(h:∀p∈ps.toList,aC R' p.2=aC R p.2):sG R' ps=sG R ps:=by unfold sG;exact List.map_congr_left λp hp=>by rw[h p hp]
set_option maxHeartbeats 1000000 in
theorem zG{P:Program}{call:Callee}{o:Oper}{R:PlanTab.Fr}{W W1:AW}{v:Value}(hk:iC o<=1)(h:tZ P call o R W=some (v,W1)):
 W1=W/\∀R' W',OX o R R'->(iC o=0\/Grow W W')->tZ P call o R' W'=some (v,W'):=by
 have hmap:∀(x:Option Value),(x.map λv=>(v,W))=some (v,W1)->x=some v/\W1=W:=by
  intro x hx;cases x with
  |none=>cases hx
  |some u=>simp at hx;exact⟨by rw[hx.1],hx.2.symm⟩
 have hpc:∀R',OX o R R'->jM P R' o=jM P R o:=λR' ha=>XJ ha
 obtain⟨dst,op,type,pos,after,guard⟩:=o;cases op<;>simp only[iC]at hk<;>(try(exfalso;omega))<;>simp only[zF,iL,O7]at h|- <;>simp only[OX,Op.operands]at hpc|-;case move x=>injection h with h;injection h with h1 h2;subst h1;subst h2;exact⟨rfl,λR' W' ha _=>by rw[ha x (by simp)]⟩
 case assign x=>injection h with h;injection h with h1 h2;subst h1;subst h2;exact⟨rfl,λR' W' ha _=>by rw[ha x (by simp)]⟩
 case pick c a b=>
  split at h<;>(try(cases h;done))<;>rename_i hcc<;>injection h with h<;>injection h with h1 h2<;>subst h1<;>subst h2<;>
   exact⟨rfl,λR' W' ha _=>by rw[ha c (by simp),ha a (by simp),ha b (by simp),hcc]⟩
 case build t ps=>
  obtain⟨hb,rfl⟩:=hmap _ h;refine⟨rfl,λR' W' ha _=>?_⟩;have:AB P R' t ps=AB P R t ps:=by unfold AB;rw[UU λp hp=>ha p.2 (by simp;exact⟨p.1,by simpa using hp⟩)]
  rw[this,hb];rfl
 case nilCheck x=>
  split at h<;>(try(cases h;done))<;>rename_i hcc<;>injection h with h<;>injection h with h1 h2<;>subst h1<;>subst h2<;>
   exact⟨rfl,λR' W' ha _=>by rw[ha x (by simp),hcc]⟩
 case unOp op t x=>obtain⟨hb,rfl⟩:=hmap _ h;exact⟨rfl,λR' W' ha _=>by rw[hpc R' (λy hy=>ha y hy),hb];rfl⟩
 case convert s d x=>obtain⟨hb,rfl⟩:=hmap _ h;refine⟨rfl,λR' W' ha hg=>?_⟩;have hg':Grow W1 W':=hg.resolve_left (by simp[iC]);rw[ha x (by simp),hpc R' (λy hy=>ha y hy),Z8 hg' hb];rfl
 case makeInterface t x=>
  split at h
  ·cases h
  ·rename_i d hd hu;injection h with h;injection h with h1 h2;subst h1;subst h2;exact⟨rfl,λR' W' ha _=>by rw[ha x (by simp)]⟩
  ·cases h
 case slice t x lo hi mx=>
  have key:∀R',(∀y∈#[x]++lo.toArray++hi.toArray++mx.toArray,aC R' y=aC R y)->iD P t (aC R' x) (lo.map (aC R')) (hi.map (aC R')) (mx.map (aC R'))=iD P t (aC R x) (lo.map (aC R)) (hi.map (aC R)) (mx.map (aC R)):=by
   intro R' ha;have e1:aC R' x=aC R x:=ha x (by simp);have e2:lo.map (aC R')=lo.map (aC R):=by
    cases lo with
    |none=>rfl
    |some y=>simp only[Option.map_some];rw[ha y (by simp)]
   have e3:hi.map (aC R')=hi.map (aC R):=by
    cases hi with
    |none=>rfl
    |some y=>simp only[Option.map_some];rw[ha y (by simp)]
   have e4:mx.map (aC R')=mx.map (aC R):=by
    cases mx with
    |none=>rfl
    |some y=>simp only[Option.map_some];rw[ha y (by simp)]
   rw[e1,e2,e3,e4]
  split at h
  ·rename_i u hs;injection h with h;injection h with h1 h2;subst h1;subst h2;exact⟨rfl,λR' W' ha _=>by rw[key R' (λy hy=>ha y (by simpa using hy)),hs]⟩
  ·rename_i hs;obtain⟨hb,rfl⟩:=hmap _ h;exact⟨rfl,λR' W' ha _=>by rw[key R' (λy hy=>ha y (by simpa using hy)),hs,hpc R' (λy hy=>ha y hy),hb];rfl⟩
 case fieldAddr s x f=>
  split at h
  ·rename_i fs a hu hx0;split at h
   ·rename_i fl hfl;split at h
    ·rename_i n hn;injection h with h;injection h with h1 h2;subst h1;subst h2;exact⟨rfl,λR' W' ha _=>by rw[ha x (by simp)];simp[hu,hx0,hfl,hn]⟩
    ·cases h
   ·cases h
  ·cases h
 case field t x f=>
  split at h
  ·rename_i fs cs hu hx0;split at h
   ·rename_i fl hfl;obtain⟨hb,rfl⟩:=hmap _ h;exact⟨rfl,λR' W' ha _=>by rw[ha x (by simp)];simp[hu,hx0,hfl,hb]⟩
   ·cases h
  ·cases h
 case indexAddr t x i=>
  have:W1=W:=by split at h<;>(try(cases h;done))<;>split at h<;>(try(cases h;done))<;>split at h<;>(try(cases h;done))<;>(injection h with h;injection h with h1 h2;exact h2.symm)
  subst this;refine⟨rfl,λR' W' ha _=>?_⟩;rw[ha x (by simp),ha i (by simp)];split at h<;>(try(cases h;done))<;>rename_i z hz<;>split at h<;>(try(cases h;done))<;>split at h<;>(try(cases h;done))<;>(injection h with h;injection h with h1 h2;simp[*])
 case index t x i=>
  split at h
  ·rename_i len e cs n hu hx0 hi0;split at h
   ·rename_i z hz;split at h
    ·rename_i hlt;obtain⟨hb,rfl⟩:=hmap _ h;exact⟨rfl,λR' W' ha _=>by rw[ha x (by simp),ha i (by simp)];simp[hu,hx0,hi0,hz,hlt,hb]⟩
    ·cases h
   ·cases h
  ·rename_i hno;obtain⟨hb,rfl⟩:=hmap _ h;refine⟨rfl,λR' W' ha _=>?_⟩;rw[ha x (by simp),ha i (by simp)];split
   ·rename_i len e cs n hu hx0 hi0;exact absurd hi0 (by intro hi0;exact hno _ _ _ _ hu hx0 hi0)
   ·rw[hpc R' (λy hy=>ha y hy),hb];rfl
 case extract x i=>
  split at h
  ·rename_i vs hx0;obtain⟨hb,rfl⟩:=hmap _ h;exact⟨rfl,λR' W' ha _=>by rw[ha x (by simp),hx0];simp[hb]⟩
  ·cases h
 case typeAssert x s t ok=>
  split at h
  ·cases h
  ·rename_i hno u v0 hu hx0;split at h
   ·rename_i hut;injection h with h;injection h with h1 h2;subst h1;subst h2;exact⟨rfl,λR' W' ha _=>by rw[ha x (by simp)];simp[hu,hx0,hut]⟩
   ·cases h
  ·cases h
 case load t a=>obtain⟨hb,rfl⟩:=hmap _ h;refine⟨rfl,λR' W' ha hg=>?_⟩;have hg':Grow W1 W':=hg.resolve_left (by simp[iC]);rw[ha a (by simp),YZ hg' hb];rfl
 case lookup t m k ok=>obtain⟨hb,rfl⟩:=hmap _ h;refine⟨rfl,λR' W' ha hg=>?_⟩;have hg':Grow W1 W':=hg.resolve_left (by simp[iC]);rw[ha m (by simp),ha k (by simp),SF hg' hb];rfl
 case makeFunc fn first captured=>
  cases fn<;>(try(simp only[iC]at hk;exfalso;omega));rename_i f0;simp only at h|-;injection h with h;injection h with h1 h2;subst h1;subst h2;refine⟨rfl,λR' W' ha _=>?_⟩;have e1:first.map (aC R')=first.map (aC R):=Array.map_congr_left λy hy=>ha y (by simp[hy])
  have e2:captured.map (aC R')=captured.map (aC R):=Array.map_congr_left λy hy=>ha y (by simp[hy])
  rw[e1,e2]
 case binOp op t x y yt=>
  by_cases hop:op=.eql\/op=.neq
  ·have hne:∀W',(iC (⟨dst,.binOp op t x y yt,type,pos,after,guard⟩:Oper)=0\/Grow W W')->Grow W W':=λW' hg=>hg.resolve_left (by rcases hop with rfl|rfl<;>simp[iC])
   split at h
   ·rename_i u hb;injection h with h;injection h with h1 h2;subst h1;subst h2;refine⟨rfl,λR' W' ha hg=>?_⟩;have hg':=hne W' hg;have:lY P W' op t (aC R x) (aC R y)=some u:=by
     unfold lY at hb|-;split at hb
     ·exact hb
     ·split at hb
      ·cases he:jY P W t (aC R x) (aC R y)with
       |none=>
        rw[he]at hb;cases ht:NG P t (aC R x) (aC R y)with
        |none=>rw[ht]at hb;cases hb
        |some b=>rw[QL ht W',<-ht];rw[ht]at hb|-;exact hb
       |some b=>rw[he]at hb;simp only[Q8 hg' he];exact hb
      ·cases he:jY P W t (aC R x) (aC R y)with
       |none=>
        rw[he]at hb;cases ht:NG P t (aC R x) (aC R y)with
        |none=>rw[ht]at hb;cases hb
        |some b=>rw[QL ht W',<-ht];rw[ht]at hb|-;exact hb
       |some b=>rw[he]at hb;simp only[Q8 hg' he];exact hb
      ·cases hb
    rw[ha x (by simp),ha y (by simp),this]
   ·rename_i hb;obtain⟨hp,rfl⟩:=hmap _ h;refine⟨rfl,λR' W' ha hg=>?_⟩;have hpl:aX (aC R x)=true:=by
     unfold jM at hp;split at hp
     ·rename_i hc;simp only[Bool.and_eq_true,List.all_eq_true,Array.mem_toList_iff]at hc;exact hc.2 x (by simp[Op.operands])
     ·cases hp
    have:lY P W' op t (aC R x) (aC R y)=none:=by
     rw[<-hb];unfold lY;split
     ·rfl
     ·split
      ·rw[KQ hpl]
      ·rw[KQ hpl]
      ·rfl
    rw[ha x (by simp),ha y (by simp),this,hpc R' (λy hy=>ha y hy),hp];rfl
  ·have hsame:∀W',lY P W' op t (aC R x) (aC R y)=lY P W op t (aC R x) (aC R y):=by
    intro W';unfold lY;split
    ·rfl
    ·cases op<;>simp at hop|-
   split at h
   ·rename_i u hb;injection h with h;injection h with h1 h2;subst h1;subst h2;exact⟨rfl,λR' W' ha hg=>by rw[ha x (by simp),ha y (by simp),hsame W',hb]⟩
   ·rename_i hb;obtain⟨hp,rfl⟩:=hmap _ h;exact⟨rfl,λR' W' ha hg=>by rw[ha x (by simp),ha y (by simp),hsame W',hb,hpc R' (λy hy=>ha y hy),hp];rfl⟩
 case call c=>
  obtain⟨callee,args,argTypes⟩:=c;cases callee with
  |value f=>simp only at hk;exfalso;omega
  |invoke r name=>simp only at hk;exfalso;omega
  |builtin b=>
   cases b<;>(try(simp only at hk;exfalso;omega));simp only at h|-;have hargs:∀R',(∀y∈(Call.operands {callee:=.builtin .len,args,argTypes}),aC R' y=aC R y)->args.toList.map (aC R')=args.toList.map (aC R):=λR' ha=>List.map_congr_left λy hy=>ha y (by simp only[Call.operands];simpa using hy)
   unfold jL at h;split at h
   ·rename_i n c hl;split at h
    ·rename_i e hu;injection h with h;injection h with h1 h2;subst h1;subst h2;exact⟨rfl,λR' W' ha hg=>by unfold jL;rw[hargs R' ha,hl];simp only[hu]⟩
    ·cases h
   ·rename_i hl;split at h
    ·rename_i k e hu;injection h with h;injection h with h1 h2;subst h1;subst h2;exact⟨rfl,λR' W' ha hg=>by unfold jL;rw[hargs R' ha,hl];simp only[hu]⟩
    ·cases h
   ·rename_i r hl;split at h
    ·rename_i k e es c hu hr;injection h with h;injection h with h1 h2;subst h1;subst h2;refine⟨rfl,λR' W' ha hg=>?_⟩;have hg':Grow W W':=hg.resolve_left (by simp[iC]);unfold jL;rw[hargs R' ha,hl];simp only[hu,hg' _ _ hr]
    ·cases h
   ·rename_i hb hl;cases hb
   ·rename_i hb hl;cases hb
   ·rename_i hb hl;cases hb
   ·rename_i hb hl;cases hb
   ·rename_i hb hl;cases hb
   ·rename_i hb hl;cases hb
   ·rename_i h1 h2 h3 _ _ _ _ _ _;obtain⟨hp,rfl⟩:=hmap _ h;refine⟨rfl,λR' W' ha hg=>?_⟩;unfold jL;rw[hargs R' ha];split
    ·rename_i hl;exact absurd hl (h1 _ _ _ rfl)
    ·rename_i hl;exact absurd hl (h2 rfl)
    ·rename_i hl;exact absurd hl (h3 _ rfl)
    ·rename_i hb hl;cases hb
    ·rename_i hb hl;cases hb
    ·rename_i hb hl;cases hb
    ·rename_i hb hl;cases hb
    ·rename_i hb hl;cases hb
    ·rename_i hb hl;cases hb
    ·rw[hpc R' (λy hy=>ha y hy),hp];rfl
end Go.Eng
namespace Go.Eng
open Go
variable [PlanTab]
theorem vL{P:Program}{σ:bQ}{b:Nat}(hb:σ b=none)(w:World)(t:TypeId){cs cs':List Value}(hc:LR σ cs cs'):
 (newRow t cs'.toArray).run P w=.ok ⟨w.heap.size,0,none⟩ {w with heap:=w.heap.push (.cells cs'.toArray t)}/\
 ORel (bB σ b ⟨w.heap.size,0,cs.length⟩) (w.heap.push (.cells cs'.toArray t)) ⟨w.heap.size,0,cs.length⟩ (.cells cs):=by
 refine⟨by simp[newRow],⟨cs'.toArray,t,(0,0),by simp,λ_=>rfl,by simp,by simp[hc.1],λi v hv=>?_⟩⟩;obtain⟨v',a,b⟩:=hc.get hv;exact⟨v',by simpa using a,b.mono (dA hb)⟩
def Lays(P:Program)(R:PlanTab.Fr)(o:Oper)(obj:AObj)(mk:Nat->Value):Prop:=
 ∀(σ:bQ) (ρ:Operand->Value) (w:World) (b:Nat),(∀x∈o.op.operands,VR σ (aC R x) (ρ x))->σ b=none->
  ∃v' x e,(execOp ρ o).run P w=.ok (.value v') {w with heap:=w.heap.push x}/\VR (bB σ b ⟨w.heap.size,0,e⟩) (mk b) v'/\ORel (bB σ b ⟨w.heap.size,0,e⟩) (w.heap.push x) ⟨w.heap.size,0,e⟩ obj
theorem Lays.agree{P:Program}{R R':PlanTab.Fr}{o:Oper}{obj:AObj}{mk:Nat->Value}(h:Lays P R o obj mk)(ha:OX o R R'):Lays P R' o obj mk:=
 λσ ρ w b hρ hb=>h σ ρ w b (λx hx=>by rw[<-ha x hx];exact hρ x hx) hb
theorem a3h{P:Program}{R:PlanTab.Fr}{o:Oper}{t:TypeId}{cs:List Value}(h:∀(σ:bQ) (ρ:Operand->Value) (w:World),(∀x∈o.op.operands,VR σ (aC R x) (ρ x))->
 ∃cs',LR σ cs cs'/\(execOp ρ o).run P w=((do pure (.value (.pointer (some (<-newRow t cs'.toArray))))):Sem Next).run P w):
 Lays P R o (.cells cs) (λb=>.pointer (some ⟨b,0,none⟩)):=by
 intro σ ρ w b hρ hb;obtain⟨cs',hc,hr⟩:=h σ ρ w hρ;obtain⟨h1,h2⟩:=vL (P:=P) hb w t hc;refine⟨.pointer (some ⟨w.heap.size,0,none⟩),.cells cs'.toArray t,cs.length,by rw[hr];simp only[Sem.run_bind,h1,Result.andThen_ok,Sem.run_pure],?_,h2⟩;have:=VR.ptr (σ:=bB σ b ⟨w.heap.size,0,cs.length⟩) ⟨b,0,none⟩ _ cZ rfl;simpa using this
theorem a1C{P:Program}{R:PlanTab.Fr}{o:Oper}{t:TypeId}{cs:List Value}(h:∀(σ:bQ) (ρ:Operand->Value) (w:World),(∀x∈o.op.operands,VR σ (aC R x) (ρ x))->
 ∃cs',LR σ cs cs'/\(execOp ρ o).run P w=((do pure (.value (.pointer (some (<-newRow t cs'.toArray))))):Sem Next).run P w):
 Lays P R o (qL t cs) (λb=>.pointer (some ⟨b,0,none⟩)):=by
 intro σ ρ w b hρ hb;obtain⟨cs',hc,hr⟩:=h σ ρ w hρ;obtain⟨h1,_⟩:=vL (P:=P) hb w t hc;refine⟨.pointer (some ⟨w.heap.size,0,none⟩),.cells cs'.toArray t,cs.length,by rw[hr];simp only[Sem.run_bind,h1,Result.andThen_ok,Sem.run_pure],?_,MB (hc.mono (dA hb)) (by simp)⟩;have:=VR.ptr (σ:=bB σ b ⟨w.heap.size,0,cs.length⟩) ⟨b,0,none⟩ _ cZ rfl;simpa using this
set_option maxHeartbeats 1000000 in
theorem a4x{P:Program}{call:Callee}{o:Oper}{R:PlanTab.Fr}{W W1:AW}{v:Value}(hk:iC o=2)(h:tZ P call o R W=some (v,W1)):
 ∃obj mk,(∀cs,obj≠ .ro cs)/\v=mk W.next/\W1=W.add obj/\Lays P R o obj mk:=by
 obtain⟨dst,op,type,pos,after,guard⟩:=o;cases op<;>simp only[iC]at hk<;>(try(exfalso;omega))<;>simp only[zF,iL,O7]at h;case alloc t=>
  split at h
  ·rename_i z hz;injection h with h;rw[AW.new_eq]at h;injection h with h1 h2;refine⟨qL t z.cells.toList,λb=>.pointer (some ⟨b,0,none⟩),QG t _,h1.symm,h2.symm,a1C (t:=t) λσ ρ w hρ=>?_⟩;obtain⟨hz1,hz2⟩:=gY hz w;refine⟨z.cells.toList,JQ hz2,?_⟩;simp[execOp,Instr.alloc,hz1,newVar]
  ·cases h
 case box t x=>injection h with h;rw[AW.new_eq]at h;injection h with h1 h2;refine⟨.cells (aC R x).cells.toList,λb=>.pointer (some ⟨b,0,none⟩),λ_=>by simp,h1.symm,h2.symm,a3h (t:=t) λσ ρ w hρ=>?_⟩;refine⟨(ρ x).cells.toList,(hρ x (by simp[Op.operands])).cells,?_⟩;simp[execOp,Instr.box,newVar]
 case buildSlice t len ps=>
  replace h:=wT h;unfold qX at h;split at h
  ·rename_i e hu;split at h
   ·rename_i n z hn hz;split at h
    ·rename_i hc;obtain⟨hc1,hc2,hc3⟩:=hc;split at h
     ·rename_i c hf;injection h with h;rw[AW.new_eq]at h;injection h with h1 h2;refine⟨.cells c.toList,λb=>.slice (some ⟨b,0,none⟩) len len,λ_=>by simp,h1.symm,h2.symm,?_⟩;intro σ ρ w b hρ hb;have hp:=GR (σ:=σ) (R:=R) (ρ:=ρ) ps (λp hp=>hρ p.2 (by simp[Op.operands];exact⟨p.1,by simpa using hp⟩));obtain⟨hz1,hz2⟩:=gY hz w;obtain⟨out',h1,h2⟩:=C8 _ _ _ _ _ _ hp (LR.refl_of (σ:=σ) (λ_=>eD) hc3) hf;obtain⟨k1,k2⟩:=vL (P:=P) hb w e (cs:=c.toList) (cs':=out'.toList) h2;refine⟨.slice (some ⟨w.heap.size,0,none⟩) len len,.cells out'.toList.toArray e,c.toList.length,?_,?_,k2⟩
      ·have hlim:¬len*n>2^ 24:=by omega
       simp only[Array.toArray_toList]at k1;have:(Instr.buildSlice t len (ps.map λ(i,x)=>(i,ρ x))).run P w=.ok (.slice (some ⟨w.heap.size,0,none⟩) len len) {w with heap:=w.heap.push (.cells out' e)}:=by
        by_cases h0:len*n=0
        ·rw[vD h0]at h1;simp only[Instr.buildSlice,Sem.run_bind,run_underlying hu,Result.andThen_ok,aS hn,if_neg hlim,Sem.run_pure,if_pos h0];rw[show(Array.map (λx=>(#[]:Array Value)[x % (#[]:Array Value).size]!) (Array.range (len*n)))=#[]by rw[h0];simp,h1];simp[k1]
        ·rw[zB h0]at h1;simp only[Instr.buildSlice,Sem.run_bind,run_underlying hu,Result.andThen_ok,aS hn,if_neg hlim,Sem.run_pure,if_neg h0,hz1];rw[show(Array.map (λx=>z.cells[x % z.cells.size]!) (Array.range (len*n)))=TY z (len*n)from rfl,h1];simp[k1]
       simp only[execOp,Sem.run_bind,this,Result.andThen_ok,Sem.run_pure,Array.toArray_toList]
      ·have:=VR.slice (σ:=bB σ b ⟨w.heap.size,0,c.toList.length⟩) ⟨b,0,none⟩ len len len _ cZ rfl (.known len hc2);simpa using this
     ·cases h
    ·cases h
   ·cases h
  ·cases h
 case makeSlice t l c=>
  unfold oQ at h;split at h
  ·rename_i e hu;split at h
   ·rename_i n z bytes kl l0 kc c0 hn hz hbt hel hec;split at h
    ·rename_i hcond;obtain⟨c1,c2,c3,c4⟩:=hcond;injection h with h;rw[AW.new_eq]at h;injection h with h1 h2;refine⟨.cells (kH z (c0*n)).toList,λb=>.slice (some ⟨b,0,none⟩) l0 c0,λ_=>by simp,h1.symm,h2.symm,?_⟩;intro σ ρ w b hρ hb;have hl:=hρ l (by simp[Op.operands]);have hc:=hρ c (by simp[Op.operands]);rw[hel]at hl;rw[hec]at hc;have hl':=hl.int_inv;have hc':=hc.int_inv;obtain⟨hz1,hz2⟩:=gY hz w;have hi:∃i,P.info? e=some i/\i.bytes=bytes:=by
      cases hi:P.info? e with
      |none=>rw[hi]at hbt;cases hbt
      |some i=>rw[hi]at hbt;simp at hbt;exact⟨i,rfl,hbt⟩
     obtain⟨i,hi,hib⟩:=hi;have hrow:LR σ (kH z (c0*n)).toList (kH z (c0*n)).toList:=LR.refl_of (λ_=>eD) c4;obtain⟨k1,k2⟩:=vL (P:=P) hb w e hrow;refine⟨.slice (some ⟨w.heap.size,0,none⟩) l0 c0,.cells (kH z (c0*n)).toList.toArray e,_,?_,?_,k2⟩
     ·have:(Instr.makeSlice t (ρ l) (ρ c)).run P w=.ok (.slice (some ⟨w.heap.size,0,none⟩) l0 c0) {w with heap:=w.heap.push (.cells (kH z (c0*n)).toList.toArray e)}:=by
       rw[hl',hc'];have hwl:IntKind.i64.wrap (Int.ofNat l0)=(l0:Int):=EF (by omega);have hwc:IntKind.i64.wrap (Int.ofNat c0)=(c0:Int):=EF c2;have hinfo:(typeInfo e).run P w=.ok i w:=by simp[typeInfo,hi]
       have hmul:(bytes:Int)*(c0:Int)<=281474976710656:=by
        have:((c0*bytes:Nat):Int)<=281474976710656:=by omega
        rw[Int.natCast_mul,Int.mul_comm]at this;exact this
       simp only[Array.toArray_toList]at k1;have hcond2:¬(((decide ((c0:Int)<0)||decide ((i.bytes:Int)*(c0:Int)>2^ 48))||decide ((l0:Int)<0)||decide ((l0:Int)>(c0:Int)))=true):=by rw[hib];simp;omega
       simp only[Instr.makeSlice,Sem.run_bind,run_underlying hu,Result.andThen_ok,asInt,asIntOf,Sem.run_pure,hinfo,hwl,hwc,aS hn];rw[if_neg (by simpa using hcond2)];by_cases h0:c0*n=0
       ·rw[vD h0]at k1|-;simp only[Sem.run_bind,run_askRoom,Result.andThen_ok,Int.toNat_natCast,aS hn,if_pos h0,Sem.run_pure];rw[show(Array.map (λx=>(#[]:Array Value)[x % (#[]:Array Value).size]!) (Array.range (c0*n)))=#[]by rw[h0];simp,k1];simp
       ·rw[zB h0]at k1|-;simp only[Sem.run_bind,run_askRoom,Result.andThen_ok,Int.toNat_natCast,aS hn,if_neg h0,hz1,Sem.run_pure];rw[show(Array.map (λx=>z.cells[x % z.cells.size]!) (Array.range (c0*n)))=TY z (c0*n)from rfl,k1];simp
      simp only[execOp,Sem.run_bind,this,Result.andThen_ok,Sem.run_pure]
     ·have:=VR.slice (σ:=bB σ b ⟨w.heap.size,0,(kH z (c0*n)).toList.length⟩) ⟨b,0,none⟩ l0 c0 c0 _ cZ rfl (.known c0 (by unfold bS;omega));simpa using this
    ·cases h
   ·cases h
  ·cases h
 case binOp op t x y yt=>split at hk<;>omega
 case makeFunc fn a b=>cases fn<;>simp only[iC]at hk<;>omega
 case call c=>obtain⟨callee,args,argTypes⟩:=c;cases callee<;>simp only at hk<;>(try omega);rename_i b;cases b<;>simp only at hk<;>omega
section
variable {σ:bQ} {W:AW} {w:World}
theorem WRel.ghost(h:WRel σ W w.heap)(o:AObj):WRel σ (W.add o) w.heap:=by
 have hne:∀{c:Nat} {g:Seg},σ c=some g->c≠W.next:=λhc e=>by have:=(h.dom _ _ hc).1;omega
 refine⟨?_,?_,?_,?_⟩
 ·intro c hc;have hc':W.next+1<=c:=hc;rw[AW.get_add_ne _ _ (by omega)];exact h.free c (by omega)
 ·intro c g hc;have:=h.dom c g hc;simp only[AW.add_next];omega
 ·intro c o2 g hc hg;rw[AW.get_add_ne _ _ (Ne.symm (hne hg))]at hc;exact h.obj c o2 g hc hg
 ·intro b1 b2 o1 o2 g1 g2 hbb h1 h2 k1 k2 hr;rw[AW.get_add_ne _ _ (Ne.symm (hne k1))]at h1;rw[AW.get_add_ne _ _ (Ne.symm (hne k2))]at h2;exact h.disj _ _ _ _ _ _ hbb h1 h2 k1 k2 hr
theorem WRel.bind(h:WRel σ W w.heap){b e:Nat}{o:AObj}{x:Obj}(hb:W.get b=some o)(hfr:σ b=none)
 (hnew:ORel (bB σ b ⟨w.heap.size,0,e⟩) (w.heap.push x) ⟨w.heap.size,0,e⟩ o):
 WRel (bB σ b ⟨w.heap.size,0,e⟩) W (w.heap.push x):=by
 have hs:Sub σ (bB σ b ⟨w.heap.size,0,e⟩):=dA hfr;have hold:∀B,B<w.heap.size->(w.heap.push x)[B]? =w.heap[B]? :=λB hB=>by rw[Array.getElem?_push];rw[if_neg (by omega)]
 have hinv:∀c g,bB σ b ⟨w.heap.size,0,e⟩ c=some g->(c=b/\g=⟨w.heap.size,0,e⟩)\/(c≠b/\σ c=some g):=λc g hc=>by
  unfold bB at hc;split at hc
  ·rename_i hx;injection hc with hc;exact .inl ⟨hx,hc.symm⟩
  ·rename_i hx;exact .inr ⟨hx,hc⟩
 have hbn:b<W.next:=by
  rcases Nat.lt_or_ge b W.next with h1|h1
  ·exact h1
  ·rw[h.free b h1]at hb;cases hb
 refine⟨h.free,?_,?_,?_⟩
 ·intro c g hc;rcases hinv c g hc with⟨rfl,rfl⟩|⟨_,h2⟩
  ·exact⟨hbn,by simp⟩
  ·have:=h.dom c g h2;simp;omega
 ·intro c o2 g hc hk;rcases hinv c g hk with⟨rfl,rfl⟩|⟨h1,h2⟩
  ·rw[hb]at hc;injection hc with hc;subst hc;exact hnew
  ·exact((h.obj c o2 g hc h2).mono hs).same (hold _ (h.dom c g h2).2)
 ·intro b1 b2 o1 o2 g1 g2 hbb h1 h2 k1 k2 hr;rcases hinv b1 g1 k1 with⟨rfl,rfl⟩|⟨x1,y1⟩
  ·rcases hinv b2 g2 k2 with⟨rfl,rfl⟩|⟨x2,y2⟩
   ·exact absurd rfl hbb
   ·have:=(h.dom _ _ y2).2;exact .inl (by simp only[ne_eq];omega)
  ·rcases hinv b2 g2 k2 with⟨rfl,rfl⟩|⟨x2,y2⟩
   ·have:=(h.dom _ _ y1).2;exact .inl (by simp only[ne_eq];omega)
   ·exact h.disj _ _ _ _ _ _ hbb h1 h2 y1 y2 hr
theorem Ext.ghost_add{σ0:bQ}{W0:AW}{w0:World}(h:Ext σ0 W0 w0 σ W w)(hw:W.get W.next=none)(o:AObj):Ext σ0 W0 w0 σ (W.add o) w:=
 ⟨h.sub,λb cs x=>by
   have h1:=h.ro b cs x;have:W.next≠b:=λe=>by subst e;rw[hw]at h1;cases h1
   rw[AW.get_add_ne _ _ this];exact h1,
   h.size,h.os,h.tape,h.output,h.keep,λb o2 h1 h2=>by
    obtain⟨a1,a2⟩:=h.ghost b o2 h1 h2;have:W.next≠b:=λe=>by subst e;rw[hw]at a1;cases a1
    exact⟨by rw[AW.get_add_ne _ _ this];exact a1,a2⟩,h.grow⟩
theorem Ext.bind{σ0:bQ}{W0:AW}{w0:World}(h:Ext σ0 W0 w0 σ W w){b e:Nat}(hfr:σ b=none)(h0:W0.get b=none){x:Obj}{o:AObj}(hnew:ORel (bB σ b ⟨w.heap.size,0,e⟩) (w.heap.push x) ⟨w.heap.size,0,e⟩ o)(hro:∀cs,o≠ .ro cs):
 Ext σ0 W0 w0 (bB σ b ⟨w.heap.size,0,e⟩) W {w with heap:=w.heap.push x}:=by
 have hs:Sub σ (bB σ b ⟨w.heap.size,0,e⟩):=dA hfr;refine⟨h.sub.trans hs,h.ro,by have:=h.size;simp;omega,h.os,h.tape,h.output,?_,?_,?_⟩
 ·intro B hB hm;rw[<-h.keep B hB hm];have:=h.size;show(w.heap.push x)[B]? =_;rw[Array.getElem?_push,if_neg (by omega)]
 ·intro c o2 h1 h2;obtain⟨a1,a2⟩:=h.ghost c o2 h1 h2;have:c≠b:=λe=>by subst e;rw[h0]at h1;cases h1
  exact⟨a1,by unfold bB;rw[if_neg this];exact a2⟩
 ·intro c g hk hB;unfold bB at hk;split at hk
  ·injection hk with hk;subst hk;have:=h.size;simp at hB;omega
  ·exact h.grow c g hk hB
end
end Go.Eng
namespace Go.Eng
open Go
variable [PlanTab]
theorem a0I{d:Option Tmp}{l:List Tmp}:WV d l=true<->∃t,d=some t/\t∈l:=by
 cases d with
 |none=>simp[WV]
 |some d=>simp[WV,EM]
theorem uB{d:Option Tmp}{l:List Tmp}(h:WV d l=false){t:Tmp}(ht:d=some t):t∉l:=λhm=>by have:=a0I.2 ⟨t,ht,hm⟩;rw[h]at this;cases this
noncomputable def iQ(ops:Array Oper)(R:PlanTab.Fr)(o:Oper):Bool:=
 match o.guard with
 |none=>true
 |some (j,w)=>match(ops[j]?).bind (·.dst)with
  |some t=>(match dP R t with|.bool b=>b==w|_=>false)
  |none=>false
theorem W9{ops:Array Oper}{o:Oper}{t:Tmp}(h:Operand.tmp t∈o.op.operands):t∈o.looksAt ops:=by unfold Oper.looksAt;refine List.mem_append.2 (.inl (List.mem_filterMap.2 ⟨.tmp t,by simpa using h,rfl⟩))
theorem IK{ops:Array Oper}{o:Oper}{j:Nat}{w:Bool}{t:Tmp}(h:o.guard=some (j,w))(ht:(ops[j]?).bind (·.dst)=some t):t∈o.looksAt ops:=by unfold Oper.looksAt;refine List.mem_append.2 (.inr ?_);rw[h];simp only;rw[ht];simp
theorem XL{R R':PlanTab.Fr}{x:Operand}(h:∀t,x=.tmp t->dP R' t=dP R t):aC R' x=aC R x:=by
 cases x with
 |tmp t=>exact h t rfl
 |_=>rfl
theorem CV{ops:Array Oper}{o:Oper}{R R':PlanTab.Fr}(h:∀t∈o.looksAt ops,dP R' t=dP R t):OX o R R'/\iQ ops R' o=iQ ops R o:=by
 refine⟨λx hx=>XL λt ht=>h t (W9 (by rw[<-ht];exact hx)),?_⟩;unfold iQ;split
 ·rfl
 ·rename_i j w hg;split
  ·rename_i t ht;rw[h t (IK hg ht)]
  ·rfl
theorem VR.bool_back{σ:bQ}{v:Value}{b:Bool}(h:VR σ v (.bool b)):v=.bool b:=by cases h;rfl
theorem GK{ops:Array Oper}{o:Oper}{σ:bQ}{R:PlanTab.Fr}{a:Act}(h:∀t∈o.looksAt ops,VR σ (dP R t) (a.tmps.getD t undef)):
 Region.wanted o (yielded ops a.tmps)=iQ ops R o:=by
 unfold Region.wanted iQ;cases hg:o.guard with
 |none=>rfl
 |some jw=>
  obtain⟨j,w⟩:=jw;simp only;unfold yielded;cases ht:(ops[j]?).bind (·.dst)with
  |none=>rfl
  |some t=>
   have hv:=h t (IK hg ht);simp only[Option.bind_some];cases hq:a.tmps[t]? with
   |none=>
    have he:a.tmps.getD t undef=undef:=by simp[hq]
    rw[he]at hv;have:∀b,dP R t≠ .bool b:=λb hb=>by rw[hb]at hv;have:=hv.bool_inv;simp[undef]at this
    simp only;first
     |rfl
     |(split
       ·rename_i b hb;exact absurd hb (this b)
       ·rfl)
   |some u=>
    have he:a.tmps.getD t undef=u:=by simp[hq]
    rw[he]at hv;cases hr:dP R t with
    |bool b=>rw[hr]at hv;have:=hv.bool_inv;subst this;simp
    |_=>
     simp only;split
     ·rename_i b hb;injection hb with hb;subst hb;have:=hv.bool_back;rw[hr]at this;cases this
     ·rfl
noncomputable def lQ(P:Program)(call:Callee)(ops:Array Oper)(o:Oper)(R:PlanTab.Fr)(W:AW):Option (PlanTab.Fr×AW):=
 if iQ ops R o then
  match tZ P call o R W with
  |some (v,W')=>some (dR R o.dst v,W')
  |none=>none
 else some (dR R o.dst undef,W)
noncomputable def sQ(P:Program)(call:Callee)(ops:Array Oper):List Oper->PlanTab.Fr->AW->Option (PlanTab.Fr×AW)
 |[],R,W=>some (R,W)
 |o::l,R,W=>match lQ P call ops o R W with
  |some (R',W')=>sQ P call ops l R' W'
  |none=>none
def JL(a b:ByteArray):Bool:=decide (a.data.toList=b.data.toList)
def GQ(a b:Addr):Bool:=Nat.beq a.block b.block&&Nat.beq a.off b.off&&a.spot.isNone&&b.spot.isNone
def XQ:Value->Value->Bool
 |.bool a,.bool b=>a==b
 |.int k a,.int j b=>decide (k=j)&&decide (a=b)
 |.string a,.string b=>JL a b
 |.pointer none,.pointer none=>true
 |.pointer (some a),.pointer (some b)=>GQ a b
 |.slice none l c,.slice none l' c'=>Nat.beq l l'&&Nat.beq c c'
 |.slice (some a) l c,.slice (some b) l' c'=>GQ a b&&Nat.beq l l'&&Nat.beq c c'
 |.map none,.map none=>true
 |.map (some a),.map (some b)=>Nat.beq a b
 |.nilFunc,.nilFunc=>true
 |.nilIface,.nilIface=>true
 |_,_=>false
def vsL:List Value->List Value->Bool
 |[],[]=>true
 |a::l,b::m=>XQ a b&&vsL l m
 |_,_=>false
def vsame:Value->Value->Bool
 |.agg a,.agg b=>vsL a.toList b.toList
 |.tuple a,.tuple b=>vsL a.toList b.toList
 |.iface t a,.iface u b=>Nat.beq t u&&XQ a b
 |a,b=>XQ a b
theorem KI{a b:ByteArray}(h:JL a b=true):a=b:=by have:=of_decide_eq_true h;cases a;cases b;simp only[ByteArray.mk.injEq];exact Array.toList_inj.1 this
theorem PO{a b:Addr}(h:GQ a b=true):a=b:=by simp only[GQ,Bool.and_eq_true,Nat.beq_eq]at h;obtain⟨⟨⟨h1,h2⟩,h3⟩,h4⟩:=h;obtain⟨b1,o1,s1⟩:=a;obtain⟨b2,o2,s2⟩:=b;cases s1<;>cases s2<;>simp_all
theorem YW{a b:Value}(h:XQ a b=true):a=b:=by
 unfold XQ at h;split at h<;>first
  |rfl
  |(simp at h;done)
  |(simp only[Bool.and_eq_true,Nat.beq_eq,beq_iff_eq,decide_eq_true_eq]at h;simp[h];done)
  |(rw[KI h];done)
  |(rw[PO h];done)
  |(simp only[Bool.and_eq_true,Nat.beq_eq]at h;obtain⟨⟨h1,h2⟩,h3⟩:=h;rw[PO h1,h2,h3];done)
theorem a4Y{a b:List Value}(h:vsL a b=true):a=b:=by
 induction a generalizing b with
 |nil=>cases b with|nil=>rfl|cons x l=>cases h
 |cons x l ih=>
  cases b with
  |nil=>cases h
  |cons y m=>simp only[vsL,Bool.and_eq_true]at h;rw[YW h.1,ih h.2]
theorem a4X{a b:Value}(h:vsame a b=true):a=b:=by
 unfold vsame at h;split at h
 ·rw[Array.toList_inj.1 (a4Y h)]
 ·rw[Array.toList_inj.1 (a4Y h)]
 ·simp only[Bool.and_eq_true,Nat.beq_eq]at h;rw[h.1,YW h.2]
 ·exact YW h
noncomputable def tL(P:Program)(call:Callee)(ops:Array Oper)(R:PlanTab.Fr)(W:AW)(j:Nat):Bool:=
 match ops[j]? with
 |none=>false
 |some o=>if iQ ops R o then
  match tZ P call o R W with
  |some (v,_)=>(match o.dst with|some t=>vsame v (dP R t)|none=>true)
  |none=>false
  else true
noncomputable def kT(P:Program)(call:Callee)(ops:Array Oper):List (Nat×List Nat)->PlanTab.Fr->AW->Option (PlanTab.Fr×AW)
 |[],R,W=>some (R,W)
 |(i,re)::l,R,W=>match ops[i]? with
  |none=>none
  |some o=>match lQ P call ops o R W with
   |some (R',W')=>if re.all (tL P call ops R' W')then kT P call ops l R' W' else none
   |none=>none
theorem ZL{P:Program}{call:Callee}{ops:Array Oper}:∀(l:List Nat) (R:PlanTab.Fr) (W:AW),(∀i∈l,i<ops.size)->
 kT P call ops (l.map λi=>(i,[])) R W=sQ P call ops (l.filterMap λi=>ops[i]?) R W:=by
 intro l;induction l with
 |nil=>intro R W _;rfl
 |cons i l ih=>
  intro R W h;have hi:i<ops.size:=h i (by simp);have hg:ops[i]? =some ops[i]:=Array.getElem?_eq_getElem hi;simp only[List.map_cons,kT,hg,List.filterMap_cons,sQ];split
  ·rename_i R' W' hs;simp only[List.all_nil,if_true];exact ih R' W' λj hj=>h j (by simp[hj])
  ·rfl
theorem nH{R:PlanTab.Fr}{d:Option Tmp}{v:Value}{t:Tmp}(h:d≠some t):dP (dR R d v) t=dP R t:=by
 cases d with
 |none=>rfl
 |some d=>exact vP R v (λe=>h (by rw[e]))
theorem zC{R:PlanTab.Fr}{d:Option Tmp}{v:Value}{t:Tmp}(h:d=some t):dP (dR R d v) t=v:=by subst h;exact F9 R t v
theorem I9{a:Act}{d:Option Tmp}{v:Value}{t:Tmp}(h:d≠some t):(a.put d v).tmps.getD t undef=a.tmps.getD t undef:=by
 cases d with
 |none=>rfl
 |some d=>
  have:d≠t:=λe=>h (by rw[e])
  simp[Act.put,Array.getElem?_setIfInBounds_ne this]
theorem WU{a:Act}{d:Option Tmp}{v:Value}{t:Tmp}(h:d=some t)(ht:t<a.tmps.size):(a.put d v).tmps.getD t undef=v:=by subst h;simp[Act.put,Array.getElem?_setIfInBounds,ht]
theorem KO{a:Act}{d:Option Tmp}{v:Value}:(a.put d v).tmps.size=a.tmps.size:=by cases d<;>simp[Act.put]
end Go.Eng
namespace Go.Eng
open Go
variable [PlanTab]
theorem a0V{a b:Nat}(h:Nat.beq a b=false):a≠b:=λe=>by rw[e,Nat.beq_refl]at h;cases h
theorem a5P{A:List Nat}{o:Oper}{j:Nat}(h:Nat.testBit (xG A o) j=true):
 ∃e∈o.after,Region.binds .any e=true/\(j=e.on\/Nat.testBit (A.getD e.on 0) j=true):=by
 have key:∀l:List Edge,Nat.testBit (l.foldr (λe m=>if Region.binds .any e then Nat.lor (Nat.lor (2^ e.on) (A.getD e.on 0)) m else m) 0) j=true->
  ∃e∈l,Region.binds .any e=true/\(j=e.on\/Nat.testBit (A.getD e.on 0) j=true):=by
  intro l;induction l with
  |nil=>intro h;simp at h
  |cons e l ih=>
   intro h;simp only[List.foldr_cons]at h;split at h
   ·rename_i hb;have h':Nat.testBit ((2^ e.on|||A.getD e.on 0)|||(l.foldr (λe m=>if Region.binds .any e then Nat.lor (Nat.lor (2^ e.on) (A.getD e.on 0)) m else m) 0)) j=true:=h;rw[Nat.testBit_or,Nat.testBit_or,Bool.or_eq_true,Bool.or_eq_true]at h';rcases h' with(h1|h1)|h1
    ·rw[Nat.testBit_two_pow]at h1;exact⟨e,by simp,hb,.inl (of_decide_eq_true h1).symm⟩
    ·exact⟨e,by simp,hb,.inr h1⟩
    ·obtain⟨e',a,b⟩:=ih h1;exact⟨e',by simp[a],b⟩
   ·obtain⟨e',a,b⟩:=ih h;exact⟨e',by simp[a],b⟩
 obtain⟨e,a,b⟩:=key o.after.toList h;exact⟨e,by simpa using a,b⟩
structure Head (ops:Array Oper) (A:List Nat) (pre:List Did) (i:Nat) (re:List Nat) (rest:List (Nat×List Nat)) (o:Oper) (e:Bool):Prop where
 op:ops[i]? =some o
 early:e=true->iC o<3/\WV o.dst (o.looksAt ops)=false/\∀d∈pre,WV o.dst (kU ops d.o)=false
 new:∀d∈pre,d.i≠i
 top:∀ed∈o.after,Region.binds .any ed=true->∃d∈pre,d.i=ed.on
 held:∀d∈pre,d.early=true->Nat.testBit (A.getD i 0) d.i=true\/(WV d.o.dst (o.looksAt ops)=false/\(e=true\/(WV o.dst (kU ops d.o)=false/\(iC d.o=0\/iC d.o=2\/d.i∈re))))
 last:e=true\/∀k∈rest,∃ok,ops[k.1]? =some ok/\∃ed∈ok.after,Region.binds .any ed=true/\∀d∈pre,d.i≠ed.on
 go:GM ops A (⟨i,o,e⟩::pre) rest=true
theorem I6{ops:Array Oper}{A:List Nat}{pre:List Did}{i:Nat}{re:List Nat}{rest:List (Nat×List Nat)}(h:GM ops A pre ((i,re)::rest)=true):
 ∃o e,Head ops A pre i re rest o e:=by
 unfold GM at h;split at h
 ·cases h
 ·rename_i o ho;simp only[Bool.and_eq_true]at h;obtain⟨⟨⟨⟨h1,h2⟩,h3⟩,h4⟩,h5⟩:=h;refine⟨o,_,⟨ho,?_,?_,?_,?_,?_,h5⟩⟩
  ·intro he;simp only[Bool.and_eq_true,List.all_eq_true,Bool.not_eq_true']at he;obtain⟨⟨a,b⟩,c⟩:=he;exact⟨by simpa[Nat.blt_eq]using a,b,c⟩
  ·intro d hd;rw[List.all_eq_true]at h1;have:=h1 d hd;exact a0V (by simpa only[Bool.not_eq_true']using this)
  ·intro ed hed hb;rw[List.all_eq_true]at h2;have:=h2 ed (by simpa using hed);rw[hb]at this;simpa using this
  ·intro d hd hde;rw[List.all_eq_true]at h3;have:=h3 d hd;rw[hde]at this;simp only[Bool.not_true,Bool.false_or,Bool.or_eq_true,Bool.and_eq_true,Bool.not_eq_true',Nat.beq_eq,EM,or_assoc]at this;simpa only[Bool.and_eq_true,Bool.not_eq_true',or_assoc]using this
  ·rw[Bool.or_eq_true]at h4;refine h4.imp id λh4=>?_
   intro k hk;rw[List.all_eq_true]at h4;have:=h4 k hk;split at this
   ·rename_i ok hok;rw[List.any_eq_true]at this;obtain⟨ed,hed,hq⟩:=this;simp only[Bool.and_eq_true,List.all_eq_true,Bool.not_eq_true']at hq;refine⟨ok,hok,ed,by simpa using hed,hq.1,λd hd=>?_⟩;have:=hq.2 d hd;exact a0V this
   ·cases this
section
variable {P:Program} {call:Callee} {ops:Array Oper} {A:List Nat} {nt:Nat} {ng:List Nat} {σ0:bQ} {W0:AW} {w0:World} {ds:List Deferred}
def Held(P:Program)(call:Callee)(ops:Array Oper)(W0:AW)(bd:Nat->Option Nat)(σ:bQ)(R:PlanTab.Fr)(W:AW)(d:Did):Prop:=
 (iQ ops R d.o=false/\bd d.i=none/\∀t,d.o.dst=some t->dP R t=undef)\/
 (iQ ops R d.o=true/\bd d.i=none/\iC d.o<=1/\∃v,tZ P call d.o R W=some (v,W)/\∀t,d.o.dst=some t->dP R t=v)\/
 (iQ ops R d.o=true/\∃obj mk x,Lays P R d.o obj mk/\(∀t,d.o.dst=some t->dP R t=mk x)/\W.get x=some obj/\W0.get x=none/\σ x=none/\bd d.i=some x/\∀cs,obj≠ .ro cs)
theorem xM{o:Oper}{t:Tmp}(h:t∈o.looksAt ops):t∈kU ops o:=by unfold kU;simp[h]
theorem rP{o:Oper}{t:Tmp}(h:o.dst=some t):t∈kU ops o:=by unfold kU;simp[h]
theorem Held.mono{bd bd':Nat->Option Nat}{σ σ':bQ}{R R':PlanTab.Fr}{W W':AW}{d:Did}(h:Held P call ops W0 bd σ R W d)
 (hb:bd' d.i=bd d.i)(hR:∀t∈kU ops d.o,dP R' t=dP R t)(hg:Grow W W')(hσ:∀x o,W.get x=some o->σ x=none->σ' x=none):
 Held P call ops W0 bd' σ' R' W' d:=by
 obtain⟨ha,hw⟩:=CV (ops:=ops) (o:=d.o) λt ht=>hR t (xM ht)
 rcases h with⟨h1,h2,h3⟩|⟨h1,h2,h3,v,h4,h5⟩|⟨h1,obj,mk,x,h2,h3,h4,h5,h6,h7⟩
 ·exact .inl ⟨by rw[hw];exact h1,by rw[hb];exact h2,λt ht=>by rw[hR t (rP ht)];exact h3 t ht⟩
 ·exact .inr (.inl ⟨by rw[hw];exact h1,by rw[hb];exact h2,h3,v,(zG h3 h4).2 R' W' ha (.inr hg),λt ht=>by rw[hR t (rP ht)];exact h5 t ht⟩)
 ·exact .inr (.inr ⟨by rw[hw];exact h1,obj,mk,x,h2.agree ha,λt ht=>by rw[hR t (rP ht)];exact h3 t ht,hg _ _ h4,h5,hσ _ _ h4 h6,by rw[hb];exact h7⟩)
structure J (P:Program) (call:Callee) (ops:Array Oper) (A:List Nat) (nt:Nat) (ng:List Nat) (σ0:bQ) (W0:AW) (w0:World) (ds:List Deferred)
 (pre:List Did) (listed:Array Bool) (bd:Nat->Option Nat) (σ:bQ) (R:PlanTab.Fr) (W:AW) (a:Act) (w:World):Prop where
 wrel:WRel σ W w.heap
 glob:Glob σ ng
 ext:Ext σ0 W0 w0 σ W w
 tsz:a.tmps.size=nt
 dfs:a.defers=ds
 lsz:listed.size=ops.size
 regs:∀t,t<nt->(∀d∈pre,listed.getD d.i true=false->d.o.dst≠some t)->VR σ (dP R t) (a.tmps.getD t undef)
 sub:∀i,i<ops.size->listed.getD i true=true->∃d∈pre,d.i=i
 op:∀d∈pre,ops[d.i]? =some d.o
 early:∀d∈pre,d.early=false->listed.getD d.i true=true
 kind:∀d∈pre,d.early=true->iC d.o<3
 down:∀i j,i<ops.size->listed.getD i true=true->Nat.testBit (A.getD i 0) j=true->listed.getD j true=true
 pairs:∀d∈pre,∀d'∈pre,d'.early=true->WV d'.o.dst (d.o.looksAt ops)=true->Nat.testBit (A.getD d.i 0) d'.i=true/\d.i≠d'.i
 pend:∀d∈pre,listed.getD d.i true=false->Held P call ops W0 bd σ R W d
 inj:∀d∈pre,∀d'∈pre,listed.getD d.i true=false->listed.getD d'.i true=false->∀x,bd d.i=some x->bd d'.i=some x->d.i=d'.i
theorem J.advance{pre:List Did}{listed:Array Bool}{bd:Nat->Option Nat}{σ:bQ}{R R':PlanTab.Fr}{W W':AW}{a:Act}{w:World}{i:Nat}{re:List Nat}{rest:List (Nat×List Nat)}{o:Oper}
 (hJ:J P call ops A nt ng σ0 W0 w0 ds pre listed bd σ R W a w)(hh:Head ops A pre i re rest o true)(hs:lQ P call ops o R W=some (R',W')):
 ∃bd',J P call ops A nt ng σ0 W0 w0 ds (⟨i,o,true⟩::pre) listed bd' σ R' W' a w:=by
 obtain⟨hk3,hself,hfresh⟩:=hh.early rfl;have hi:i<ops.size:=(Array.getElem?_eq_some_iff.1 hh.op).1;have hnl:listed.getD i true=false:=by
  cases hq:listed.getD i true with
  |false=>rfl
  |true=>obtain⟨d,hd,e⟩:=hJ.sub i hi hq;exact absurd e (hh.new d hd)
 have hnext:W.get W.next=none:=hJ.wrel.free _ (Nat.le_refl _);have build:∀(bd':Nat->Option Nat) (u:Value),R'=dR R o.dst u->WRel σ W' w.heap->Ext σ0 W0 w0 σ W' w->Grow W W'->(∀k,k≠i->bd' k=bd k)->
  Held P call ops W0 bd' σ R' W' ⟨i,o,true⟩->(∀x,bd' i=some x->W.get x=none)->J P call ops A nt ng σ0 W0 w0 ds (⟨i,o,true⟩::pre) listed bd' σ R' W' a w:=by
  intro bd' u hR' hwr hext hg hbd hheld hbx;have hnames:∀d∈pre,∀t∈kU ops d.o,dP R' t=dP R t:=λd hd t ht=>by rw[hR'];exact nH λe=>uB (hfresh d hd) e ht
  have hold:∀d∈pre,listed.getD d.i true=false->Held P call ops W0 bd' σ R' W' d:=λd hd hl=>(hJ.pend d hd hl).mono (hbd _ (hh.new d hd)) (hnames d hd) hg (λ_ _ _ h=>h)
  have hpx:∀d∈pre,listed.getD d.i true=false->∀x,bd d.i=some x->∃ob,W.get x=some ob:=by
   intro d hd hl x hx;rcases hJ.pend d hd hl with⟨_,h2,_⟩|⟨_,h2,_⟩|⟨_,obj,mk,y,_,_,h4,_,_,h7⟩
   ·rw[h2]at hx;cases hx
   ·rw[h2]at hx;cases hx
   ·rw[h7.1]at hx;injection hx with hx;subst hx;exact⟨obj,h4⟩
  refine⟨hwr,hJ.glob,hext,hJ.tsz,hJ.dfs,hJ.lsz,?_,?_,?_,?_,?_,hJ.down,?_,?_,?_⟩
  ·intro t ht hno;have h1:o.dst≠some t:=hno ⟨i,o,true⟩ (by simp) hnl;rw[hR',nH h1];exact hJ.regs t ht λd hd=>hno d (by simp[hd])
  ·intro k hk hl;obtain⟨d,hd,e⟩:=hJ.sub k hk hl;exact⟨d,by simp[hd],e⟩
  ·intro d hd;rcases List.mem_cons.1 hd with rfl|hd
   ·exact hh.op
   ·exact hJ.op d hd
  ·intro d hd he;rcases List.mem_cons.1 hd with rfl|hd
   ·cases he
   ·exact hJ.early d hd he
  ·intro d hd he;rcases List.mem_cons.1 hd with rfl|hd
   ·exact hk3
   ·exact hJ.kind d hd he
  ·intro d hd d' hd' he hin;rcases List.mem_cons.1 hd with rfl|hd
   ·rcases List.mem_cons.1 hd' with rfl|hd'
    ·simp only at hin;rw[hself]at hin;cases hin
    ·rcases hh.held d' hd' he with h1|⟨h1,_⟩
     ·exact⟨h1,λe=>hh.new d' hd' e.symm⟩
     ·simp only at hin;rw[h1]at hin;cases hin
   ·rcases List.mem_cons.1 hd' with rfl|hd'
    ·exfalso;have h1:=hfresh d hd;obtain⟨t,ht,hm⟩:=a0I.1 hin;exact uB h1 ht (xM hm)
    ·exact hJ.pairs d hd d' hd' he hin
  ·intro d hd hl;rcases List.mem_cons.1 hd with rfl|hd
   ·exact hheld
   ·exact hold d hd hl
  ·intro d hd d' hd' hl hl' x hx hx';rcases List.mem_cons.1 hd with rfl|hd
   ·rcases List.mem_cons.1 hd' with rfl|hd'
    ·rfl
    ·rw[hbd _ (hh.new d' hd')]at hx';obtain⟨ob,h1⟩:=hpx d' hd' hl' x hx';rw[hbx x hx]at h1;cases h1
   ·rcases List.mem_cons.1 hd' with rfl|hd'
    ·rw[hbd _ (hh.new d hd)]at hx;obtain⟨ob,h1⟩:=hpx d hd hl x hx;rw[hbx x hx']at h1;cases h1
    ·rw[hbd _ (hh.new d hd)]at hx;rw[hbd _ (hh.new d' hd')]at hx';exact hJ.inj d hd d' hd' hl hl' x hx hx'
 have hag:∀u,(∀t∈o.looksAt ops,dP (dR R o.dst u) t=dP R t):=λu t ht=>nH λe=>uB hself e ht
 unfold lQ at hs;split at hs
 ·rename_i hw;split at hs
  ·rename_i v W1 hop;injection hs with hs;injection hs with hs1 hs2;subst hs1;subst hs2;obtain⟨ha,hwa⟩:=CV (hag v);by_cases hk1:iC o<=1
   ·obtain⟨hW1,hk⟩:=zG hk1 hop;subst hW1;refine⟨λk=>if k=i then none else bd k,build _ v rfl hJ.wrel hJ.ext (.refl _) (λk hk=>by simp[hk]) (.inr (.inl ⟨by rw[hwa];exact hw,by simp,hk1,v,hk _ _ ha (.inr (.refl _)),λt ht=>zC ht⟩)) (λx hx=>by simp at hx)⟩
   ·have hk2:iC o=2:=by omega
    obtain⟨obj,mk,hro,rfl,rfl,hl⟩:=a4x hk2 hop;have hW0x:W0.get W.next=none:=by
     cases hq:W0.get W.next with
     |none=>rfl
     |some ob=>
      cases hq2:σ0 W.next with
      |none=>rw[(hJ.ext.ghost _ _ hq hq2).1]at hnext;cases hnext
      |some g=>have:=(hJ.wrel.dom _ _ (hJ.ext.sub _ _ hq2)).1;omega
    refine⟨λk=>if k=i then some W.next else bd k,build _ _ rfl (hJ.wrel.ghost obj) (hJ.ext.ghost_add hnext obj) (.add hnext obj) (λk hk=>by simp[hk])
     (.inr (.inr ⟨by rw[hwa];exact hw,obj,mk,W.next,hl.agree ha,λt ht=>zC ht,AW.get_add _ _,hW0x,hJ.wrel.fresh,by simp,hro⟩)) (λx hx=>by simp at hx;subst hx;exact hnext)⟩
  ·cases hs
 ·rename_i hw;injection hs with hs;injection hs with hs1 hs2;subst hs1;subst hs2;obtain⟨ha,hwa⟩:=CV (hag undef);refine⟨λk=>if k=i then none else bd k,build _ undef rfl hJ.wrel hJ.ext (.refl _) (λk hk=>by simp[hk]) (.inl ⟨by rw[hwa];simpa using hw,by simp,λt ht=>zC ht⟩) (λx hx=>by simp at hx)⟩
end
end Go.Eng
namespace Go.Eng
open Go
variable [PlanTab]
theorem jP{l:Array Bool}{i:Nat}(h:i<l.size)(d:Bool):(l.setIfInBounds i true).getD i d=true:=by simp[Array.getElem?_setIfInBounds,h]
theorem oF{l:Array Bool}{i j:Nat}(h:i≠j)(d:Bool):(l.setIfInBounds i true).getD j d=l.getD j d:=by simp[Array.getElem?_setIfInBounds_ne h]
theorem TB{l:Array Bool}{i:Nat}(h:l.getD i false=true):l.getD i true=true/\i<l.size:=by
 by_cases hi:i<l.size
 ·simp[hi]at h|-;exact h
 ·simp[hi]at h
theorem Y1{ops:Array Oper}{nt:Nat}{ng:List Nat}(hok:∀(i:Nat) (o:Oper),ops[i]? =some o->nA nt ng o=true){i:Nat}{o:Oper}(ho:ops[i]? =some o){t:Tmp}(ht:t∈o.looksAt ops):t<nt:=by
 unfold Oper.looksAt at ht;rcases List.mem_append.1 ht with h|h
 ·obtain⟨x,hx,e⟩:=List.mem_filterMap.1 h;have:=hok i o ho;simp only[nA,Bool.and_eq_true,List.all_eq_true]at this;have h2:=this.1 x hx;cases x with
  |tmp u=>simp only[Option.some.injEq]at e;subst e;simpa[rJ,Nat.blt_eq]using h2
  |_=>cases e
 ·split at h
  ·rename_i g b hg;cases hq:(ops[g]?).bind (·.dst)with
   |none=>rw[hq]at h;simp at h
   |some u=>
    rw[hq]at h;simp at h;subst h;cases hg:ops[g]? with
    |none=>rw[hg]at hq;cases hq
    |some og=>rw[hg]at hq;simp only[Option.bind_some]at hq;have:=hok g og hg;simp only[nA,hq,Bool.and_eq_true]at this;simpa[Nat.blt_eq]using this.2
  ·simp at h
theorem wF{ops:Array Oper}{nt:Nat}{ng:List Nat}{σ:bQ}{R:PlanTab.Fr}{a:Act}(hG:Glob σ ng){o:Oper}(hok:nA nt ng o=true)
 (h:∀t∈o.looksAt ops,VR σ (dP R t) (a.tmps.getD t undef)):∀x∈o.op.operands,VR σ (aC R x) (a.eval x):=by
 intro x hx;simp only[nA,Bool.and_eq_true,List.all_eq_true]at hok;have hk:=hok.1 x (by simpa using hx);cases x with
 |tmp t=>exact h t (W9 hx)
 |const v=>exact jK hk
 |global g=>obtain⟨e,he⟩:=hG g (EM.1 hk);have:=VR.ptr (σ:=σ) ⟨g,0,none⟩ _ he rfl;simpa[aC,Act.eval]using this
 |func f=>exact .func _ _ _ _ _ _ (.func f) rfl (λi v v' h=>by simp at h) rfl (λi v v' h=>by simp at h)
theorem a3x{o:Oper}(h:iC o<3):∀c,o.op≠ .defer c:=λc e=>by unfold iC at h;rw[e]at h;simp at h
section
variable {P:Program} {call:Callee} {ops:Array Oper} {A:List Nat} {nt:Nat} {ng:List Nat} {σ0:bQ} {W0:AW} {w0:World} {ds:List Deferred}
theorem J.anc{pre:List Did}{listed:Array Bool}{bd:Nat->Option Nat}{σ:bQ}{R:PlanTab.Fr}{W:AW}{a:Act}{w:World}
 (hJ:J P call ops A nt ng σ0 W0 w0 ds pre listed bd σ R W a w)(hA:∀(i:Nat) (o:Oper),ops[i]? =some o->A.getD i 0=xG A o)
 {i:Nat}{o:Oper}(ho:ops[i]? =some o)(hr:∀e∈o.after,Region.binds .any e=true->listed.getD e.on false=true){j:Nat}(hj:Nat.testBit (A.getD i 0) j=true):
 listed.getD j true=true:=by
 rw[hA i o ho]at hj;obtain⟨e,he,hb,h|h⟩:=a5P hj
 ·rw[h];exact(TB (hr e he hb)).1
 ·have:=TB (hr e he hb);exact hJ.down e.on j (by rw[<-hJ.lsz];exact this.2) this.1 h
theorem J.mark{pre:List Did}{listed:Array Bool}{bd:Nat->Option Nat}{σ σ':bQ}{R:PlanTab.Fr}{W:AW}{a:Act}{w w':World}
 (hJ:J P call ops A nt ng σ0 W0 w0 ds pre listed bd σ R W a w){d:Did}(hd:d∈pre)(v':Value)(hs:Sub σ σ')(hw:WRel σ' W w'.heap)(he:Ext σ0 W0 w0 σ' W w')
 (hv:∀t,d.o.dst=some t->VR σ' (dP R t) v')(hx:∀d'∈pre,d'.i≠d.i->listed.getD d'.i true=false->∀x,bd d'.i=some x->σ x=none->(∃o,W.get x=some o)->σ' x=none)
 (hanc:∀j,Nat.testBit (A.getD d.i 0) j=true->listed.getD j true=true):
 J P call ops A nt ng σ0 W0 w0 ds pre (listed.setIfInBounds d.i true) bd σ' R W (a.put d.o.dst v') w':=by
 have hi:d.i<listed.size:=by rw[hJ.lsz];exact(Array.getElem?_eq_some_iff.1 (hJ.op d hd)).1
 have hmono:∀k,listed.getD k true=true->(listed.setIfInBounds d.i true).getD k true=true:=λk hk=>by
  by_cases e:d.i=k
  ·subst e;exact jP hi _
  ·rw[oF e];exact hk
 have hback:∀k,(listed.setIfInBounds d.i true).getD k true=false->k≠d.i/\listed.getD k true=false:=λk hk=>by
  by_cases e:d.i=k
  ·subst e;rw[jP hi]at hk;cases hk
  ·rw[oF e]at hk;exact⟨Ne.symm e,hk⟩
 refine⟨hw,hJ.glob.mono hs,he,by rw[KO];exact hJ.tsz,by rw[put_defers];exact hJ.dfs,by simp[hJ.lsz],?_,?_,hJ.op,?_,hJ.kind,?_,hJ.pairs,?_,?_⟩
 ·intro t ht hno;by_cases hdt:d.o.dst=some t
  ·rw[WU hdt (by rw[hJ.tsz];exact ht)];exact hv t hdt
  ·rw[I9 hdt];refine(hJ.regs t ht λd' hd' hl=>?_).mono hs;by_cases e:d'.i=d.i
   ·have h1:=hJ.op d' hd';have h2:=hJ.op d hd;rw[e,h2]at h1;injection h1 with h1;rw[<-h1];exact hdt
   ·exact hno d' hd' (by rw[oF (Ne.symm e)];exact hl)
 ·intro k hk hl;by_cases e:d.i=k
  ·exact⟨d,hd,e⟩
  ·rw[oF e]at hl;exact hJ.sub k hk hl
 ·intro d' hd' h;exact hmono _ (hJ.early d' hd' h)
 ·intro k j hk hl hb;by_cases e:d.i=k
  ·subst e;exact hmono _ (hanc j hb)
  ·rw[oF e]at hl;exact hmono _ (hJ.down k j hk hl hb)
 ·intro d' hd' hl;obtain⟨h1,h2⟩:=hback _ hl;rcases hJ.pend d' hd' h2 with k|k|⟨k1,obj,mk,x,k2,k3,k4,k5,k6,k7⟩
  ·exact .inl k
  ·exact .inr (.inl k)
  ·exact .inr (.inr ⟨k1,obj,mk,x,k2,k3,k4,k5,hx d' hd' h1 h2 x k7.1 k6 ⟨_,k4⟩,k7⟩)
 ·intro d1 h1 d2 h2 l1 l2;exact hJ.inj d1 h1 d2 h2 (hback _ l1).2 (hback _ l2).2
theorem J.looks{pre:List Did}{listed:Array Bool}{bd:Nat->Option Nat}{σ:bQ}{R:PlanTab.Fr}{W:AW}{a:Act}{w:World}
 (hJ:J P call ops A nt ng σ0 W0 w0 ds pre listed bd σ R W a w)(hok:∀(i:Nat) (o:Oper),ops[i]? =some o->nA nt ng o=true){i:Nat}{o:Oper}(ho:ops[i]? =some o)
 (hp:∀d∈pre,listed.getD d.i true=false->WV d.o.dst (o.looksAt ops)=false):∀t∈o.looksAt ops,VR σ (dP R t) (a.tmps.getD t undef):=
 λt ht=>hJ.regs t (Y1 hok ho ht) λd hd hl e=>uB (hp d hd hl) e ht
theorem J.pendingEarly{pre:List Did}{listed:Array Bool}{bd:Nat->Option Nat}{σ:bQ}{R:PlanTab.Fr}{W:AW}{a:Act}{w:World}
 (hJ:J P call ops A nt ng σ0 W0 w0 ds pre listed bd σ R W a w){d:Did}(hd:d∈pre)(hl:listed.getD d.i true=false):d.early=true:=by
 cases he:d.early with
 |true=>rfl
 |false=>rw[hJ.early d hd he]at hl;cases hl
theorem J.fire(hc:aW P ng call)(hok:∀(i:Nat) (o:Oper),ops[i]? =some o->nA nt ng o=true)(hA:∀(i:Nat) (o:Oper),ops[i]? =some o->A.getD i 0=xG A o)
 {pre:List Did}{listed:Array Bool}{bd:Nat->Option Nat}{σ:bQ}{R:PlanTab.Fr}{W:AW}{a:Act}{w:World}
 (hJ:J P call ops A nt ng σ0 W0 w0 ds pre listed bd σ R W a w){d:Did}(hd:d∈pre)(hl:listed.getD d.i true=false)
 (hr:∀e∈d.o.after,Region.binds .any e=true->listed.getD e.on false=true){ro:Option Nat}{K:Act->World->Prop}{Q:Exit->Act->World->Prop}
 (hK:∀σ' a' w',J P call ops A nt ng σ0 W0 w0 ds pre (listed.setIfInBounds d.i true) bd σ' R W a' w'->K a' w'):wpOpIn (FE ro) 0 P ops Q d.i K a w:=by
 have ho:=hJ.op d hd;have hanc:∀j,Nat.testBit (A.getD d.i 0) j=true->listed.getD j true=true:=λj hj=>hJ.anc hA ho hr hj
 have hlook:=hJ.looks hok ho (λd' hd' hl'=>by
  cases hq:WV d'.o.dst (d.o.looksAt ops)with
  |false=>rfl
  |true=>have:=hanc _ (hJ.pairs d hd d' hd' (hJ.pendingEarly hd' hl') hq).1;rw[hl']at this;cases this);have hρ:=wF hJ.glob (hok _ _ ho) hlook;have hwe:=GK hlook;have hk3:=hJ.kind d hd (hJ.pendingEarly hd hl);have hnd:=a3x hk3;unfold wpOpIn;rw[ho];simp only[hwe];rcases hJ.pend d hd hl with⟨h1,h2,h3⟩|⟨h1,h2,h3,v,h4,h5⟩|⟨h1,obj,mk,x,h2,h3,h4,h5,h6,h7⟩
 ·rw[h1,if_neg (by simp)];refine⟨λf _=>trivial,hK σ _ w (hJ.mark hd undef (.refl _) hJ.wrel hJ.ext (λt ht=>by rw[h3 t ht];exact .undef) (λ_ _ _ _ _ _ h _=>h) hanc)⟩
 ·rw[h1,if_pos rfl];refine RG hc hJ.wrel hJ.glob h4 hρ λσ' v' w' hv hw he=>?_
  exact hK σ' _ w' (hJ.mark hd v' he.sub hw (hJ.ext.trans he) (λt ht=>by rw[h5 t ht];exact hv) (λd' _ _ _ x _ h6 ⟨ob,hx⟩=>(he.ghost _ _ hx h6).2) hanc)
 ·rw[h1,if_pos rfl];obtain⟨v',xo,e,r1,r2,r3⟩:=h2 σ a.eval w x hρ h6;refine⟨λf _=>trivial,?_⟩;rw[Oper.semAt_eq _ _ _ hnd,r1];refine hK (bB σ x ⟨w.heap.size,0,e⟩) _ _ (hJ.mark hd v' (dA h6) (hJ.wrel.bind h4 h6 r3) (hJ.ext.bind h6 h5 r3 h7.2) (λt ht=>by rw[h3 t ht];exact r2) ?_ hanc);intro d' hd' hne hl' y hy hσ _;have:y≠x:=λe=>by subst e;exact hne (hJ.inj d' hd' d hd hl' hl y hy h7.1)
  unfold bB;rw[if_neg this];exact hσ
theorem J.force(hc:aW P ng call)(hok:∀(i:Nat) (o:Oper),ops[i]? =some o->nA nt ng o=true)(hA:∀(i:Nat) (o:Oper),ops[i]? =some o->A.getD i 0=xG A o)
 {pre:List Did}{listed:Array Bool}{bd:Nat->Option Nat}{σ:bQ}{R R':PlanTab.Fr}{W W':AW}{a:Act}{w:World}{i:Nat}{re:List Nat}{rest:List (Nat×List Nat)}{o:Oper}
 (hJ:J P call ops A nt ng σ0 W0 w0 ds pre listed bd σ R W a w)(hh:Head ops A pre i re rest o false)(hs:lQ P call ops o R W=some (R',W'))(hre:re.all (tL P call ops R' W')=true)
 (hr:∀e∈o.after,Region.binds .any e=true->listed.getD e.on false=true){ro:Option Nat}{K:Act->World->Prop}{Q:Exit->Act->World->Prop}
 (hK:∀σ' a' w',J P call ops A nt ng σ0 W0 w0 ds (⟨i,o,false⟩::pre) (listed.setIfInBounds i true) bd σ' R' W' a' w'->K a' w'):wpOpIn (FE ro) 0 P ops Q i K a w:=by
 have ho:=hh.op;have hi:i<listed.size:=by rw[hJ.lsz];exact(Array.getElem?_eq_some_iff.1 ho).1
 have hanc:∀j,Nat.testBit (A.getD i 0) j=true->listed.getD j true=true:=λj hj=>hJ.anc hA ho hr hj
 have hheld:∀d∈pre,listed.getD d.i true=false->WV d.o.dst (o.looksAt ops)=false/\WV o.dst (kU ops d.o)=false/\(iC d.o=0\/iC d.o=2\/d.i∈re):=by
  intro d hd hl;rcases hh.held d hd (hJ.pendingEarly hd hl)with h1|⟨h1,h2⟩
  ·rw[hanc _ h1]at hl;cases hl
  ·rcases h2 with h2|⟨h2,h3⟩
   ·cases h2
   ·exact⟨h1,h2,h3⟩
 have hlook:=hJ.looks hok ho (λd hd hl=>(hheld d hd hl).1);have hρ:=wF hJ.glob (hok _ _ ho) hlook;have hwe:=GK hlook;have hback:∀k,(listed.setIfInBounds i true).getD k true=false->k≠i/\listed.getD k true=false:=λk hk=>by
  by_cases e:i=k
  ·subst e;rw[jP hi]at hk;cases hk
  ·rw[oF e]at hk;exact⟨Ne.symm e,hk⟩
 have hmono:∀k,listed.getD k true=true->(listed.setIfInBounds i true).getD k true=true:=λk hk=>by
  by_cases e:i=k
  ·subst e;exact jP hi _
  ·rw[oF e];exact hk
 have build:∀(σ':bQ) (u u':Value) (w':World),R'=dR R o.dst u->VR σ' u u'->WRel σ' W' w'.heap->Ext σ W w σ' W' w'->
  J P call ops A nt ng σ0 W0 w0 ds (⟨i,o,false⟩::pre) (listed.setIfInBounds i true) bd σ' R' W' (a.put o.dst u') w':=by
  intro σ' u u' w' hR' hu hw he;refine⟨hw,hJ.glob.mono he.sub,hJ.ext.trans he,by rw[KO];exact hJ.tsz,by rw[put_defers];exact hJ.dfs,by simp[hJ.lsz],?_,?_,?_,?_,?_,?_,?_,?_,?_⟩
  ·intro t ht hno;by_cases hdt:o.dst=some t
   ·rw[WU hdt (by rw[hJ.tsz];exact ht),hR',zC hdt];exact hu
   ·rw[I9 hdt,hR',nH hdt];refine(hJ.regs t ht λd' hd' hl=>?_).mono he.sub;exact hno d' (by simp[hd']) (by rw[oF (Ne.symm (hh.new d' hd'))];exact hl)
  ·intro k hk hl;by_cases e:i=k
   ·exact⟨⟨i,o,false⟩,by simp,e⟩
   ·rw[oF e]at hl;obtain⟨d,hd,e⟩:=hJ.sub k hk hl;exact⟨d,by simp[hd],e⟩
  ·intro d hd;rcases List.mem_cons.1 hd with rfl|hd
   ·exact ho
   ·exact hJ.op d hd
  ·intro d hd h;rcases List.mem_cons.1 hd with rfl|hd
   ·exact jP hi _
   ·exact hmono _ (hJ.early d hd h)
  ·intro d hd h;rcases List.mem_cons.1 hd with rfl|hd
   ·cases h
   ·exact hJ.kind d hd h
  ·intro k j hk hl hb;by_cases e:i=k
   ·subst e;exact hmono _ (hanc j hb)
   ·rw[oF e]at hl;exact hmono _ (hJ.down k j hk hl hb)
  ·intro d hd d' hd' hde hin;rcases List.mem_cons.1 hd' with rfl|hd'
   ·cases hde
   ·rcases List.mem_cons.1 hd with rfl|hd
    ·rcases hh.held d' hd' hde with h1|⟨h1,_⟩
     ·exact⟨h1,λe=>hh.new d' hd' e.symm⟩
     ·simp only at hin;rw[h1]at hin;cases hin
    ·exact hJ.pairs d hd d' hd' hde hin
  ·intro d hd hl;rcases List.mem_cons.1 hd with rfl|hd
   ·rw[jP hi]at hl;cases hl
   ·have hl':=(hback _ hl).2;obtain⟨g1,g2,g3⟩:=hheld d hd hl';have hnames:∀t∈kU ops d.o,dP R' t=dP R t:=λt ht=>by rw[hR'];exact nH λe=>uB g2 e ht
    obtain⟨ha,hwd⟩:=CV (ops:=ops) (o:=d.o) λt ht=>hnames t (xM ht)
    rcases hJ.pend d hd hl' with⟨h1,h2,h3⟩|⟨h1,h2,h3,v,h4,h5⟩|⟨h1,obj,mk,x,h2,h3,h4,h5,h6,h7⟩
    ·exact .inl ⟨by rw[hwd];exact h1,h2,λt ht=>by rw[hnames t (rP ht)];exact h3 t ht⟩
    ·refine .inr (.inl ⟨by rw[hwd];exact h1,h2,h3,?_⟩);rcases g3 with g3|g3|g3
     ·exact⟨v,(zG h3 h4).2 R' W' ha (.inl g3),λt ht=>by rw[hnames t (rP ht)];exact h5 t ht⟩
     ·omega
     ·have hag:=List.all_eq_true.1 hre d.i g3;unfold tL at hag;rw[hJ.op d hd]at hag;simp only[hwd,h1,if_true]at hag;split at hag
      ·rename_i u W2 hop;have:=(zG h3 hop).1;subst this;refine⟨u,hop,λt ht=>?_⟩;rw[ht]at hag;exact(a4X hag).symm
      ·cases hag
    ·obtain⟨k1,k2⟩:=he.ghost _ _ h4 h6;exact .inr (.inr ⟨by rw[hwd];exact h1,obj,mk,x,h2.agree ha,λt ht=>by rw[hnames t (rP ht)];exact h3 t ht,k1,h5,k2,h7⟩)
  ·intro d1 h1 d2 h2 l1 l2 x hx1 hx2;rcases List.mem_cons.1 h1 with rfl|h1
   ·rw[jP hi]at l1;cases l1
   ·rcases List.mem_cons.1 h2 with rfl|h2
    ·rw[jP hi]at l2;cases l2
    ·exact hJ.inj d1 h1 d2 h2 (hback _ l1).2 (hback _ l2).2 x hx1 hx2
 unfold wpOpIn;rw[ho];simp only[hwe];unfold lQ at hs;split at hs
 ·rename_i hw;rw[if_pos hw];split at hs
  ·rename_i v W1 hop;injection hs with hs;injection hs with hs1 hs2;subst hs1;subst hs2;exact RG hc hJ.wrel hJ.glob hop hρ λσ' v' w' hv hw' he=>hK σ' _ w' (build σ' v v' w' rfl hv hw' he)
  ·cases hs
 ·rename_i hw;rw[if_neg hw];injection hs with hs;injection hs with hs1 hs2;subst hs1;subst hs2;exact⟨λf _=>trivial,hK σ _ w (build σ undef undef w rfl .undef hJ.wrel (.refl _ _ _))⟩
end
end Go.Eng
namespace Go.Eng
open Go
variable [PlanTab]
def unl(n:Nat)(l:Array Bool):Nat:=(List.range n).countP λi=> !l.getD i true
theorem a1L{α:Type}{p q:α->Bool}{x:α}:∀{l:List α},x∈l->p x=true->q x=false->(∀y,q y=true->p y=true)->l.countP q<l.countP p:=by
 intro l;induction l with
 |nil=>intro h;cases h
 |cons y l ih=>
  intro h hp hq hi;have hle:l.countP q<=l.countP p:=List.countP_mono_left λz _ hz=>hi z hz
  rcases List.mem_cons.1 h with rfl|h
  ·rw[List.countP_cons,List.countP_cons,hp,hq];simp;omega
  ·have:=ih h hp hq hi;rw[List.countP_cons,List.countP_cons];cases hqy:q y with
   |true=>rw[hi y hqy];simp;omega
   |false=>cases p y<;>simp<;>omega
theorem SG{n i:Nat}{l:Array Bool}(hi:i<n)(hs:i<l.size)(h:l.getD i true=false):unl n (l.setIfInBounds i true)<unl n l:=by
 refine a1L (x:=i) (by simpa using hi) (by rw[h];rfl) (by rw[jP hs];rfl) λy hy=>?_
 by_cases e:i=y
 ·subst e;rw[jP hs]at hy;cases hy
 ·rw[oF e]at hy;exact hy
theorem a4r{n:Nat}{l:Array Bool}(h:unl n l=0){i:Nat}(hi:i<n):l.getD i true=true:=by unfold unl at h;rw[List.countP_eq_zero]at h;have:=h i (by simpa using hi);simpa using this
section
variable {P:Program} {call:Callee} {ops:Array Oper} {A:List Nat} {nt:Nat} {ng:List Nat} {σ0:bQ} {W0:AW} {w0:World} {ds:List Deferred}
inductive PreOK (ops:Array Oper):List Did->Prop where
 |nil:PreOK ops []
 |cons (d:Did) (pre:List Did) (h:PreOK ops pre) (ht:∀e∈d.o.after,Region.binds .any e=true->∃d'∈pre,d'.i=e.on) (ho:ops[d.i]? =some d.o):PreOK ops (d::pre)
theorem PreOK.ready{listed:Array Bool}(hsz:listed.size=ops.size):∀{pre:List Did},PreOK ops pre->(∃d∈pre,listed.getD d.i true=false)->Region.ready .any ops listed≠[]:=by
 intro pre h;induction h with
 |nil=>rintro⟨d,hd,_⟩;cases hd
 |cons d pre h ht ho ih=>
  rintro⟨d',hd',hl⟩ hr;by_cases hex:∃d∈pre,listed.getD d.i true=false
  ·exact ih hex hr
  ·rcases List.mem_cons.1 hd' with rfl|hd'
   ·have:d'.i∈Region.ready .any ops listed:=mem_ready.2 ⟨hl,d'.o,ho,λe he hb=>by
     obtain⟨d2,h2,e2⟩:=ht e he hb;have hl2:listed.getD d2.i true=true:=by
      cases hq:listed.getD d2.i true with
      |true=>rfl
      |false=>exact absurd ⟨d2,h2,hq⟩ hex
     have hir:d2.i<ops.size:=by
      have:∀{pre},PreOK ops pre->∀d∈pre,d.i<ops.size:=by
       intro pre h;induction h with
       |nil=>intro d hd;cases hd
       |cons d pre h ht ho ih=>
        intro d' hd';rcases List.mem_cons.1 hd' with rfl|hd'
        ·exact(Array.getElem?_eq_some_iff.1 ho).1
        ·exact ih d' hd'
      exact this h d2 h2
     rw[<-e2];simp only[Array.getD_eq_getD_getElem?]at hl2|-;rw[Array.getElem?_eq_getElem (by omega)]at hl2|-;exact hl2⟩;rw[hr]at this;cases this
   ·exact hex ⟨d',hd',hl⟩
theorem a4y(hc:aW P ng call)(hok:∀(i:Nat) (o:Oper),ops[i]? =some o->nA nt ng o=true)(hA:∀(i:Nat) (o:Oper),ops[i]? =some o->A.getD i 0=xG A o)
 {ro:Option Nat}{Q:Exit->Act->World->Prop}{Rf:PlanTab.Fr}{Wf:AW}
 (hQ:∀σ' a' w',RegRel nt σ' Rf a'.tmps->a'.defers=ds->WRel σ' Wf w'.heap->Ext σ0 W0 w0 σ' Wf w'->Q .normal a' w'):
 ∀(fuel:Nat) (suf:List (Nat×List Nat)) (pre:List Did) (listed:Array Bool) (bd:Nat->Option Nat) (σ:bQ) (R:PlanTab.Fr) (W:AW) (a:Act) (w:World),
  J P call ops A nt ng σ0 W0 w0 ds pre listed bd σ R W a w->PreOK ops pre->GM ops A pre suf=true->kT P call ops suf R W=some (Rf,Wf)->
  (∀i,i<ops.size->(∃d∈pre,d.i=i)\/∃k∈suf,k.1=i)->unl ops.size listed<=fuel->wpAnyIn (FE ro) 0 P .any ops Q fuel listed a w:=by
 intro fuel;induction fuel with
 |zero=>
  intro suf pre listed bd σ R W a w hJ hpre hgo hpl hcov hun;have hall:∀i,i<ops.size->listed.getD i true=true:=λi hi=>a4r (by omega) hi
  have hready:Region.ready .any ops listed=[]:=by rw[List.eq_nil_iff_forall_not_mem];intro i hi;obtain⟨h1,o,ho,_⟩:=mem_ready.1 hi;rw[hall i (Array.getElem?_eq_some_iff.1 ho).1]at h1;cases h1
  refine⟨hready,?_⟩;cases suf with
  |nil=>injection hpl with hpl;injection hpl with h1 h2;subst h1;subst h2;refine hQ σ a w ⟨hJ.tsz,λt ht=>hJ.regs t ht λd hd hl=>?_⟩ hJ.dfs hJ.wrel hJ.ext;rw[hall d.i (Array.getElem?_eq_some_iff.1 (hJ.op d hd)).1]at hl;cases hl
  |cons k rest=>obtain⟨i,re⟩:=k;obtain⟨o,e,hh⟩:=I6 hgo;have hi:=(Array.getElem?_eq_some_iff.1 hh.op).1;obtain⟨d,hd,e⟩:=hJ.sub i hi (hall i hi);exact absurd e (hh.new d hd)
 |succ fuel ih=>
  intro suf;induction suf with
  |nil=>
   intro pre listed bd σ R W a w hJ hpre hgo hpl hcov hun;refine⟨λhr=>?_,λi hi=>?_⟩
   ·have hno:∀d∈pre,listed.getD d.i true=true:=λd hd=>by
     cases hq:listed.getD d.i true with
     |true=>rfl
     |false=>exact absurd hr (hpre.ready hJ.lsz ⟨d,hd,hq⟩)
    injection hpl with hpl;injection hpl with h1 h2;subst h1;subst h2;exact hQ σ a w ⟨hJ.tsz,λt ht=>hJ.regs t ht λd hd hl=>by rw[hno d hd]at hl;cases hl⟩ hJ.dfs hJ.wrel hJ.ext
   ·obtain⟨h1,o,ho,h2⟩:=mem_ready.1 hi;have hlt:=(Array.getElem?_eq_some_iff.1 ho).1;rcases hcov i hlt with⟨d,hd,e⟩|⟨k,hk,_⟩
    ·subst e;have hod:=hJ.op d hd;rw[ho]at hod;injection hod with hod;subst hod;refine hJ.fire hc hok hA hd h1 h2 λσ' a' w' hJ'=>?_
     exact ih [] pre _ bd σ' R W a' w' hJ' hpre hgo hpl hcov (by have:=SG hlt (by rw[hJ.lsz];exact hlt) h1;omega)
    ·cases hk
  |cons k rest ihs=>
   intro pre listed bd σ R W a w hJ hpre hgo hpl hcov hun;obtain⟨i,re⟩:=k;obtain⟨o,e,hh⟩:=I6 hgo;have hi:=(Array.getElem?_eq_some_iff.1 hh.op).1;simp only[kT,hh.op]at hpl;split at hpl;case h_2=>cases hpl
   rename_i R' W' hs;split at hpl;case isFalse=>cases hpl
   rename_i hre;have hcov':∀j,j<ops.size->(∃d∈(⟨i,o,e⟩::pre:List Did),d.i=j)\/∃k∈rest,k.1=j:=by
    intro j hj;rcases hcov j hj with⟨d,hd,h1⟩|⟨k,hk,h1⟩
    ·exact .inl ⟨d,by simp[hd],h1⟩
    ·rcases List.mem_cons.1 hk with rfl|hk
     ·exact .inl ⟨⟨i,o,e⟩,by simp,h1⟩
     ·exact .inr ⟨k,hk,h1⟩
   have hpre':PreOK ops (⟨i,o,e⟩::pre):=.cons _ _ hpre hh.top hh.op;cases e with
   |true=>obtain⟨bd',hJ'⟩:=hJ.advance hh hs;exact ihs _ listed bd' σ R' W' a w hJ' hpre' hh.go hpl hcov' hun
   |false=>
    refine⟨λhr=>?_,λj hj=>?_⟩
    ·exfalso;by_cases hex:∃d∈pre,listed.getD d.i true=false
     ·exact hpre.ready hJ.lsz hex hr
     ·have hl:listed.getD i true=false:=by
       cases hq:listed.getD i true with
       |false=>rfl
       |true=>obtain⟨d,hd,e⟩:=hJ.sub i hi hq;exact absurd e (hh.new d hd)
      have:i∈Region.ready .any ops listed:=mem_ready.2 ⟨hl,o,hh.op,λed he hb=>by
       obtain⟨d2,h2,e2⟩:=hh.top ed he hb;have hl2:listed.getD d2.i true=true:=by
        cases hq:listed.getD d2.i true with
        |true=>rfl
        |false=>exact absurd ⟨d2,h2,hq⟩ hex
       have hir:d2.i<listed.size:=by rw[hJ.lsz];exact(Array.getElem?_eq_some_iff.1 (hJ.op d2 h2)).1
       rw[<-e2];simp only[Array.getD_eq_getD_getElem?]at hl2|-;rw[Array.getElem?_eq_getElem hir]at hl2|-;exact hl2⟩;rw[hr]at this;cases this
    ·obtain⟨h1,oj,ho,h2⟩:=mem_ready.1 hj;have hlt:=(Array.getElem?_eq_some_iff.1 ho).1;rcases hcov j hlt with⟨d,hd,e⟩|⟨k,hk,e⟩
     ·subst e;have hod:=hJ.op d hd;rw[ho]at hod;injection hod with hod;subst hod;refine hJ.fire hc hok hA hd h1 h2 λσ' a' w' hJ'=>?_
      refine ih ((i,re)::rest) pre _ bd σ' R W a' w' hJ' hpre hgo ?_ hcov (by have:=SG hlt (by rw[hJ.lsz];exact hlt) h1;omega);simp only[kT,hh.op,hs,hre,if_true];exact hpl
     ·rcases List.mem_cons.1 hk with rfl|hk
      ·simp only at e;subst e;have hod:=hh.op;rw[ho]at hod;injection hod with hod;subst hod;refine hJ.force hc hok hA hh hs hre h2 λσ' a' w' hJ'=>?_
       exact ih rest _ _ bd σ' R' W' a' w' hJ' hpre' hh.go hpl hcov' (by have:=SG hlt (by rw[hJ.lsz];exact hlt) h1;omega)
      ·exfalso;rcases hh.last with h|h
       ·cases h
       ·obtain⟨ok,hok',ed,hed,hb,hno⟩:=h k hk;rw[e,ho]at hok';injection hok' with hok';subst hok';have h3:=TB (h2 ed hed hb);obtain⟨d,hd,e⟩:=hJ.sub ed.on (by rw[<-hJ.lsz];exact h3.2) h3.1;exact hno d hd e
theorem VH{P:Program}(hm:P.follows .mixedOrders=true){ng:List Nat}{nt:Nat}{call:Callee}(hc:aW P ng call){id:Nat}{ops:Array Oper}{pl:List (Nat×List Nat)}
 (hok:ops.toList.all (nA nt ng)=true)(hp:TA ops pl=true){σ:bQ}{R Rf:PlanTab.Fr}{W Wf:AW}{a:Act}{w:World}(hW:WRel σ W w.heap)(hG:Glob σ ng)(hR:RegRel nt σ R a.tmps)
 (h:kT P call ops pl R W=some (Rf,Wf)){ro:Option Nat}{Q:Exit->Act->World->Prop}
 (hQ:∀σ' a' w',RegRel nt σ' Rf a'.tmps->a'.defers=a.defers->WRel σ' Wf w'.heap->Ext σ W w σ' Wf w'->Q .normal a' w'):
 (Code.region id ops true).wpIn (FE ro) 0 P Q a w:=by
 refine wpIn_region_any hm ?_;unfold TA at hp;simp only[Bool.and_eq_true,List.all_eq_true,List.mem_range]at hp;obtain⟨h1,h2⟩:=hp;have hat:∀i o,ops[i]? =some o->(a4N ops.toList []).getD i 0=xG (a4N ops.toList []) o/\∃k∈pl,k.1=i:=by intro i o ho;have:=h1 i (Array.getElem?_eq_some_iff.1 ho).1;rw[ho]at this;simp only[Bool.and_eq_true,Nat.beq_eq,List.any_eq_true]at this;exact this.1
 have hok':∀(i:Nat) (o:Oper),ops[i]? =some o->nA nt ng o=true:=λi o ho=>List.all_eq_true.1 hok o (by have:=Array.mem_of_getElem? ho;simpa using this)
 have hsz:∀i,i<ops.size->(Array.replicate ops.size false).getD i true=false:=λi hi=>by simp[hi]
 have hcov:∀i,i<ops.size->(∃d∈([]:List Did),d.i=i)\/∃k∈pl,k.1=i:=λi hi=> .inr (hat i ops[i] (Array.getElem?_eq_getElem hi)).2
 refine a4y (A:=a4N ops.toList []) (W0:=W) (σ0:=σ) (w0:=w) (ds:=a.defers) hc hok' (λi o ho=>(hat i o ho).1) hQ ops.size pl [] _ (λ_=>none) σ R W a _ ?_ .nil h2 h hcov ?_
 ·refine⟨hW,hG,.drawn _ _ _ _,hR.1,rfl,by simp,λt ht _=>hR.2 t ht,?_,?_,?_,?_,?_,?_,?_,?_⟩
  ·intro i hi hl;rw[hsz i hi]at hl;cases hl
  ·intro d hd;cases hd
  ·intro d hd;cases hd
  ·intro d hd;cases hd
  ·intro i j hi hl;rw[hsz i hi]at hl;cases hl
  ·intro d hd;cases hd
  ·intro d hd;cases hd
  ·intro d hd;cases hd
 ·unfold unl;have:=List.countP_le_length (p:=λi=> !(Array.replicate ops.size false).getD i true) (l:=List.range ops.size);simpa using this
end
end Go.Eng
namespace Go.Eng
open Go
variable [PlanTab]
inductive X where
 |normal|exit (id:Nat)|ret
def X.to:X->Exit
 |.normal=>.normal
 |.exit id=>.exit id
 |.ret=>.ret
def X.jump:X->Option Code
 |.normal=>none
 |.exit id=>some (.exit id)
 |.ret=>some .ret
noncomputable def kN(body:PlanTab.Fr->AW->Option (X×PlanTab.Fr×AW)):Nat->PlanTab.Fr->AW->Option (X×PlanTab.Fr×AW)
 |0,_,_=>none
 |n+1,R,W=>match body R W with
  |some (.normal,R',W')=>kN body n R' W'
  |r=>r
noncomputable def bD(P:Program)(call:Callee)(top:Bool)(nt:Nat):Code->PlanTab.Fr->AW->Option (X×PlanTab.Fr×AW)
 |.skip,R,W=>some (.normal,R,W)
 |.label _,R,W=>some (.normal,R,W)
 |.region id ops draw,R,W=>
  match draw with
  |false=>(sQ P call ops ops.toList R W).map λr=>(.normal,r.1,r.2)
  |true=>match PlanTab.D id ops with
   |none=>(sQ P call ops ops.toList R W).map λr=>(.normal,r.1,r.2)
   |some pl=>(kT P call ops pl R W).map λr=>(.normal,r.1,r.2)
 |.seq a b,R,W=>match bD P call top nt a R W with
  |some (.normal,R',W')=>bD P call top nt b R' W'
  |r=>r
 |.cond c a b,R,W=>match aC R c with
  |.bool true=>bD P call top nt a R W
  |.bool false=>bD P call top nt b R W
  |_=>none
 |.block id b,R,W=>match bD P call top nt b R W with
  |some (.exit i,R',W')=>if i=id then some (.normal,R',W')else some (.exit i,R',W')
  |r=>r
 |.loop b,R,W=>kN (bD P call top nt b) 1000000 R W
 |.rangeFunc f ps as bd,R,W=>
  match top with
  |false=>none
  |true=>match aC R f with
   |.func (.func i) fs cs=>W.new (.loop .ready none R nt ps as bd) λl W1=>
    match call (.func (.func i) fs cs) [.func (.yield l) #[] #[]] W1 with
    |some (_,W2)=>match W2.get l with
     |some (.loop st pend _ _ _ _ _)=>(match st with
      |.busy=>none
      |_=>match pend with
       |none=>some (.normal,R,W2.kill l)
       |some (.exit i)=>some (.exit i,R,W2.kill l)
       |some .ret=>some (.ret,R,W2.kill l)
       |_=>none)
     |_=>none
    |none=>none
   |_=>none
 |.exit id,R,W=>some (.exit id,R,W)
 |.ret,R,W=>some (.ret,R,W)
 |.goto _,_,_=>none
 |.scope _,_,_=>none
 |.refuse _,_,_=>none
def Marks(n0:Nat)(σ:bQ)(w:World):List Deferred->Prop
 |[]=>True
 |d::ds=>(∃r,d={target:=.collected r,args:=#[]}/\n0<=r/\w.heap[r]? =some (.deferred (some []))/\(∀b g,σ b=some g->g.B≠r)/\
  ∀d'∈ds,∀r',d'.target=.collected r'->r'≠r)/\Marks n0 σ w ds
section
variable {P:Program} {σ σ':bQ} {W W':AW} {w w':World} {n0:Nat}
theorem Marks.ext(he:Ext σ W w σ' W' w'):∀{ds:List Deferred},Marks n0 σ w ds->Marks n0 σ' w' ds:=by
 intro ds;induction ds with
 |nil=>intro _;trivial
 |cons d ds ih=>
  rintro⟨⟨r,h1,h2,h3,h4,h5⟩,hds⟩;have hr:r<w.heap.size:=(Array.getElem?_eq_some_iff.1 h3).1;have hm:¬Mut σ W r:=by rintro⟨b,g,hg,e,_⟩;exact h4 b g hg e
  refine⟨⟨r,h1,h2,(he.keep r hr hm).trans h3,λb g hg e=>?_,h5⟩,ih hds⟩;rcases he.grow b g hg (by omega)with h|h
  ·exact h4 b g h e
  ·rw[e]at h;exact hm h
theorem Marks.drawn{n:Nat}{ds:List Deferred}(h:Marks n0 σ w ds):Marks n0 σ {w with drawn:=n} ds:=h.ext (Ext.drawn σ ⟨.lf,0⟩ w n)
theorem WRel.push(h:WRel σ W w.heap)(x:Obj)(hx:∀c t fr,x≠ .cells c t fr):WRel σ W (w.heap.push x)/\Ext σ W w σ W {w with heap:=w.heap.push x}:=by
 have hold:∀B,B<w.heap.size->(w.heap.push x)[B]? =w.heap[B]? :=λB hB=>by rw[Array.getElem?_push];rw[if_neg (by omega)]
 refine⟨⟨h.free,λb g hg=>?_,λb o g hb hg=>(h.obj b o g hb hg).same (hold _ (h.dom b g hg).2),h.disj⟩,
  ⟨.refl _,λ_ _ h=>h,by simp,rfl,rfl,rfl,λB hB _=>hold B hB,λ_ _ h k=>⟨h,k⟩,λb g hg _=>.inl hg⟩⟩
 ·have:=h.dom b g hg;simp;omega
theorem WRel.other(h:WRel σ W w.heap){r:Nat}(hr:∀b g,σ b=some g->g.B≠r)(x:Obj):WRel σ W (w.heap.setIfInBounds r x):=by
 refine⟨h.free,λb g hg=>?_,λb o g hb hg=>(h.obj b o g hb hg).same ?_,h.disj⟩
 ·have:=h.dom b g hg;simpa using this
 ·rw[Array.getElem?_setIfInBounds_ne (Ne.symm (hr b g hg))]
theorem QV(ops:Array Oper):(List.range ops.size).filterMap (λi=>ops[i]?)=ops.toList:=by
 have h1:(List.range ops.size).filterMap (λi=>ops[i]?)=(List.range ops.size).map λi=>ops.getD i default:=by
  have key:∀l:List Nat,(∀i∈l,i<ops.size)->l.filterMap (λi=>ops[i]?)=l.map λi=>ops.getD i default:=by
   intro l;induction l with
   |nil=>intro _;rfl
   |cons i l ih=>intro h;have hi:i<ops.size:=h i (by simp);simp only[List.filterMap_cons,List.map_cons,Array.getElem?_eq_getElem hi];rw[ih λj hj=>h j (by simp[hj])];simp[hi]
  exact key _ λi hi=>by simpa using hi
 rw[h1];refine List.ext_getElem? λi=>?_
 simp only[List.getElem?_map,Array.getElem?_toList];by_cases hi:i<ops.size
 ·rw[List.getElem?_range hi];simp[hi]
 ·rw[List.getElem?_eq_none (by simpa using hi)];simp[hi]
theorem a8B{ng:List Nat}{nt:Nat}{call:Callee}(hc:aW P ng call){ops:Array Oper}(hok:∀(i:Nat) (o:Oper),ops[i]? =some o->nA nt ng o=true){ro:Option Nat}{Q:Exit->Act->World->Prop}{Rf:PlanTab.Fr}{Wf:AW}:
 ∀(l:List Nat) (σ:bQ) (R:PlanTab.Fr) (W:AW) (a:Act) (w:World),(∀i∈l,i<ops.size)->WRel σ W w.heap->Glob σ ng->RegRel nt σ R a.tmps->
  sQ P call ops (l.filterMap λi=>ops[i]?) R W=some (Rf,Wf)->
  (∀σ' a' w',RegRel nt σ' Rf a'.tmps->a'.defers=a.defers->WRel σ' Wf w'.heap->Ext σ W w σ' Wf w'->Q .normal a' w')->wpOpsIn (FE ro) 0 P ops Q l a w:=by
 intro l;induction l with
 |nil=>intro σ R W a w _ hW hG hR h hQ;injection h with h;injection h with h1 h2;subst h1;subst h2;exact hQ σ a w hR rfl hW (.refl _ _ _)
 |cons i l ih=>
  intro σ R W a w hl hW hG hR h hQ;have hi:i<ops.size:=hl i (by simp);have hg:ops[i]? =some ops[i]:=Array.getElem?_eq_getElem hi;simp only[List.filterMap_cons,hg,sQ]at h;split at h;case h_2=>cases h
  rename_i R' W' hs;have hlook:∀t∈(ops[i]).looksAt ops,VR σ (dP R t) (a.tmps.getD t undef):=λt ht=>hR.2 t (Y1 hok hg ht)
  have hρ:=wF hG (hok _ _ hg) hlook;have hwe:=GK hlook;simp only[wpOpsIn,hg,hwe];unfold lQ at hs;split at hs
  ·rename_i hw;rw[if_pos hw];split at hs
   ·rename_i v W1 hop;injection hs with hs;injection hs with hs1 hs2;subst hs1;subst hs2;refine RG hc hW hG hop hρ λσ' v' w' hv hw' he=>?_
    exact ih σ' _ _ _ w' (λj hj=>hl j (by simp[hj])) hw' (hG.mono he.sub) ((hR.mono he.sub).put _ hv) h
     (λσ'' a' w'' k1 k2 k3 k4=>hQ σ'' a' w'' k1 (by rw[k2,put_defers]) k3 (he.trans k4))
   ·cases hs
  ·rename_i hw;rw[if_neg hw];injection hs with hs;injection hs with hs1 hs2;subst hs1;subst hs2
   exact⟨λf _=>trivial,ih σ _ _ _ w (λj hj=>hl j (by simp[hj])) hW hG (hR.put _ .undef) h
    (λσ'' a' w'' k1 k2 k3 k4=>hQ σ'' a' w'' k1 (by rw[k2,put_defers]) k3 k4)⟩
end
end Go.Eng
namespace Go.Eng
open Go
variable [PlanTab]
section
variable {P:Program}
theorem BH{x:X}{R':PlanTab.Fr}{W':AW}{y:Option (PlanTab.Fr×AW)}(h:(y.map λr=>((X.normal,r.1,r.2):X×PlanTab.Fr×AW))=some (x,R',W')):x=.normal/\y=some (R',W'):=by
 cases y with
 |none=>cases h
 |some r=>simp only[Option.map_some,Option.some.injEq,Prod.mk.injEq]at h;obtain⟨h1,h2,h3⟩:=h;exact⟨h1.symm,by rw[<-h2,<-h3]⟩
def a7S(P:Program)(ng:List Nat)(nt n0:Nat)(ro:Option Nat)(c:Code)(x:X)(R:PlanTab.Fr)(W:AW)(R':PlanTab.Fr)(W':AW):Prop:=
 ∀(σ:bQ) (a:Act) (w:World) (Q:Exit->Act->World->Prop),WRel σ W w.heap->Glob σ ng->RegRel nt σ R a.tmps->Marks n0 σ w a.defers->n0<=w.heap.size->
  (∀σ' a' w',RegRel nt σ' R' a'.tmps->Marks n0 σ' w' a'.defers->WRel σ' W' w'.heap->Ext σ W w σ' W' w'->Q x.to a' w')->c.wpIn (FE ro) 0 P Q a w
theorem a07{x:X}(hx:x≠ .normal){N:Act->World->Prop}{Q:Exit->Act->World->Prop}{a:Act}{w:World}(h:Q x.to a w):Exit.then N Q x.to a w:=by
 cases x with
 |normal=>exact absurd rfl hx
 |exit id=>exact h
 |ret=>exact h
theorem YD{x:X}{id:Nat}{Q:Exit->Act->World->Prop}{a:Act}{w:World}(h:(match x with|.exit i=>if i=id then Q .normal a w else Q (.exit i) a w|x=>Q x.to a w)):Exit.inBlock id Q x.to a w:=by
 cases x with
 |normal=>exact h
 |exit i=>exact h
 |ret=>exact h
theorem a4B{ng:List Nat}{nt n0:Nat}{ro:Option Nat}{b:Code}{body:PlanTab.Fr->AW->Option (X×PlanTab.Fr×AW)}(hb:∀x R W R' W',body R W=some (x,R',W')->a7S P ng nt n0 ro b x R W R' W'):
 ∀(m:Nat) (x:X) (R:PlanTab.Fr) (W:AW) (R':PlanTab.Fr) (W':AW),kN body m R W=some (x,R',W')->x≠ .normal/\∀(σ:bQ) (a:Act) (w:World) (Q:Exit->Act->World->Prop),WRel σ W w.heap->Glob σ ng->RegRel nt σ R a.tmps->Marks n0 σ w a.defers->n0<=w.heap.size->
  (∀σ' a' w',RegRel nt σ' R' a'.tmps->Marks n0 σ' w' a'.defers->WRel σ' W' w'.heap->Ext σ W w σ' W' w'->Q x.to a' w')->Code.roundsIn (FE ro) 0 P b Q m a w:=by
 intro m;induction m with
 |zero=>intro x R W R' W' h;cases h
 |succ m ih=>
  intro x R W R' W' h;unfold kN at h;split at h
  ·rename_i R1 W1 h1;obtain⟨hx,hrest⟩:=ih x R1 W1 R' W' h;refine⟨hx,λσ a w Q hW hG hR hM hn hQ=>?_⟩;refine hb _ _ _ _ _ h1 σ a w _ hW hG hR hM hn λσ1 a1 w1 k1 k2 k3 k4=>?_
   exact hrest σ1 a1 w1 Q k3 (hG.mono k4.sub) k1 k2 (Nat.le_trans hn k4.size) λσ2 a2 w2 g1 g2 g3 g4=>hQ σ2 a2 w2 g1 g2 g3 (k4.trans g4)
  ·rename_i hne;have hx:x≠ .normal:=by rintro rfl;exact hne R' W' h
   refine⟨hx,λσ a w Q hW hG hR hM hn hQ=>?_⟩;exact hb _ _ _ _ _ h σ a w _ hW hG hR hM hn λσ1 a1 w1 k1 k2 k3 k4=>a07 hx (hQ σ1 a1 w1 k1 k2 k3 k4)
theorem yK(hm:P.follows .mixedOrders=true){ng:List Nat}{nt n0:Nat}(hng:ng=PlanTab.ng){call:Callee}(hc:aW P ng call){top:Bool}{ro:Option Nat}(hro:top=true->ro=none):
 ∀(c:Code),jF nt ng c=true->∀(x:X) (R:PlanTab.Fr) (W:AW) (R':PlanTab.Fr) (W':AW),bD P call top nt c R W=some (x,R',W')->a7S P ng nt n0 ro c x R W R' W':=by
 intro c;induction c with
 |skip=>intro _ x R W R' W' h σ a w Q hW hG hR hM hn hQ;injection h with h;injection h with h1 h2;injection h2 with h2 h3;subst h1;subst h2;subst h3;exact wpIn_skip (hQ σ a w hR hM hW (.refl _ _ _))
 |label l=>intro _ x R W R' W' h σ a w Q hW hG hR hM hn hQ;injection h with h;injection h with h1 h2;injection h2 with h2 h3;subst h1;subst h2;subst h3;exact wpIn_label (hQ σ a w hR hM hW (.refl _ _ _))
 |exit id=>intro _ x R W R' W' h σ a w Q hW hG hR hM hn hQ;injection h with h;injection h with h1 h2;injection h2 with h2 h3;subst h1;subst h2;subst h3;exact wpIn_exit (hQ σ a w hR hM hW (.refl _ _ _))
 |ret=>intro _ x R W R' W' h σ a w Q hW hG hR hM hn hQ;injection h with h;injection h with h1 h2;injection h2 with h2 h3;subst h1;subst h2;subst h3;exact wpIn_ret (hQ σ a w hR hM hW (.refl _ _ _))
 |goto l=>intro _ x R W R' W' h;cases h
 |scope b _=>intro _ x R W R' W' h;cases h
 |refuse s=>intro _ x R W R' W' h;cases h
 |region id ops draw=>
  intro hok x R W R' W' h σ a w Q hW hG hR hM hn hQ;simp only[jF,Bool.and_eq_true,Bool.or_eq_true,Bool.not_eq_true']at hok;have hok':∀(i:Nat) (o:Oper),ops[i]? =some o->nA nt ng o=true:=λi o ho=>List.all_eq_true.1 hok.1 o (by have:=Array.mem_of_getElem? ho;simpa using this)
  unfold bD at h;split at h
  ·obtain⟨hx,hy⟩:=BH h;subst hx;refine wpIn_region (a8B hc hok' (List.range ops.size) σ R W a w (by simp) hW hG hR (by rw[QV];exact hy) λσ' a' w' k1 k2 k3 k4=>?_);exact hQ σ' a' w' k1 (by rw[k2];exact hM.ext k4) k3 k4
  ·have hpl:TA ops (a5e ops (PlanTab.D id ops))=true:=hok.2.resolve_left (by simp);split at h
   ·rename_i hD;obtain⟨hx,hy⟩:=BH h;subst hx;rw[hD]at hpl;refine VH hm hc hok.1 hpl hW hG hR (Rf:=R') (Wf:=W') ?_ λσ' a' w' k1 k2 k3 k4=>hQ σ' a' w' k1 (by rw[k2];exact hM.ext k4) k3 k4
    show kT P call ops ((List.range ops.size).map λi=>(i,[])) R W=_;rw[ZL _ _ _ (by simp),QV];exact hy
   ·rename_i pl hD;obtain⟨hx,hy⟩:=BH h;subst hx;rw[hD]at hpl;exact VH hm hc hok.1 hpl hW hG hR hy λσ' a' w' k1 k2 k3 k4=>hQ σ' a' w' k1 (by rw[k2];exact hM.ext k4) k3 k4
 |seq b c ihb ihc=>
  intro hok x R W R' W' h σ a w Q hW hG hR hM hn hQ;simp only[jF,Bool.and_eq_true]at hok;unfold bD at h;split at h
  ·rename_i R1 W1 h1;refine wpIn_seq (ihb hok.1 _ _ _ _ _ h1 σ a w _ hW hG hR hM hn λσ1 a1 w1 k1 k2 k3 k4=>?_);exact ihc hok.2 _ _ _ _ _ h σ1 a1 w1 Q k3 (hG.mono k4.sub) k1 k2 (Nat.le_trans hn k4.size) λσ2 a2 w2 g1 g2 g3 g4=>hQ σ2 a2 w2 g1 g2 g3 (k4.trans g4)
  ·rename_i hne;have hx:x≠ .normal:=by rintro rfl;exact hne R' W' h
   exact wpIn_seq (ihb hok.1 _ _ _ _ _ h σ a w _ hW hG hR hM hn λσ1 a1 w1 k1 k2 k3 k4=>a07 hx (hQ σ1 a1 w1 k1 k2 k3 k4))
 |cond o b c ihb ihc=>
  intro hok x R W R' W' h σ a w Q hW hG hR hM hn hQ;simp only[jF,Bool.and_eq_true]at hok;obtain⟨⟨h1,h2⟩,h3⟩:=hok;have hv:=PX hR hG h1;unfold bD at h;split at h
  ·rename_i he;rw[he]at hv;exact wpIn_cond_true hv.bool_inv (ihb h2 _ _ _ _ _ h σ a w Q hW hG hR hM hn hQ)
  ·rename_i he;rw[he]at hv;exact wpIn_cond_false hv.bool_inv (ihc h3 _ _ _ _ _ h σ a w Q hW hG hR hM hn hQ)
  ·cases h
 |block id b ih=>
  intro hok x R W R' W' h σ a w Q hW hG hR hM hn hQ;simp only[jF]at hok;unfold bD at h;split at h
  ·rename_i i R1 W1 h1;refine wpIn_block (ih hok _ _ _ _ _ h1 σ a w _ hW hG hR hM hn λσ1 a1 w1 k1 k2 k3 k4=>YD ?_);simp only;split at h
   ·rename_i hi;injection h with h;injection h with e1 e2;injection e2 with e2 e3;subst e1;subst e2;subst e3;rw[if_pos hi];exact hQ σ1 a1 w1 k1 k2 k3 k4
   ·rename_i hi;injection h with h;injection h with e1 e2;injection e2 with e2 e3;subst e1;subst e2;subst e3;rw[if_neg hi];exact hQ σ1 a1 w1 k1 k2 k3 k4
  ·rename_i hne;refine wpIn_block (ih hok _ _ _ _ _ h σ a w _ hW hG hR hM hn λσ1 a1 w1 k1 k2 k3 k4=>YD ?_);cases x with
   |normal=>exact hQ σ1 a1 w1 k1 k2 k3 k4
   |exit i=>exact absurd h (hne i R' W')
   |ret=>exact hQ σ1 a1 w1 k1 k2 k3 k4
 |loop b ih=>intro hok x R W R' W' h σ a w Q hW hG hR hM hn hQ;simp only[jF]at hok;unfold bD at h;exact wpIn_loop_rounds _ ((a4B (λx R W R' W' hh=>ih hok x R W R' W' hh) _ x R W R' W' h).2 σ a w Q hW hG hR hM hn hQ)
 |rangeFunc f ps as bd _ _=>
  intro hok x R W R' W' h σ a w Q hW hG hR hM hn hQ;simp only[jF,Bool.and_eq_true]at hok;obtain⟨⟨⟨h1,h2⟩,h3⟩,h4⟩:=hok;unfold bD at h;split at h
  ·cases h
  have hro':ro=none:=hro rfl;subst hro';split at h;case h_2=>cases h
  rename_i i0 fs0 cs0 hf0;rw[AW.new_eq]at h;split at h;case h_2=>cases h
  rename_i u W2 hcall;split at h;case h_2=>cases h
  rename_i st pend R9 nt9 ps9 as9 bd9 hget;obtain⟨p1,p2⟩:=hW.push (.deferred (some [])) (λ_ _ _ e=>by cases e);let w0:World:={w with heap:=w.heap.push (.deferred (some []))};let rec_:Nat->Loop:=λfn=>{state:=.ready,pending:=none,fn,tmps:=a.tmps,params:=ps,assign:=as,body:=bd,defers:=w.heap.size}
  refine wpIn_rangeFunc λfn _=>?_
  have hsub0:Sub σ (bB σ W.next ⟨w0.heap.size,0,1⟩):=dA hW.fresh;obtain⟨q1,q2⟩:=WRel.alloc (w:=w0) p1 (o:=.loop .ready none R nt ps as bd) (x:=.loop (rec_ fn)) (e:=1)
   ⟨rfl,rfl,rec_ fn,by simp,rfl,rfl,hR.mono hsub0,rfl,rfl,rfl,⟨by rw[<-hng];exact hG.mono hsub0,by rw[<-hng];exact h3⟩,⟨by rw[<-hng];exact hG.mono hsub0,by rw[<-hng];exact h4⟩,h2⟩
  have hfv:=(PX hR hG h1).mono hsub0;rw[hf0]at hfv;have hargs:LR (bB σ W.next ⟨w0.heap.size,0,1⟩) [.func (.yield W.next) #[] #[]] [.func (.yield w0.heap.size) #[] #[]]:=
   .cons (.func _ _ _ _ _ _ (.yield _ _ cZ) rfl (λi v v' x=>by simp at x) rfl (λi v v' x=>by simp at x)) .nil
  have hcv:=hc _ _ _ _ _ hcall _ {w0 with heap:=w0.heap.push (.loop (rec_ fn))} _ _ q1 (hG.mono hsub0) hfv hargs;have hszl:w0.heap.size=w.heap.size+1:=by simp[w0]
  have hmark0:Marks n0 (bB σ W.next ⟨w0.heap.size,0,1⟩) {w0 with heap:=w0.heap.push (.loop (rec_ fn))} ([{target:=.collected w.heap.size,args:=#[]}]++a.defers):=by
   refine⟨⟨w.heap.size,rfl,hn,?_,?_,?_⟩,(hM.ext p2).ext q2⟩
   ·show(w0.heap.push _)[w.heap.size]? =_;rw[Array.getElem?_push,if_neg (by omega)];simp[w0]
   ·intro b g hg e;unfold bB at hg;split at hg
    ·injection hg with hg;subst hg;simp at e;omega
    ·have:=(hW.dom b g hg).2;omega
   ·intro d' hd' r' ht e;have:∀{ds:List Deferred},Marks n0 σ w ds->∀d'∈ds,∀r',d'.target=.collected r'->r'<w.heap.size:=by
     intro ds;induction ds with
     |nil=>intro _ d' hd';cases hd'
     |cons d ds ih=>
      rintro⟨⟨r,e1,e2,e3,_⟩,hds⟩ d' hd' r' ht;rcases List.mem_cons.1 hd' with rfl|hd'
      ·rw[e1]at ht;injection ht with ht;subst ht;exact(Array.getElem?_eq_some_iff.1 e3).1
      ·exact ih hds d' hd' r' ht
    have:=this hM d' hd' r' ht;omega
  unfold zY at hcv;split at hcv;case h_3=>exact hcv.elim
  ·rename_i fv i fs cs heq;obtain⟨c1,c2⟩:=hcv;refine⟨w0.heap.size,[{target:=.collected w.heap.size,args:=#[]}],{w0 with heap:=w0.heap.push (.loop (rec_ fn))},{target:=.fn (.func i) cs,args:=fs++#[.func (.yield w0.heap.size) #[] #[]]},{w0 with heap:=w0.heap.push (.loop (rec_ fn))},i,fs++#[.func (.yield w0.heap.size) #[] #[]]++cs,{w0 with heap:=w0.heap.push (.loop (rec_ fn))},?_,?_,λ_ _=>trivial,?_,λhd=>by rw[LY]at hd;simp at hd,?_⟩
   ·show(Instr.enterLoop fn a.tmps ps as bd none).run P w=_;rw[run_enterLoop_outer,hszl];rfl
   ·show(resolve a.eval (rangeCall f w0.heap.size) 0).run P _=.ok _ {w0 with heap:=w0.heap.push (.loop (rec_ fn))};have:a.eval f=.func (.func i) fs cs:=heq;have hcst:a.eval (.const (.func (.yield w0.heap.size) #[] #[]))=.func (.yield w0.heap.size) #[] #[]:=rfl;simp[resolve,rangeCall,this,Deferred.ofValue,hcst]
   ·show(invoke (.fn (.func i) cs) (fs++#[.func (.yield w0.heap.size) #[] #[]])).run P _=_;have c1':(callFunc i (fs++#[.func (.yield w0.heap.size) #[] #[]]++cs)).run P {w0 with heap:=w0.heap.push (.loop (rec_ fn))}=_:=c1;simpa[invoke]using c1'
   ·refine CallsIn.mono (LU c2) ?_;rintro e w' ⟨v',rfl,σ',k1,k2,k3⟩;obtain⟨hz,hzz⟩:σ' W.next=some ⟨w0.heap.size,0,1⟩/\True:=⟨k3.sub _ _ cZ,trivial⟩;obtain⟨_,_,r,r1,r2,r3,r4,r5,r6,r7,r8,r9,r10⟩:=k2.obj _ _ _ hget hz;have hstb:st≠ .busy:=by rintro rfl;simp at h
    have hend:=run_endLoop (P:=P) r1 (by rw[r2];exact hstb);obtain⟨s1,s2⟩:=k2.setObj (w:=w') (o':=.loop .exhausted pend R9 nt9 ps9 as9 bd9) (x:=.loop {r with state:=.exhausted}) hget (λ_=>by simp) hz ⟨rfl,rfl⟩ (λc t fr e=>by rw[r1]at e;cases e)
     ⟨rfl,rfl,{r with state:=.exhausted},by simp[(k2.dom _ _ hz).2],rfl,r3,r4,r5,r6,r7,r8,r9,r10⟩
    obtain⟨t1,t2⟩:=WRel.kill (w:={w' with heap:=w'.heap.setIfInBounds w0.heap.size (.loop {r with state:=.exhausted})}) s1 (b:=W.next) (g0:=⟨w0.heap.size,0,1⟩) (λcs=>by rw[AW.get_put];simp) hz;have hkill:(W2.put W.next (.loop .exhausted pend R9 nt9 ps9 as9 bd9)).kill W.next=W2.kill W.next:=by simp only[AW.kill,AW.put];congr 1;exact T.set_set _ _ _ _
    rw[hkill]at t1 t2;have hext:Ext σ W w σ' (W2.kill W.next) {w' with heap:=w'.heap.setIfInBounds w0.heap.size (.loop {r with state:=.exhausted})}:=
     (((p2.trans q2).trans k3).trans s2).trans t2
    have hmarks:Marks n0 σ' {w' with heap:=w'.heap.setIfInBounds w0.heap.size (.loop {r with state:=.exhausted})} ([{target:=.collected w.heap.size,args:=#[]}]++a.defers):=
     ((hmark0.ext k3).ext s2).ext t2
    refine⟨pend,{w' with heap:=w'.heap.setIfInBounds w0.heap.size (.loop {r with state:=.exhausted})},by rw[hend,r3];rfl,?_⟩;have fin:∀x',x=x'->R'=R->W'=W2.kill W.next->Q x'.to {a with defers:=[{target:=.collected w.heap.size,args:=#[]}]++a.defers} {w' with heap:=w'.heap.setIfInBounds w0.heap.size (.loop {r with state:=.exhausted})}:=by rintro x' rfl rfl rfl;exact hQ σ' _ _ (hR.mono hext.sub) hmarks t1 hext
    cases pend with
    |none=>
     have:x=.normal/\R'=R/\W'=W2.kill W.next:=by cases st<;>simp at h<;>simp_all
     exact fin .normal this.1 this.2.1 this.2.2
    |some cc=>
     cases cc<;>first
      |(exfalso;cases st<;>simp at h;done)
      |skip
     ·rename_i id;have:x=.exit id/\R'=R/\W'=W2.kill W.next:=by cases st<;>simp at h<;>simp_all
      exact wpIn_exit (fin (.exit id) this.1 this.2.1 this.2.2)
     ·have:x=.ret/\R'=R/\W'=W2.kill W.next:=by cases st<;>simp at h<;>simp_all
      exact wpIn_ret (fin .ret this.1 this.2.1 this.2.2)
  ·rename_i fv l fs cs heq;exfalso;obtain⟨fn',fs',cs',k1,_,_,k4⟩:=hfv.func_inv;cases k1;rw[heq]at k4;cases k4
end
end Go.Eng
namespace Go.Eng
open Go
variable [PlanTab]
noncomputable def dH:Nat->List Value->PlanTab.Fr->PlanTab.Fr
 |_,[],R=>R
 |k,v::l,R=>dH (k+1) l (WP R k v)
noncomputable def pW:List Tmp->List Value->PlanTab.Fr->PlanTab.Fr
 |t::ts,v::l,R=>pW ts l (WP R t v)
 |_,_,R=>R
noncomputable def NZ(P:Program)(W:AW)(R:PlanTab.Fr):List ResultVar->Option (List Value)
 |[]=>some []
 |.tmp t::l=>match NZ P W R l with
  |some vs=>some (dP R t::vs)
  |none=>none
 |.cell a t::l=>match mY P W t (dP R a)with
  |some v=>match NZ P W R l with
   |some vs=>some (v::vs)
   |none=>none
  |none=>none
noncomputable def uY(P:Program)(W:AW)(R:PlanTab.Fr)(rs:Array ResultVar):Option Value:=
 match NZ P W R rs.toList with
 |some [v]=>some v
 |some vs=>some (.tuple vs.toArray)
 |none=>none
def Q7(nt:Nat):ResultVar->Bool
 |.tmp t=>Nat.blt t nt
 |.cell a _=>Nat.blt a nt
def a0S(ng:List Nat)(fn:Func):Bool:=
 match fn.body with
 |some c=>jF fn.ntmps ng c&&fn.results.toList.all (Q7 fn.ntmps)&& !(fn.name== "runtime.NumGoroutine")
 |none=>true
def rW(ng:List Nat)(bad:List Nat):Nat->List Func->Bool
 |_,[]=>true
 |i,fn::l=>(R4 i bad||a0S ng fn)&&rW ng bad (i+1) l
noncomputable def gP(P:Program)(bad:List Nat)(spec call:Callee):Callee:=λf args W=>
 match f with
 |.func (.func i) fs cs=>match R4 i bad with
  |true=>spec (.func (.func i) fs cs) args W
  |false=>match P.funcs[i]? with
   |some fn=>match fn.body with
    |some c=>match Nat.ble (fs.toList.length+(args.length+cs.toList.length)) fn.ntmps with
     |true=>match bD P call true fn.ntmps c (dH 0 (fs.toList++(args++cs.toList)) PlanTab.blank) W with
      |some (x,R,W')=>match x with
       |.exit _=>none
       |_=>match uY P W' R fn.results with
        |some v=>some (v,W')
        |none=>none
      |none=>none
     |false=>none
    |none=>none
   |none=>none
 |.func (.yield l) fs _=>match W.get l with
  |some (.loop .ready none R nt ps as bd)=>match Nat.beq (fs.toList.length+args.length) ps.size with
   |true=>match bD P call false nt as (pW ps.toList (fs.toList++args) R) W with
    |some (.normal,R1,W1)=>match W1.get l with
     |some (.loop .ready pd9 R9 nt9 ps9 as9 bd9)=>match bD P call false nt bd R1 (W1.put l (.loop .busy pd9 R9 nt9 ps9 as9 bd9))with
      |some (x,_,W2)=>match W2.get l with
       |some (.loop _ _ R8 nt8 ps8 as8 bd8)=>match x with
        |.normal=>some (.bool true,W2.put l (.loop .ready none R8 nt8 ps8 as8 bd8))
        |x=>some (.bool false,W2.put l (.loop .done x.jump R8 nt8 ps8 as8 bd8))
       |_=>none
      |none=>none
     |_=>none
    |_=>none
   |false=>none
  |_=>none
 |_=>none
noncomputable def ZC(P:Program)(bad:List Nat)(spec:Callee):Nat->Callee
 |0=>λ_ _ _=>none
 |n+1=>gP P bad spec (ZC P bad spec n)
theorem Z6{ng:List Nat}{bad:List Nat}:∀(l:List Func) (k:Nat),rW ng bad k l=true->∀(i:Nat) (fn:Func),l[i]? =some fn->R4 (k+i) bad=false->a0S ng fn=true:=by
 intro l;induction l with
 |nil=>intro k _ i fn h;simp at h
 |cons f l ih=>
  intro k h i fn hi hb;simp only[rW,Bool.and_eq_true,Bool.or_eq_true]at h;cases i with
  |zero=>
   simp at hi;subst hi;rcases h.1 with h1|h1
   ·simp at hb;rw[h1]at hb;cases hb
   ·exact h1
  |succ i=>simp at hi;exact ih (k+1) h.2 i fn hi (by rw[<-hb];congr 1;omega)
theorem a6o(t:Nat):dP PlanTab.blank t=undef:=PlanTab.get_blank t
theorem a2l:∀(l:List Value) (k:Nat) (R:PlanTab.Fr) (t:Nat),dP (dH k l R) t=if k<=t/\t<k+l.length then l.getD (t-k) undef else dP R t:=by
 intro l;induction l with
 |nil=>intro k R t;simp[dH];intro h1 h2;omega
 |cons v l ih=>
  intro k R t;simp only[dH,ih,List.length_cons];by_cases h:k=t
  ·subst h;rw[if_neg (by omega),if_pos (by omega),F9];simp
  ·rw[vP _ _ h];by_cases h2:k+1<=t/\t<k+1+l.length
   ·rw[if_pos h2,if_pos (by omega)];obtain⟨j,hj⟩:∃j,t-k=j+1:=⟨t-k-1,by omega⟩;have:t-(k+1)=j:=by omega
    rw[this,hj];simp
   ·rw[if_neg h2,if_neg (by omega)]
section
variable {P:Program} {σ:bQ} {W:AW} {w:World}
theorem a5z{nt:Nat}{l:List Value}{a:Array Value}(h:LR σ l a.toList)(hn:l.length<=nt):RegRel nt σ (dH 0 l PlanTab.blank) (a++Array.replicate (nt-a.size) undef):=by
 have hlen:l.length=a.size:=by have:=h.1;simpa using this
 refine⟨by simp;omega,λt ht=>?_⟩;rw[a2l];by_cases hlt:t<l.length
 ·rw[if_pos (by omega)];have h1:l[t]? =some l[t]:=List.getElem?_eq_getElem hlt;obtain⟨v',e,hv⟩:=h.get h1;have e1:l.getD (t-0) undef=l[t]:=by simp[hlt]
  have e2:(a++Array.replicate (nt-a.size) undef).getD t undef=v':=by
   rw[Array.getElem?_toList]at e;have:t<a.size:=by omega
   simp[Array.getElem?_append,this,e];rw[Array.getElem?_eq_getElem this]at e;injection e
  rw[e1,e2];exact hv
 ·rw[if_neg (by omega),a6o];have e2:(a++Array.replicate (nt-a.size) undef).getD t undef=undef:=by simp only[Array.getD_eq_getD_getElem?,Array.getElem?_append];rw[if_neg (by omega)];simp[Array.getElem?_replicate];split<;>rfl
  rw[e2];exact .undef
theorem a7y{nt:Nat}:∀(ts:List Tmp) (l l':List Value) (R:PlanTab.Fr) (tm:Array Value),LR σ l l'->ts.all (λt=>Nat.blt t nt)=true->RegRel nt σ R tm->
 RegRel nt σ (pW ts l R) ((ts.zip l').foldl (λtmps (x:Tmp×Value)=>tmps.setIfInBounds x.1 x.2) tm):=by
 intro ts;induction ts with
 |nil=>intro l l' R tm h _ hR;cases l<;>exact hR
 |cons t ts ih=>
  intro l l' R tm h ha hR;cases l with
  |nil=>have:=h.of_nil;subst this;exact hR
  |cons v l=>obtain⟨v',l'',rfl,hv,hl⟩:=h.of_cons;simp only[List.all_cons,Bool.and_eq_true]at ha;exact ih l l'' _ _ hl ha.2 (hR.set t hv)
theorem VZ(hW:WRel σ W w.heap){t:TypeId}{x x' v:Value}(h:mY P W t x=some v)(hx:VR σ x x'):
 ∃v',(do loadVar t (<-asAddr x'):Sem Value).run P w=.ok v' w/\VR σ v v':=by
 obtain⟨v',h1,h2⟩:=QA hW h hx;refine⟨v',?_,h2⟩;rw[<-h1];unfold mY at h;split at h
 ·obtain⟨g,hg,hs,rfl⟩:=hx.ptr_inv;simp[asAddr,Instr.loadAt,Instr.sureAddr]
 ·cases h
def RN(tmps:Array Value)(r:ResultVar):Sem Value:=
 match r with
 |.tmp t=>pure (tmps.getD t undef)
 |.cell a t=>do loadVar t (<-asAddr (tmps.getD a undef))
theorem ZH(fn:Func)(tmps:Array Value):results fn tmps=(do let vs<-fn.results.mapM (RN tmps);pure (if h:vs.size=1 then vs[0]else .tuple vs)):=rfl
theorem a5Q(hW:WRel σ W w.heap){nt:Nat}{R:PlanTab.Fr}{tmps:Array Value}(hR:RegRel nt σ R tmps):∀(rs:List ResultVar) (vs:List Value),rs.all (Q7 nt)=true->NZ P W R rs=some vs->
 ∃vs',LR σ vs vs'/\(rs.mapM (RN tmps)).run P w=.ok vs' w:=by
 intro rs;induction rs with
 |nil=>intro vs _ h;injection h with h;subst h;exact⟨[],.nil,by simp⟩
 |cons r rs ih=>
  intro vs hok h;simp only[List.all_cons,Bool.and_eq_true]at hok;cases r with
  |tmp t=>
   unfold NZ at h;split at h
   ·rename_i vs0 h0;injection h with h;subst h;obtain⟨vs',k1,k2⟩:=ih vs0 hok.2 h0;refine⟨_,.cons (hR.2 t (by simpa[Q7,Nat.blt_eq]using hok.1)) k1,?_⟩;have h1:(RN tmps (.tmp t)).run P w=.ok (tmps.getD t undef) w:=rfl;rw[List.mapM_cons,Sem.run_bind,h1,Result.andThen_ok,Sem.run_bind,k2,Result.andThen_ok];rfl
   ·cases h
  |cell a t=>
   unfold NZ at h;split at h
   ·rename_i v hv;split at h
    ·rename_i vs0 h0;injection h with h;subst h;obtain⟨vs',k1,k2⟩:=ih vs0 hok.2 h0;obtain⟨v',k3,k4⟩:=VZ hW hv (hR.2 a (by simpa[Q7,Nat.blt_eq]using hok.1));refine⟨_,.cons k4 k1,?_⟩;have h1:(RN tmps (.cell a t)).run P w=.ok v' w:=k3;rw[List.mapM_cons,Sem.run_bind,h1,Result.andThen_ok,Sem.run_bind,k2,Result.andThen_ok];rfl
    ·cases h
   ·cases h
theorem QZ(hW:WRel σ W w.heap){fn:Func}{R:PlanTab.Fr}{tmps:Array Value}{v:Value}(hok:fn.results.toList.all (Q7 fn.ntmps)=true)(hR:RegRel fn.ntmps σ R tmps)(h:uY P W R fn.results=some v):
 ∃v',(results fn tmps).run P w=.ok v' w/\VR σ v v':=by
 unfold uY at h;have key:∀vs,NZ P W R fn.results.toList=some vs->∃vs',LR σ vs vs'/\(results fn tmps).run P w=.ok (if h:vs'.toArray.size=1 then vs'.toArray[0]else .tuple vs'.toArray) w:=by intro vs hvs;obtain⟨vs',k1,k2⟩:=a5Q hW hR _ _ hok hvs;refine⟨vs',k1,?_⟩;rw[ZH,Sem.run_bind,Array.mapM_eq_mapM_toList,Sem.run_map,k2];rfl
 split at h
 ·rename_i u hu;injection h with h;subst h;obtain⟨vs',k1,k2⟩:=key _ hu;obtain⟨v',l',rfl,k3,k4⟩:=k1.of_cons;have:=k4.of_nil;subst this;exact⟨v',by rw[k2];simp,k3⟩
 ·rename_i vs hne hvs;injection h with h;subst h;obtain⟨vs',k1,k2⟩:=key _ hvs;refine⟨.tuple vs'.toArray,?_,VR.tuple' (by simpa using k1)⟩;rw[k2];have:vs'.toArray.size≠1:=by
   intro e;have e2:vs.length=1:=by have:=k1.1;simp at e;omega
   match vs,e2 with
   |[u],_=>exact hne u rfl
  rw[dif_neg this]
 ·cases h
end
section
variable {P:Program} {σ σ0:bQ} {W W0:AW} {w w0:World}
theorem Ext.other(he:Ext σ0 W0 w0 σ W w){r:Nat}(hr:w0.heap.size<=r){x y:Obj}(hy:w.heap[r]? =some y)(hx:∀c t fr,x≠ .cells c t fr)(hy':∀c t fr,y≠ .cells c t fr):Ext σ0 W0 w0 σ W (w.putObj r x):=
 ⟨he.sub,he.ro,by simpa[World.putObj]using he.size,he.os,he.tape,he.output,λB hB hm=>by rw[World.putObj_heap_other (by omega)];exact he.keep B hB hm,he.ghost,he.grow⟩
theorem a9J{fn:Func}{R:PlanTab.Fr}{tmps:Array Value}{v:Value}(hok:fn.results.toList.all (Q7 fn.ntmps)=true)(hR:RegRel fn.ntmps σ R tmps)(h:uY P W R fn.results=some v):
 ∀(ds:List Deferred) (w:World),Marks w0.heap.size σ w ds->WRel σ W w.heap->Ext σ0 W0 w0 σ W w->
  LeavesInM (FE none) 0 P fn tmps (λe w'=>∃v',e=.returned v'/\∃σ',VR σ' v v'/\WRel σ' W w'.heap/\Ext σ0 W0 w0 σ' W w') ds .returning w:=by
 intro ds;induction ds with
 |nil=>intro w _ hW he;obtain⟨v',k1,k2⟩:=QZ hW hok hR h;exact⟨v',k1,v',rfl,σ,k2,hW,he⟩
 |cons d ds ih=>
  rintro w ⟨⟨r,e1,e2,e3,e4,e5⟩,hds⟩ hW he;refine⟨by simp,.inl ⟨r,w.putObj r (.deferred none),by rw[e1],run_takeDeferred e3,ih _ ?_ (hW.other e4 _) (he.other e2 e3 (λ_ _ _ e=>by cases e) (λ_ _ _ e=>by cases e))⟩⟩;have:∀{ds:List Deferred},(∀d'∈ds,∀r',d'.target=.collected r'->r'≠r)->Marks w0.heap.size σ w ds->Marks w0.heap.size σ (w.putObj r (.deferred none)) ds:=by
   intro ds;induction ds with
   |nil=>intro _ _;trivial
   |cons d ds ih=>rintro hne ⟨⟨r',a1,a2,a3,a4,a5⟩,hds⟩;exact⟨⟨r',a1,a2,by rw[World.putObj_heap_other (hne d (by simp) r' (by rw[a1]))];exact a3,a4,a5⟩,ih (λd' hd'=>hne d' (by simp[hd'])) hds⟩
  exact this e5 hds
end
end Go.Eng
namespace Go.Eng
open Go
variable [PlanTab]
theorem a0w(l:Nat):(FE none).inRound l=FE (some l):=rfl
theorem dO{P:Program}{f:FuncId}{fn:Func}{c:Code}(hf:P.funcs[f]? =some fn)(hname:(fn.name== "runtime.NumGoroutine")=false)(hb:fn.body=some c)(args:Array Value)(w:World):
 (callFunc f args).run P w=.ok (.enter f args) w:=by
 have h1:fn.name≠ "runtime.NumGoroutine" :=by simpa using hname
 simp[callFunc,hf,h1,hb]
theorem IP{P:Program}(hm:P.follows .mixedOrders=true){ng:List Nat}(hng:ng=PlanTab.ng){bad:List Nat}(hP:rW ng bad 0 P.funcs.toList=true){spec:Callee}(hs:aW P ng spec){call:Callee}(ih:aW P ng call):
 aW P ng (gP P bad spec call):=by
 intro f args W v W' h σ w f' args' hW hG hf hargs
 unfold gP at h
 split at h
 ·
  rename_i i fs cs;split at h
  ·exact hs _ _ _ _ _ h σ w f' args' hW hG hf hargs
  rename_i CB;split at h;case h_2=>cases h
  rename_i fn hfn;split at h;case h_2=>cases h
  rename_i c hbody;split at h;case h_2=>cases h
  rename_i hlen;split at h;case h_2=>cases h
  rename_i x R W1 hcode;have hfok:a0S ng fn=true:=Z6 _ _ hP i fn (by rw[Array.getElem?_toList];exact hfn) (by simpa using CB);unfold a0S at hfok;rw[hbody]at hfok;simp only[Bool.and_eq_true,Bool.not_eq_true']at hfok;obtain⟨⟨hco,hres⟩,hname⟩:=hfok;obtain⟨fn',fs',cs',hfr,hfs,hcs,rfl⟩:=hf.func_inv;cases hfr;have hx:(∀id,x≠ .exit id)/\∃v0,uY P W1 R fn.results=some v0/\v0=v/\W1=W':=by
   cases x with
   |exit id=>cases h
   |normal=>
    refine⟨λid e=>X.noConfusion e,?_⟩;simp only at h;split at h
    ·rename_i v0 hv0;injection h with h;injection h with h1 h2;exact⟨v0,hv0,h1,h2⟩
    ·cases h
   |ret=>
    refine⟨λid e=>X.noConfusion e,?_⟩;simp only at h;split at h
    ·rename_i v0 hv0;injection h with h;injection h with h1 h2;exact⟨v0,hv0,h1,h2⟩
    ·cases h
  obtain⟨hxe,v0,hv0,rfl,rfl⟩:=hx;have hall:LR σ (fs.toList++(args++cs.toList)) (fs'++args'.toArray++cs').toList:=by have h1:=(hfs.append (hargs.append hcs));simpa[List.append_assoc]using h1
  have hlen':(fs.toList++(args++cs.toList)).length<=fn.ntmps:=by have:=Nat.le_of_ble_eq_true hlen;simpa using this
  refine⟨dO hfn hname hbody _ w,?_⟩;refine callsIn_of_wp_marks hfn hbody trivial ?_;refine yK hm hng ih (n0:=w.heap.size) (λ_=>rfl) c hco x _ _ _ _ hcode σ _ w _ hW hG (a5z hall hlen') trivial (Nat.le_refl _) λσ' a' w' k1 k2 k3 k4=>?_
  have hl:=a9J hres k1 hv0 a'.defers w' k2 k3 k4;cases x with
  |exit id=>exact absurd rfl (hxe id)
  |normal=>exact hl
  |ret=>exact hl
 ·
  rename_i l fs cs;split at h;case h_2=>cases h
  rename_i R nt ps as bd hget;split at h;case h_2=>cases h
  rename_i hlen;split at h;case h_2=>cases h
  rename_i R1 W1 hcode1;split at h;case h_2=>cases h
  rename_i pd9 R9 nt9 ps9 as9 bd9 hget1;split at h;case h_2=>cases h
  rename_i x R2 W2 hcode2;split at h;case h_2=>cases h
  rename_i st8 pd8 R8 nt8 ps8 as8 bd8 hget2;obtain⟨fn',fs',cs',hfr,hfs,hcs,rfl⟩:=hf.func_inv;cases hfr with
  |yield _ g hg=>
  obtain⟨g1,g2,r,r1,r2,r3,r4,r5,r6,r7,⟨hG1,hk1⟩,⟨hG2,hk2⟩,hps⟩:=hW.obj _ _ _ hget hg;have hall:LR σ (fs.toList++args) (fs'++args'.toArray).toList:=by have h1:=hfs.append hargs;simpa using h1
  have hsz:(fs'++args'.toArray).size=r.params.size:=by have h1:=hall.1;have h2:fs.toList.length+args.length=ps.size:=Nat.eq_of_beq_eq_true hlen;rw[List.length_append,h2,Array.length_toList]at h1;rw[r5];exact h1.symm
  refine⟨r.fn,_,r.assign,r.body,run_yield r1 hsz,?_⟩;rw[r6,r7];refine roundIn_of_wpIn trivial ?_;have hR0:RegRel nt σ (pW ps.toList (fs.toList++args) R) ((r.params.zip (fs'++args'.toArray)).foldl (λtmps (x:Tmp×Value)=>tmps.setIfInBounds x.1 x.2) r.tmps):=by have:=a7y ps.toList _ _ R r.tmps hall hps r4;rw[r5,<-Array.foldl_toList,Array.toList_zip];exact this
  rw[<-hng]at hk1 hk2;rw[a0w];refine yK hm hng ih (n0:=w.heap.size) (ro:=some g.B) (λe=>by cases e) as hk1 .normal _ _ _ _ hcode1 σ _ w _ hW hG hR0 trivial (Nat.le_refl _) λσ1 a1 w1 k1 k2 k3 k4=>?_
  have hg1:σ1 l=some g:=k4.sub _ _ hg;obtain⟨_,_,rr,q1,q2,q3,q4,q5,q6,q7,q8,q9,q10⟩:=k3.obj _ _ _ hget1 hg1;have hgse:g.s=0/\g.e=1:=⟨g1,g2⟩;obtain⟨s1,s2⟩:=k3.setObj (w:=w1) (o':=.loop .busy pd9 R9 nt9 ps9 as9 bd9) (x:=.loop {rr with state:=.busy}) hget1 (λ_=>by simp) hg1 hgse (λc t fr e=>by rw[q1]at e;cases e)
   ⟨g1,g2,{rr with state:=.busy},by simp[(k3.dom _ _ hg1).2],rfl,q3,q4,q5,q6,q7,q8,q9,q10⟩
  refine⟨_,run_beginRound q1 q2,?_⟩;refine yK hm hng ih (n0:=w.heap.size) (ro:=some g.B) (λe=>by cases e) bd hk2 x _ _ _ _ hcode2 σ1 a1 (w1.putObj g.B (.loop {rr with state:=.busy})) _ s1 (hG.mono k4.sub) k1 (k2.ext s2) (by have:=k4.size;simpa using this) λσ2 a2 w2 _ _ t3 t4=>?_
  have hg2:σ2 l=some g:=t4.sub _ _ hg1;obtain⟨_,_,r8,u1,u2,u3,u4,u5,u6,u7,u8,u9,u10⟩:=t3.obj _ _ _ hget2 hg2;have fin:∀(jump:Option Code) (st':LoopState),st'=(if jump.isNone then .ready else .done)->v=.bool jump.isNone->W'=W2.put l (.loop st' jump R8 nt8 ps8 as8 bd8)->
   ∃v' w',(Instr.endRound g.B jump).run P w2=.ok v' w'/\∃v'',Ending.returned v'=.returned v''/\∃σ',VR σ' v v''/\WRel σ' W' w'.heap/\Ext σ W w σ' W' w':=by
   intro jump st' hst hv hW';subst hst;subst hv;subst hW';obtain⟨z1,z2⟩:=t3.setObj (w:=w2) (o':=.loop (if jump.isNone then .ready else .done) jump R8 nt8 ps8 as8 bd8) (x:=.loop {r8 with state:=if jump.isNone then .ready else .done,pending:=jump}) hget2 (λ_=>by simp) hg2 hgse (λc t fr e=>by rw[u1]at e;cases e)
    ⟨g1,g2,{r8 with state:=if jump.isNone then .ready else .done,pending:=jump},by simp[(t3.dom _ _ hg2).2],rfl,rfl,u4,u5,u6,u7,u8,u9,u10⟩
   exact⟨_,_,run_endRound jump u1,_,rfl,σ2,.bool _,z1,((k4.trans s2).trans t4).trans z2⟩
  cases x with
  |normal=>simp only at h;injection h with h;injection h with h1 h2;exact fin none .ready rfl h1.symm h2.symm
  |exit id=>simp only at h;injection h with h;injection h with h1 h2;exact fin (some (.exit id)) .done rfl h1.symm h2.symm
  |ret=>simp only at h;injection h with h;injection h with h1 h2;exact fin (some .ret) .done rfl h1.symm h2.symm
 ·cases h
theorem PI{P:Program}(hm:P.follows .mixedOrders=true){ng:List Nat}(hng:ng=PlanTab.ng){bad:List Nat}(hP:rW ng bad 0 P.funcs.toList=true){spec:Callee}(hs:aW P ng spec):
 ∀n,aW P ng (ZC P bad spec n)
 |0=>λf args W v W' h=>by cases h
 |n+1=>IP hm hng hP hs (PI hm hng hP hs n)
end Go.Eng
namespace Go.Eng
open Go Go.RowKit
variable [PlanTab]
def a0E:Option (Value×AW)->Bool
 |some (v,_)=>match v with
  |.bool b=>b
  |_=>false
 |none=>false
theorem a14{r:Option (Value×AW)}(h:a0E r=true):∃W,r=some (.bool true,W):=by
 unfold a0E at h;split at h
 ·rename_i v W;split at h
  ·subst h;exact⟨W,rfl⟩
  ·cases h
 ·cases h
def σ0:bQ:=λ_=>none
noncomputable def aC3:AW:=⟨.lf,0⟩
theorem YK{P:Program}{ng:List Nat}:aW P ng (λ_ _ _=>none):=λf args W v W' h=>by cases h
def GrownB(W w':World):Prop:=W.keptBut w' (λ_=>False)/\(∀a:Addr,a.block<W.heap.size->w'.frozen? a=W.frozen? a)/\W.heap.size<=w'.heap.size
theorem GrownB.frame{W w':World}(h:GrownB W w')(may:MemPlace->Prop):W.keptBut w' may:=World.keptBut_mono (λ_ f=>f.elim) h.1
theorem YJ{σ:bQ}:∀{args:List Value},args.all aX=true->LR σ args args:=by intro args h;exact LR.refl_of (λv=>jK) h
end Go.Eng
namespace Go.Eng
open Go Go.RowKit
variable [PlanTab]
def σG(gs:List (Nat×List Value)):bQ:=λb=>(gs.find? (λx=>x.1==b)).map λx=>⟨x.1,0,x.2.length⟩
noncomputable def OZ(gs:List (Nat×List Value)):T AObj:=gs.foldr (λx t=>T.set (some (.ro x.2)) (path x.1) t) .lf
noncomputable def WG(gs:List (Nat×List Value))(N:Nat):AW:=⟨OZ gs,N⟩
theorem GD(b:Nat):∀gs:List (Nat×List Value),T.get (path b) (OZ gs)=(gs.find? (λx=>x.1==b)).map λx=>AObj.ro x.2
 |[]=>T.get_lf _
 |x::gs=>by
  show T.get (path b) (T.set (some (.ro x.2)) (path x.1) (OZ gs))=_;by_cases h:x.1=b
  ·subst h;rw[T.get_set];simp
  ·rw[T.get_set_ne _ _ _ _ (EC h),GD b gs];have hb:(x.1==b)=false:=by simpa using h
   rw[List.find?_cons,hb]
def OP(gs:List (Nat×List Value))(h:Array Obj):Prop:=
 ∀x∈gs,∃c t fr,h[x.1]? =some (.cells c t fr)/\∀(i:Nat) (v:Value),x.2[i]? =some v->c[i]? =some v/\bW v=true
theorem zK{gs:List (Nat×List Value)}{b:Nat}{g:Seg}(h:σG gs b=some g):∃x∈gs,x.1=b/\g=⟨b,0,x.2.length⟩/\T.get (path b) (OZ gs)=some (AObj.ro x.2):=by
 unfold σG at h;cases hf:gs.find? (λx=>x.1==b)with
 |none=>rw[hf]at h;cases h
 |some x=>
  rw[hf]at h;have hb:x.1=b:=by simpa using List.find?_some hf
  refine⟨x,List.mem_of_find?_eq_some hf,hb,?_,?_⟩
  ·cases h;subst hb;rfl
  ·show T.get (path b) (OZ gs)=_;rw[GD,hf];rfl
theorem a7V{gs:List (Nat×List Value)}{N:Nat}(hN:gs.all (λx=>Nat.blt x.1 N)=true){h:Array Obj}(hl:OP gs h):WRel (σG gs) (WG gs N) h where
 free b hb:=by
  show T.get (path b) (OZ gs)=none;rw[GD];cases hf:gs.find? (λx=>x.1==b)with
  |none=>rfl
  |some x=>
   have hxb:x.1=b:=by simpa using List.find?_some hf
   have:=List.all_eq_true.1 hN x (List.mem_of_find?_eq_some hf);have:x.1<N:=by simpa[Nat.blt_eq]using this
   exact absurd hb (by show¬N<=b;omega)
 dom b g hb:=by
  obtain⟨x,hx,rfl,rfl,_⟩:=zK hb;obtain⟨c,t,fr,h1,_⟩:=hl x hx;have:=List.all_eq_true.1 hN x hx;have h3:x.1<N:=by simpa[Nat.blt_eq]using this
  exact⟨h3,(Array.getElem?_eq_some_iff.1 h1).1⟩
 obj b o g hb hg:=by obtain⟨x,hx,rfl,rfl,ht⟩:=zK hg;obtain⟨c,t,fr,h1,h2⟩:=hl x hx;obtain rfl:o=.ro x.2:=Option.some.inj (hb.symm.trans ht);exact⟨c,t,fr,h1,by simp,λi v hv=>⟨v,by simpa using(h2 i v hv).1,eD (h2 i v hv).2⟩⟩
 disj b1 b2 o1 o2 g1 g2 hne _ _ h1 h2 _:=by obtain⟨x1,_,rfl,rfl,_⟩:=zK h1;obtain⟨x2,_,rfl,rfl,_⟩:=zK h2;exact .inl hne
theorem a8t{gs:List (Nat×List Value)}{ng:List Nat}(h:ng.all (λg=>(gs.find? (λx=>x.1==g)).isSome)=true):Glob (σG gs) ng:=by
 intro g hg;have:=List.all_eq_true.1 h g hg;cases hf:gs.find? (λx=>x.1==g)with
 |none=>rw[hf]at this;cases this
 |some x=>
  have hxb:x.1=g:=by simpa using List.find?_some hf
  exact⟨x.2.length,by unfold σG;rw[hf];subst hxb;rfl⟩
theorem aAr{gs:List (Nat×List Value)}{N:Nat}{B:Nat}:¬Mut (σG gs) (WG gs N) B:=by rintro⟨b,g,hg,_,hro⟩;obtain⟨x,_,_,_,ht⟩:=zK hg;exact hro x.2 ht
end Go.Eng
namespace Go.Eng
open Go Go.RowKit Go.ChangeShapes
def a3n(g:TypeId->Option (List IntKind))(P:Program):Nat->List Field->Option (List IntKind)
 |_,[]=>some []
 |off,f::fs=>if f.offset=off then(g f.type).bind λks=>if ks.length=P.cellsOf f.type then(a3n g P (off+ks.length) fs).map λr=>ks++r else none else none
def flatK(P:Program):Nat->TypeId->Option (List IntKind)
 |0,_=>none
 |n+1,t=>match P.underlying t with
  |some (.int k)=>some [k]
  |some (.struct fs)=>(a3n (flatK P n) P 0 fs.toList).bind λks=>if ks.length=P.cellsOf t then some ks else none
  |_=>none
def a5x(ks:List IntKind)(ns:List Int):List Value:=List.zipWith Value.int ks ns
section
variable {H:Type} {enc:TypeId×Value->H} {P:Program} {w:World} {base:Nat} {spare:Nat->Bool} {held:Bool}
def aC1(enc:TypeId×Value->H)(P:Program)(held:Bool)(m:Nat)(t:TypeId)(ks:List IntKind)(cs:List Value)(x:DataW H×List MemPlace):Prop:=
 (∃ns:List Int,ns.length=ks.length/\cs=a5x ks ns)/\x.2=[]/\∀(w':World) (base':Nat) (spare':Nat->Bool),DataW.trod enc P w' base' spare' held m t cs=some x
end
end Go.Eng
namespace Go.Eng
open Go Go.RowKit
open Go.Maps (Keyed)
variable [PlanTab]
section
variable {H:Type}
def ent(j:Nat)(g b:Bool):List (Lit×DataW H):=match g with|true=>[(.int .i64 ((2^ j:Nat):Int),.lit (.bool b))]|false=>[]
def Dof(g0 g1 g2 g3 g4 g5 g6 g7 b0 b1 b2 b3 b4 b5 b6 b7:Bool):DataW H:=
 .map (ent 0 g0 b0++(ent 1 g1 b1++(ent 2 g2 b2++(ent 3 g3 b3++(ent 4 g4 b4++(ent 5 g5 b5++(ent 6 g6 b6++ent 7 g7 b7)))))))
variable (g0 g1 g2 g3 g4 g5 g6 g7 b0 b1 b2 b3 b4 b5 b6 b7:Bool)
end
def RZ(e:Nat)(o:Oper):Bool:=o.after.any λx=>Region.binds .any x&&Nat.beq x.on e
def a7U(ops:Array Oper)(o:Oper)(x:Operand):Bool:=match x with
 |.const v=>aX v
 |.tmp t=>Nat.beq t 1||o.after.any λe=>Region.binds .any e&&(match ops[e.on]? with|some o'=>(match o'.dst with|some d=>Nat.beq d t&&(Nat.blt 14 d&&Nat.blt d 40)|none=>false)|none=>false)
 |_=>false
def ZR(ops:Array Oper)(o:Oper):Bool:=o.guard.isNone&&(match o.dst with|some d=>Nat.blt 14 d&&Nat.blt d 40|none=>false)&&o.op.operands.toList.all (a7U ops o)
def yL(ops:Array Oper)(TM key s k:Nat)(o:Oper):Bool:=o.guard.isNone&&o.dst.isNone&&RZ 0 o&&RZ k o&&
 (match o.op with|.insert t (.tmp m) (.const (.int .i64 (.ofNat n))) (.tmp v)=>Nat.beq t TM&&Nat.beq m 14&&Nat.beq n key&&Nat.beq v s&&Nat.blt 14 s&&Nat.blt s 40|_=>false)&&
 (match ops[k]? with|some o'=>(match o'.dst with|some d=>Nat.beq d s|none=>false)|none=>false)
def zD(ops:Array Oper)(TM:Nat)(i:Nat)(o:Oper):Bool:=match i with
 |0=>o.guard.isNone&&(match o.op,o.dst with|.makeMap t none,some d=>Nat.beq t TM&&Nat.beq d 14|_,_=>false)
 |4=>yL ops TM 1 17 3 o
 |8=>yL ops TM 2 20 7 o
 |12=>yL ops TM 4 23 11 o
 |16=>yL ops TM 8 26 15 o
 |20=>yL ops TM 16 29 19 o
 |24=>yL ops TM 32 32 23 o
 |29=>yL ops TM 64 36 28 o
 |33=>yL ops TM 128 39 32 o
 |34=>o.guard.isNone&&(match o.op,o.dst with|.move (.tmp x),some d=>Nat.beq x 14&&Nat.beq d 40|_,_=>false)&&(List.range 34).all λe=>RZ e o
 |35=>o.guard.isNone&&(match o.op,o.dst with|.range t (.tmp x),some d=>Nat.beq t TM&&Nat.beq x 40&&Nat.beq d 41|_,_=>false)&&RZ 34 o
 |_=>ZR ops o
def uA(i:Nat):Bool:=match i with|0|4|8|12|16|20|24|29|33|34|35=>false|_=>true
def a3p(i:Nat)(o:Oper):Bool:=o.after.all λe=>Nat.blt e.on i
def aBx(ops:Array Oper)(TM:Nat):Bool:=Nat.beq ops.size 36&&(List.range 36).all λi=>match ops[i]? with|some o=>zD ops TM i o&&a3p i o|none=>false
section
variable {P:Program} {ops:Array Oper} {nt TM TK TE:Nat} {σ0:bQ} {W:AW} {R:PlanTab.Fr} {w0:World} {tm0:Array Value} {ds:List Deferred} {b0 b1 b2 b3 b4 b5 b6 b7:Bool} {l:Array Bool} {a:Act} {w:World}
def Dl(l:Array Bool)(b0 b1 b2 b3 b4 b5 b6 b7:Bool):DataW Unit:=
 Dof (l.getD 4 false) (l.getD 8 false) (l.getD 12 false) (l.getD 16 false) (l.getD 20 false) (l.getD 24 false) (l.getD 29 false) (l.getD 33 false) b0 b1 b2 b3 b4 b5 b6 b7
structure RB (ops:Array Oper) (nt:Nat) (tm0:Array Value) (ds:List Deferred) (l:Array Bool) (a:Act):Prop where
 lsz:l.size=36
 tsz:a.tmps.size=nt
 dfs:a.defers=ds
 down:∀i,l.getD i false=true->∀o,ops[i]? =some o->∀e∈o.after,Region.binds .any e=true->l.getD e.on false=true
 old:∀t,(t<14\/41<t)->a.tmps[t]? =tm0[t]?
def RM(P:Program)(TK TE:Nat)(w0:World)(b0 b1 b2 b3 b4 b5 b6 b7:Bool)(l:Array Bool)(a:Act)(w:World)(σ:bQ)(m n:Nat):Prop:=
 (∀b g,σ b=some g->g.B≠m)/\w0.heap.size<=m/\a.tmps.getD 14 undef=.map (some m)/\n<=(List.range 36).countP (λi=>l.getD i false)/\(l.getD 34 false=true->a.tmps.getD 40 undef=.map (some m))/\
  (l.getD 35 false=false->w.ownsMap P TK (plainElem P TE) m n (Dl l b0 b1 b2 b3 b4 b5 b6 b7))/\
  (l.getD 35 false=true->∃r,a.tmps.getD 41 undef=.pointer (some ⟨r,0,none⟩)/\(∀b g,σ b=some g->g.B≠r)/\w0.heap.size<=r/\
    w.ranges P TK (plainElem P TE) m r n (Dl l b0 b1 b2 b3 b4 b5 b6 b7) (Maps.has (Dl l b0 b1 b2 b3 b4 b5 b6 b7)) (Maps.size (Dl l b0 b1 b2 b3 b4 b5 b6 b7)))
structure RI (P:Program) (ops:Array Oper) (nt TK TE:Nat) (σ0:bQ) (W:AW) (R:PlanTab.Fr) (w0:World) (tm0:Array Value) (ds:List Deferred) (b0 b1 b2 b3 b4 b5 b6 b7:Bool)
 (l:Array Bool) (a:Act) (w:World):Prop where
 base:RB ops nt tm0 ds l a
 world:∃σ,WRel σ W w.heap/\Ext σ0 W w0 σ W w/\(∀i o d,ops[i]? =some o->uA i=true->l.getD i false=true->o.dst=some d->VR σ (dP R d) (a.tmps.getD d undef))/\
  (l.getD 0 false=true->∃m n,RM P TK TE w0 b0 b1 b2 b3 b4 b5 b6 b7 l a w σ m n)
structure RF (P:Program) (ops:Array Oper) (nt TM TK TE:Nat) (σ0:bQ) (W:AW) (R:PlanTab.Fr) (tm0:Array Value) (b0 b1 b2 b3 b4 b5 b6 b7:Bool):Prop where
 size:ops.size=36
 shape:∀i o,ops[i]? =some o->zD ops TM i o=true
 back:∀i o,ops[i]? =some o->a3p i o=true
 does:∀i o d,ops[i]? =some o->uA i=true->o.dst=some d->∀(σ:bQ) (w:World) (ρ:Operand->Value),WRel σ W w.heap->(∀x∈o.op.operands,VR σ (aC R x) (ρ x))->Does P σ W w (execOp ρ o) (dP R d) W
 v0:dP R 17=.bool b0
 v1:dP R 20=.bool b1
 v2:dP R 23=.bool b2
 v3:dP R 26=.bool b3
 v4:dP R 29=.bool b4
 v5:dP R 32=.bool b5
 v6:dP R 36=.bool b6
 v7:dP R 39=.bool b7
 ptr:VR σ0 (dP R 1) (tm0.getD 1 undef)
 nt:42<=nt
 TM:P.underlying TM=some (.map TK TE)
 TK:P.underlying TK=some (.int .i64)
 TE:P.underlying TE=some .bool
theorem a8h(hF:RF P ops nt TM TK TE σ0 W R tm0 b0 b1 b2 b3 b4 b5 b6 b7){i:Nat}{o:Oper}(ho:ops[i]? =some o):o.guard=none/\(uA i=true->(∃d,o.dst=some d/\14<d/\d<40)/\o.op.operands.toList.all (a7U ops o)=true)/\
 (∀d,o.dst=some d->14<=d/\d<=41)/\(∀d,o.dst=some d->14<d->d<40->uA i=true):=by
 have hs:=hF.shape i o ho;by_cases hp:uA i=true
 ·have hq:ZR ops o=true:=by unfold zD at hs;unfold uA at hp;split at hs<;>first|exact hs|(simp at hp;done)
  unfold ZR at hq;simp only[Bool.and_eq_true,Option.isNone_iff_eq_none]at hq;obtain⟨⟨h1,h2⟩,h3⟩:=hq;cases hd:o.dst with
  |none=>rw[hd]at h2;cases h2
  |some d=>rw[hd]at h2;simp only[Bool.and_eq_true,Nat.blt_eq]at h2;refine⟨h1,λ_=>⟨⟨d,rfl,h2⟩,h3⟩,λd' e=>?_,λ_ _ _ _=>hp⟩;injection e with e;subst e;exact⟨Nat.le_of_lt h2.1,Nat.le_of_lt (Nat.lt_trans h2.2 (by decide))⟩
 ·refine⟨?_,λh=>absurd h hp,?_,?_⟩
  ·unfold zD at hs;unfold uA at hp;split at hs<;>simp_all[yL]
  ·intro d hd;unfold zD at hs;unfold uA at hp;split at hs<;>simp_all[yL];all_goals(first|(split at hs<;>simp_all)|skip)
   all_goals omega
  ·intro d hd h1 h2;exfalso;unfold zD at hs;unfold uA at hp;split at hs<;>simp_all[yL];all_goals(first|(split at hs<;>simp_all)|skip)
   all_goals omega
theorem RB.step(hB:RB ops nt tm0 ds l a)(hF:RF P ops nt TM TK TE σ0 W R tm0 b0 b1 b2 b3 b4 b5 b6 b7){i:Nat}{o:Oper}(ho:ops[i]? =some o)
 (hr:∀e∈o.after,Region.binds .any e=true->l.getD e.on false=true)(v:Value):RB ops nt tm0 ds (l.setIfInBounds i true) (a.put o.dst v):=by
 obtain⟨_,_,hd,_⟩:=a8h hF ho;have hi:i<l.size:=by rw[hB.lsz,<-hF.size];exact(Array.getElem?_eq_some_iff.1 ho).1
 have hmono:∀k,l.getD k false=true->(l.setIfInBounds i true).getD k false=true:=λk hk=>by
  by_cases e:i=k
  ·subst e;exact jP hi _
  ·rw[oF e];exact hk
 refine⟨by simp[hB.lsz],by rw[KO];exact hB.tsz,by rw[put_defers];exact hB.dfs,?_,?_⟩
 ·intro k hk o' ho' e he hb;by_cases e1:i=k
  ·subst e1;rw[ho]at ho';injection ho' with ho';subst ho';exact hmono _ (hr e he hb)
  ·rw[oF e1]at hk;exact hmono _ (hB.down k hk o' ho' e he hb)
 ·intro t ht;rw[<-hB.old t ht];cases hq:o.dst with
  |none=>rfl
  |some d=>
   have:=hd d hq;show(a.tmps.setIfInBounds d v)[t]? =a.tmps[t]?;rw[Array.getElem?_setIfInBounds_ne];rintro rfl;rcases ht with h|h
   ·exact absurd (Nat.lt_of_lt_of_le h this.1) (Nat.lt_irrefl _)
   ·exact absurd (Nat.lt_of_lt_of_le h this.2) (Nat.lt_irrefl _)
def a3k(b0 b1 b2 b3 b4 b5 b6 b7:Bool):DataW Unit:=Dof true true true true true true true true b0 b1 b2 b3 b4 b5 b6 b7
structure RQ (P:Program) (nt TK TE:Nat) (σ0:bQ) (W:AW) (w0:World) (tm0:Array Value) (ds:List Deferred) (b0 b1 b2 b3 b4 b5 b6 b7:Bool) (a:Act) (w:World) (σ:bQ) (m r n:Nat):Prop where
 tsz:a.tmps.size=nt
 dfs:a.defers=ds
 old:∀t,(t<14\/41<t)->a.tmps[t]? =tm0[t]?
 it:a.tmps.getD 41 undef=.pointer (some ⟨r,0,none⟩)
 rel:WRel σ W w.heap
 ext:Ext σ0 W w0 σ W w
 nm:∀b g,σ b=some g->g.B≠m
 nr:∀b g,σ b=some g->g.B≠r
 gm:w0.heap.size<=m
 gr:w0.heap.size<=r
 rg:w.ranges P TK (plainElem P TE) m r n (a3k b0 b1 b2 b3 b4 b5 b6 b7) (Maps.has (a3k b0 b1 b2 b3 b4 b5 b6 b7)) (Maps.size (a3k b0 b1 b2 b3 b4 b5 b6 b7))
theorem RI.done(hF:RF P ops nt TM TK TE σ0 W R tm0 b0 b1 b2 b3 b4 b5 b6 b7)(hI:RI P ops nt TK TE σ0 W R w0 tm0 ds b0 b1 b2 b3 b4 b5 b6 b7 l a w)(h:∀i,i<36->l.getD i false=true):
 ∃σ m r n,RQ P nt TK TE σ0 W w0 tm0 ds b0 b1 b2 b3 b4 b5 b6 b7 a w σ m r n:=by
 obtain⟨hB,σ,hW,hE,hregs,hmap⟩:=hI;obtain⟨m,n,k1,k2,k3,k4,k5,k6,k7⟩:=hmap (h 0 (by decide));obtain⟨r,p1,p2,p3,p4⟩:=k7 (h 35 (by decide));have hD:Dl l b0 b1 b2 b3 b4 b5 b6 b7=a3k b0 b1 b2 b3 b4 b5 b6 b7:=by unfold Dl a3k;rw[h 4 (by decide),h 8 (by decide),h 12 (by decide),h 16 (by decide),h 20 (by decide),h 24 (by decide),h 29 (by decide),h 33 (by decide)]
 rw[hD]at p4;exact⟨σ,m,r,n,hB.tsz,hB.dfs,hB.old,p1,hW,hE,k1,p2,k2,p3,p4⟩
end
end Go.Eng
namespace Go.Eng
open Go Go.RowKit
variable [PlanTab]
structure Quiet (w w':World):Prop where
 os:w'.os=w.os
 tape:w'.tape=w.tape
 output:w'.output=w.output
 size:w.heap.size<=w'.heap.size
 block:∀B,B<w.heap.size->w'.heap[B]? =w.heap[B]?
theorem Quiet.refl(w:World):Quiet w w:=⟨rfl,rfl,rfl,Nat.le_refl _,λ_ _=>rfl⟩
theorem Quiet.trans{w w' w'':World}(h:Quiet w w')(k:Quiet w' w''):Quiet w w'':=
 ⟨k.os.trans h.os,k.tape.trans h.tape,k.output.trans h.output,Nat.le_trans h.size k.size,λB hB=>(k.block B (Nat.lt_of_lt_of_le hB h.size)).trans (h.block B hB)⟩
theorem Quiet.grown{w w':World}(h:Quiet w w'):GrownB w w':=by
 refine⟨⟨h.os,h.output,λi hi=>?_⟩,λa ha=>UK (h.block _ ha),h.size⟩;rw[h.block i hi];cases w.heap[i]? with
 |none=>rfl
 |some o=>cases o<;>first|rfl|exact⟨rfl,rfl,rfl,λ_ _=>rfl⟩|exact .inr ⟨rfl,rfl⟩
theorem Quiet.cell{w w':World}(h:Quiet w w'){a:Addr}{v:Value}(hc:w.cell? a=some v):w'.cell? a=some v:=by
 have hlt:a.block<w.heap.size:=by
  rcases Nat.lt_or_ge a.block w.heap.size with h'|h'
  ·exact h'
  ·unfold World.cell? at hc;rw[Array.getElem?_eq_none h']at hc;simp at hc
 rw[World.cell?_of_block (h.block _ hlt)];exact hc
theorem Quiet.rel{w w':World}(h:Quiet w w'){σ:bQ}{W:AW}(hW:WRel σ W w.heap):WRel σ W w'.heap where
 free:=hW.free
 dom b g hb:=⟨(hW.dom b g hb).1,Nat.lt_of_lt_of_le (hW.dom b g hb).2 h.size⟩
 obj b o g hb hσ:=(hW.obj b o g hb hσ).same (h.block _ (hW.dom b g hσ).2)
 disj:=hW.disj
theorem Quiet.ext{w w':World}(h:Quiet w w')(σ:bQ)(W:AW):Ext σ W w σ W w':=
 ⟨.refl _,λ_ _ h=>h,h.size,h.os,h.tape,h.output,λB hB _=>h.block B hB,λ_ _ a b=>⟨a,b⟩,λ_ _ a _=>.inl a⟩
theorem Quiet.other{w w' w'':World}(h:Quiet w w'){r:Nat}(hr:w.heap.size<=r)(hg:w'.grownBy w'' (some r))(hsz:w''.heap.size=w'.heap.size)
 (h1:∀a:Addr,a.block=r->w'.frozen? a=false)(h2:∀a:Addr,a.block=r->w''.frozen? a=false):Quiet w w'':=by
 refine⟨hg.os.trans h.os,hg.tape.trans h.tape,hg.output.trans h.output,Nat.le_trans h.size hg.size,λB hB=>(hg.block B (Nat.lt_of_lt_of_le hB h.size) (λe=>by injection e with e;omega)).trans (h.block B hB)⟩
def aC7(B n:Nat):bQ:=λb=>if b=0 then some ⟨B,0,n⟩else none
noncomputable def aBC(cs:List Value):AW:=⟨T.set (some (.cells cs)) (path 0) .lf,1⟩
noncomputable def aBX:PlanTab.Fr:=WP PlanTab.blank 1 (.pointer (some ⟨0,0,none⟩))
def pureIdx:List Nat:=(List.range 36).filter uA
noncomputable def a04(P:Program)(ops:Array Oper)(W:AW):List Nat->PlanTab.Fr->PlanTab.Fr
 |[],R=>R
 |i::l,R=>match ops[i]? with
  |some o=>(match O7 P o R W with
   |some (v,_)=>a04 P ops W l (dR R o.dst v)
   |none=>R)
  |none=>R
section
variable {P:Program}
end
def aAT:List Nat:=pureIdx.filter λi=> !Nat.beq i 28
noncomputable def R32(P:Program)(ops:Array Oper)(cs:List Value)(b6:Bool):PlanTab.Fr:=WP (a04 P ops (aBC cs) aAT aBX) 36 (.bool b6)
def aDc(TT:Nat)(o:Oper):Bool:=match o.op,o.dst with|.binOp .neq t (.tmp x) (.tmp y) _,some d=>Nat.beq t TT&&Nat.beq x 34&&Nat.beq y 35&&Nat.beq d 36|_,_=>false
theorem bool_inv{H:Type}{P:Program}{e:TypeId}(he:P.underlying e=some .bool){v:Value}{y:DataW H×List MemPlace}(h:plainElem P e v=some y):∃c,v=.bool c:=by unfold plainElem at h;rw[he]at h;cases v<;>simp at h;exact⟨_,rfl⟩
def hof(g0 g1 g2 g3 g4 g5 g6 g7:Bool):Int:=(cond g0 1 0+(cond g1 2 0+(cond g2 4 0+(cond g3 8 0+(cond g4 16 0+(cond g5 32 0+(cond g6 64 0+cond g7 128 0)))))):Nat)
structure Came (P:Program) (TK TE m r n:Nat) (D:DataW Unit) (left:Lit->Bool) (cnt:Nat) (w:World) where
 x:Int
 c:Bool
 w1:World
 cnt1:Nat
 hl:left (.int .i64 x)=true
 hat:∀zd,D.atKey (.int .i64 x) zd=.lit (.bool c)
 hrg:w1.ranges P TK (plainElem P TE) m r n D (λz=>left z&& !z.sameKey (.int .i64 x)) cnt1
 hlt:cnt1<cnt
 hgr:w.grownBy w1 (some r)
 hsz:w1.heap.size=w.heap.size
 hen:(Instr.entry (.pointer (some ⟨r,0,none⟩))).run P w1=.ok (.tuple #[.int .i64 x,.bool c]) w1
def aCc(b0 b1 b2 b3 b4 b5 b6 b7:Bool)(u:Int):Int:=if bits .andNot .i64 (hof b0 b1 b2 b3 b4 b5 b6 b7) u=0 then 0 else 2
end Go.Eng
namespace Go.Eng
open Go Go.RowKit
variable [PlanTab]
def aCP(k ow un se sc n to t1 t2 t3 t4 nw:Int):Array Value:=#[.int .i64 k,.int .u32 ow,.int .i64 un,.int .i64 se,.int .i64 sc,.int .i64 n,.int .u32 to,.int .u32 t1,.int .u32 t2,.int .u64 t3,.int .u64 t4,.int .i64 nw]
def a98(ow un se sc n to t1 t2 t3 t4 nw u:Int):Int:=
 aCc (!decide (ow=0)) (!decide (un=0)) (!decide (se=0)) (!decide (sc=0)) (!decide (n=0)) (!decide (to=0)) (!((t1==0)&&((t2==0)&&((t3==0)&&((t4==0)&&true))))) (!decide (nw=0)) u
noncomputable def a6l(c:List Value)(W:AW):Option Value:=
 match c with
 |[.int .i64 k,.int .u32 ow,.int .i64 un,.int .i64 se,.int .i64 sc,.int .i64 n,.int .u32 to,.int .u32 t1,.int .u32 t2,.int .u64 t3,.int .u64 t4,.int .i64 nw]=>
  (match decide (k<1)||decide (12<k)with
  |true=>some (.int .i64 2)
  |false=>match W.get 0 with
   |some (.ro us)=>(match us[k.toNat]? with
    |some (.int .i64 u)=>some (.int .i64 (a98 ow un se sc n to t1 t2 t3 t4 nw u))
    |_=>none)
   |_=>none)
 |_=>none
noncomputable def chk(F:Nat):Callee:=λf args W=>match f with
 |.func (.func g) fs cs=>(match Nat.beq g F&&(fs.isEmpty&&cs.isEmpty)with
  |true=>(match args with
   |[.agg c]=>(match a6l c.toList W with
    |some v=>some (v,W)
    |none=>none)
   |_=>none)
  |false=>none)
 |_=>none
theorem Quiet.box(w:World)(cs:Array Value)(t:TypeId):Quiet w (w.alloc (.cells cs t)):=by exact⟨rfl,rfl,rfl,by simp,λB hB=>(World.grownBy_alloc w _ none).block B hB (by simp)⟩
theorem a19{gs:List (Nat×List Value)}{N:Nat}{σ':bQ}{W':AW}{w w':World}(he:Ext (σG gs) (WG gs N) w σ' W' w'):Quiet w w':=
 ⟨he.os,he.tape,he.output,he.size,λB hB=>he.keep B hB aAr⟩
theorem rC{P:Program}(hm:P.follows .mixedOrders=true){bad:List Nat}(hP:rW PlanTab.ng bad 0 P.funcs.toList=true){spec:Callee}(hs:aW P PlanTab.ng spec)(n:Nat)
 {gs:List (Nat×List Value)}{N:Nat}(hN:gs.all (λx=>Nat.blt x.1 N)=true)(hng:PlanTab.ng.all (λg=>(gs.find? (λx=>x.1==g)).isSome)=true){i:Nat}{args:List Value}(hpl:args.all aX=true)
 (h:a0E (ZC P bad spec n (.func (.func i) #[] #[]) args (WG gs N))=true)(w:World)(hl:OP gs w.heap):
 Calls P i args.toArray w λe w'=>e=.returned (.bool true)/\Quiet w w':=by
 obtain⟨W',hr⟩:=a14 h;have hc:=PI hm rfl hP hs n _ _ _ _ _ hr (σG gs) w (.func (.func i) #[] #[]) args (a7V hN hl) (a8t hng)
  (.func _ _ _ _ _ _ (.func i) rfl (λi v v' x=>by simp at x) rfl (λi v v' x=>by simp at x)) (YJ hpl)
 unfold zY at hc;obtain⟨_,hc⟩:=hc;have e1:(#[]:Array Value)++args.toArray++#[]=args.toArray:=by simp
 rw[e1]at hc;refine(callsIn_wide (n:=0)).1 ?_;refine CallsIn.mono (show CallsIn Fence.wide 0 P i args.toArray w _ from hc) ?_;rintro e w' ⟨v,rfl,σ',hv,_,he⟩;exact⟨by rw[hv.bool_inv],a19 he⟩
noncomputable def aC9(F:Nat)(names:List ByteArray)(s:Callee):Callee:=λf args W=>match f with
 |.func (.func g) fs cs=>(match Nat.beq g F&&(fs.isEmpty&&cs.isEmpty)with
  |true=>(match args with
   |[.string b]=>(match names.any (JL b)with
    |true=>(match W.get 0 with
     |some (.ro _)=>some (.bool true,W)
     |_=>none)
    |false=>none)
   |_=>none)
  |false=>s (.func (.func g) fs cs) args W)
 |_=>none
end Go.Eng
namespace Go.Eng
open Go
@[reducible] noncomputable def trieTab (D:Nat->Array Oper->Option (List (Nat×List Nat))) (ng:List Nat) (ex:TypeId->Bool:=λ_=>false):PlanTab where
 D:=D
 ex:=ex
 ng:=ng
 Fr:=T Value
 fget:=λR t=>(T.get (path t) R).getD undef
 fset:=λR t v=>T.set (some v) (path t) R
 blank:=.lf
 get_set:=λR t v=>by rw[T.get_set];rfl
 get_set_ne:=λR t u v h=>by rw[T.get_set_ne _ _ _ _ (EC h)]
 get_blank:=λt=>by rw[T.get_lf];rfl
end Go.Eng
