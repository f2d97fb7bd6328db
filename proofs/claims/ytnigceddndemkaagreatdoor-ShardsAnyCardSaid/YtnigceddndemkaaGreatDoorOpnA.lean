/- Operations told by values, and their laws. -/
import Derived.Test.YtnigceddndemkaaGreatDoorEngB
import Derived.RowKit
import Derived.Sort.Grow
import Derived.CallsIn
import Derived.ChangeArms
import Derived.ReadAgain
import Derived.OpenShut
import Derived.RowKit3
import Derived.Lib.Join
import Derived.Lib.Builder
import Derived.Below
set_option linter.unusedVariables false
set_option linter.unusedSimpArgs false
set_option linter.unusedSectionVars false
namespace Go.Eng
open Go
variable [PlanTab]
noncomputable def lN(P:Program)(ok:Bool)(s:Sem Next):Option Value:=
 if ok then match ES (bG P s)with
  |some v=>if aX v then some v else none
  |none=>none
 else none
noncomputable def qD(v:Value)(W:AW):Option (Value×AW):=some (v,W)
noncomputable def dF(c a b:Value)(W:AW):Option (Value×AW):=match c with
 |.bool true=>some (a,W)
 |.bool false=>some (b,W)
 |_=>none
noncomputable def bE(P:Program)(t:TypeId)(W:AW):Option (Value×AW):=match kR P t with
 |some z=>some (.pointer (some ⟨W.next,0,none⟩),W.add (qL t z.cells.toList))
 |none=>none
noncomputable def dK(x:Value)(W:AW):Option (Value×AW):=some (.pointer (some ⟨W.next,0,none⟩),W.add (.cells x.cells.toList))
noncomputable def a88(P:Program)(t:TypeId)(vs:List (Nat×Value)):Option Value:=
 match kR P t,P.underlying t with
 |some z,some (.struct fs)=>match uE P fs.toList with
  |some pl=>(I7 (pl.toArray[·]?) z.cells vs).map .agg
  |none=>none
 |some z,some (.array _ e)=>match nI P e with
  |some n=>(I7 (λi=>some (i*n,n)) z.cells vs).map .agg
  |none=>none
 |_,_=>none
noncomputable def gK(P:Program)(t:TypeId)(vs:List (Nat×Value))(W:AW):Option (Value×AW):=(a88 P t vs).map λv=>(v,W)
noncomputable def aV(P:Program)(t:TypeId)(len:Nat)(vs:List (Nat×Value))(W:AW):Option (Value×AW):=
 match P.underlying t with
 |some (.slice e)=>match nI P e,kR P e with
  |some n,some z=>
   if len*n<=16777216/\len<bS/\(Nat.beq z.cells.size n&&z.cells.toList.all bW)=true then
    match I7 (λi=>some (i*n,n)) (BD z.cells.toList len).toArray vs with
    |some c=>some (Value.slice (some ⟨W.next,0,none⟩) len len,W.add (.cells c.toList))
    |none=>none
   else none
  |_,_=>none
 |_=>none
noncomputable def wV(P:Program)(t:TypeId)(a:Value)(W:AW):Option (Value×AW):=(mY P W t a).map λv=>(v,W)
noncomputable def GZ(W:AW)(b off:Nat)(vs:List Value):Option AW:=match W.get b with
 |some (.cells cs)=>(match LD cs off vs with
  |some l=>some (W.put b (.cells l))
  |none=>none)
 |_=>none
theorem MS(W:AW)(b off:Nat)(vs:List Value):GZ W b off vs=match W.get b with
 |some (.cells cs)=>if off+vs.length<=cs.length/\vs.all one=true then some (W.put b (.cells (iX cs off vs)))else none
 |_=>none:=by
 unfold GZ;split
 ·rename_i cs hcs;rw[FY];by_cases h:off+vs.length<=cs.length/\vs.all one=true
  ·rw[if_pos h,if_pos h]
  ·rw[if_neg h,if_neg h]
 ·rfl
theorem a1B{W W':AW}{b off:Nat}{vs:List Value}(h:GZ W b off vs=some W'):qO W b off vs=some W':=by
 unfold GZ at h;unfold qO;split at h
 ·rename_i cs hcs;rw[hcs];exact h
 ·cases h
noncomputable def EX(P:Program)(W:AW)(t:TypeId)(x v:Value):Option AW:=
 match x with
 |.pointer (some a)=>match nI P t with
  |some n=>if v.cells.size=n then GZ W a.block a.off v.cells.toList else none
  |none=>none
 |_=>none
theorem a0y{P:Program}{W W':AW}{t:TypeId}{x v:Value}(h:EX P W t x v=some W'):A9 P W t x v=some W':=by
 unfold EX at h;unfold A9;split at h
 ·split at h
  ·rename_i n hn;simp only[hn];split at h
   ·rename_i hc;rw[if_pos hc];exact a1B h
   ·cases h
  ·cases h
 ·cases h
noncomputable def a9k(P:Program)(t:TypeId)(a x:Value)(W:AW):Option (Value×AW):=(EX P W t a x).map λW'=>(undef,W')
noncomputable def aF(x:Value)(W:AW):Option (Value×AW):=match x with
 |.pointer (some a)=>some (.pointer (some a),W)
 |.func (.func f) a b=>some (.func (.func f) a b,W)
 |.func (.yield l) a b=>some (.func (.yield l) a b,W)
 |.iface t v=>some (.iface t v,W)
 |_=>none
def opd:Bool->Operand
 |true=>.const undef
 |false=>.tmp 0
noncomputable def mW:Operand->Bool:=Operand.rec (λ_=>false) (λ_=>true) (λ_=>false) (λ_=>false)
theorem O0(op:BinOp)(t:TypeId)(x y:Operand)(a b:Value):eqGuard op t x y a b=eqGuard op t (opd (mW x)) (opd (mW y)) a b:=by cases x<;>cases y<;>rfl
noncomputable def aH(P:Program)(op:BinOp)(t:TypeId)(a b:Bool)(vx vy:Value)(W:AW):Option (Value×AW):=
 match lY P W op t vx vy with
 |some v=>some (v,W)
 |none=>(lN P (aX vx&&(aX vy&&true)) (do pure (.value (<-(do eqGuard op t (opd a) (opd b) vx vy;binOp op t vx vy))))).map λv=>(v,W)
noncomputable def F7(P:Program)(op:UnOp)(x:Value)(W:AW):Option (Value×AW):=
 (lN P (aX x&&true) (do pure (.value (<-Op.unary op x)))).map λv=>(v,W)
noncomputable def QX(P:Program)(s d:TypeId)(x:Value)(W:AW):Option (Value×AW):=
 (LQ P W s d x (lN P (aX x&&true) (do pure (.value (<-convert s d x))))).map λv=>(v,W)
noncomputable def pF(P:Program)(t:TypeId)(x:Value)(W:AW):Option (Value×AW):=match P.underlying t with
 |some (.interface _)=>none
 |some _=>some (.iface t x,W)
 |none=>none
noncomputable def vO(fn:Fn)(first captured:Array Value)(W:AW):Option (Value×AW):=match fn with
 |.func f=>some (.func (.func f) first captured,W)
 |_=>none
noncomputable def wB(P:Program)(t:TypeId)(r:Option Value)(W:AW):Option (Value×AW):=match r with
 |none=>some (Value.map (some W.next),W.add (.map [] 0))
 |some h=>match P.underlying t,h with
  |some (.map _ _),.int _ _=>some (Value.map (some W.next),W.add (.map [] 0))
  |_,_=>none
noncomputable def jO(P:Program)(t:TypeId)(l c:Value)(W:AW):Option (Value×AW):=
 match P.underlying t with
 |some (.slice e)=>match nI P e,kR P e,(P.info? e).map (·.bytes),l,c with
  |some n,some z,some bytes,.int _ (.ofNat l),.int _ (.ofNat c)=>
   if l<=c/\c<9223372036854775808/\c*bytes<=281474976710656/\(kH z (c*n)).toList.all bW=true then
    some (Value.slice (some ⟨W.next,0,none⟩) l c,W.add (.cells (kH z (c*n)).toList))
   else none
  |_,_,_,_,_=>none
 |_=>none
noncomputable def bM(P:Program)(t:TypeId)(x:Value)(lo hi mx:Option Value)(W:AW):Option (Value×AW):=
 match iD P t x lo hi mx with
 |some v=>some (v,W)
 |none=>(lN P ((x::(lo.toList++(hi.toList++mx.toList))).all aX) (do pure (.value (<-Instr.sliceAt t x lo hi mx)))).map λv=>(v,W)
noncomputable def a0i(P:Program)(s:TypeId)(x:Value)(f:Nat)(W:AW):Option (Value×AW):=match P.underlying s,x with
 |some (.struct fs),.pointer (some a)=>match fs[f]? with
  |some fl=>match nI P fl.type with
   |some (_+1)=>some (.pointer (some (a.add fl.offset)),W)
   |_=>none
  |none=>none
 |_,_=>none
noncomputable def a8y(P:Program)(t:TypeId)(x:Value)(f:Nat)(W:AW):Option (Value×AW):=match P.underlying t,x with
 |some (.struct fs),.agg cs=>match fs[f]? with
  |some fl=>(C9 P fl.type cs fl.offset).map λv=>(v,W)
  |none=>none
 |_,_=>none
noncomputable def ZE(P:Program)(t:TypeId)(x i:Value)(W:AW):Option (Value×AW):=match P.underlying t,x,iN i with
 |some (.slice e),.slice (some a) len _,some n=>match nI P e with
  |some z=>if n<len then some (.pointer (some (a.add (n*z))),W)else none
  |none=>none
 |some (.array len e),.pointer (some a),some n=>match nI P e with
  |some z=>if n<len then some (.pointer (some (a.add (n*z))),W)else none
  |none=>none
 |_,_,_=>none
noncomputable def jR(P:Program)(t:TypeId)(x i:Value)(W:AW):Option (Value×AW):=match P.underlying t,x,iN i with
 |some (.array len e),.agg cs,some n=>match nI P e with
  |some z=>if n<len then(C9 P e cs (n*z)).map λv=>(v,W)else none
  |none=>none
 |_,_,_=>(lN P (aX x&&(aX i&&true)) (do pure (.value (<-Instr.index t x i)))).map λv=>(v,W)
noncomputable def CS(P:Program)(t:TypeId)(m k:Value)(ok:Bool)(W:AW):Option (Value×AW):=(rH P W t m k ok).map λv=>(v,W)
noncomputable def oN(P:Program)(t:TypeId)(m k v:Value)(W:AW):Option (Value×AW):=(l7 P W t m k v).map λW'=>(undef,W')
noncomputable def aI(x:Value)(i:Nat)(W:AW):Option (Value×AW):=match x with
 |.tuple vs=>(vs[i]?).map λv=>(v,W)
 |_=>none
noncomputable def SC(P:Program)(x:Value)(t:TypeId)(ok:Bool)(W:AW):Option (Value×AW):=match P.underlying t,x with
 |some (.interface _),_=>none
 |some _,.iface u v=>if u=t then some (if ok then .tuple #[v,.bool true]else v,W)else none
 |_,_=>none
noncomputable def G9(P:Program)(t:TypeId)(x:Value)(W:AW):Option (Value×AW):=match P.underlying t,x with
 |some .string,.string s=>some (Value.pointer (some ⟨W.next,0,none⟩),W.add (.siter s 0))
 |_,_=>none
noncomputable def a3d(it:Value)(W:AW):Option (Value×AW):=match it with
 |.pointer (some ⟨b,0,_⟩)=>match W.get b with
  |some (.siter s pos)=>if pos<s.size then some (.tuple #[.bool true,goInt pos,.int .i32 (Utf8.decode s pos).1],W.put b (.siter s (pos+(Utf8.decode s pos).2)))else some (.tuple #[.bool false],W)
  |_=>none
 |_=>none
noncomputable def aG(P:Program)(b:Builtin)(ts:Array TypeId)(ty:TypeId)(cf:Array Bool)(args:List Value)(W:AW):Option (Value×AW):=
 match b,args with
 |.len,[.slice _ n _]=>match(ts[0]?).bind P.underlying with
  |some (.slice _)=>some (goInt n,W)
  |_=>none
 |.len,[.map none]=>match(ts[0]?).bind P.underlying with
  |some (.map _ _)=>some (goInt 0,W)
  |_=>none
 |.len,[.map (some r)]=>match(ts[0]?).bind P.underlying,W.get r with
  |some (.map _ _),some (.map es _)=>some (goInt es.length,W)
  |_,_=>none
 |.append,[s,x]=>D8 P W ts s x
 |.copy,[d,x]=>a1i P W ts d x
 |.clear,[x]=>(BS P W ts x).map λW'=>(.tuple #[],W')
 |.delete,[m,k]=>(rA P W ts m k).map λW'=>(.tuple #[],W')
 |.unsafeSliceData,[x]=>(vT x).map λv=>(v,W)
 |.unsafeString,[p,n]=>oZ P W ts p n
 |_,_=>(lN P (args.all aX) (builtin b ts ty cf args.toArray)).map λv=>(v,W)
noncomputable def dU(P:Program)(call:Callee)(r:Value)(name:String)(args:List Value)(W:AW):Option (Value×AW):=match r with
 |.iface t v=>match sN P t name with
  |some f=>call (.func (.func f) #[] #[]) (v::args) W
  |none=>none
 |_=>none
noncomputable def a8b(x:Operand)(P:Program)(call:Callee)(o:Oper)(R:PlanTab.Fr)(W:AW):Option (Value×AW):=qD (aC R x) W
noncomputable def aAc(c a b:Operand)(P:Program)(call:Callee)(o:Oper)(R:PlanTab.Fr)(W:AW):Option (Value×AW):=dF (aC R c) (aC R a) (aC R b) W
noncomputable def a8N(t:TypeId)(P:Program)(call:Callee)(o:Oper)(R:PlanTab.Fr)(W:AW):Option (Value×AW):=bE P t W
noncomputable def aBN(t:TypeId)(x:Operand)(P:Program)(call:Callee)(o:Oper)(R:PlanTab.Fr)(W:AW):Option (Value×AW):=dK (aC R x) W
noncomputable def a9F(t:TypeId)(ps:Array (Nat×Operand))(P:Program)(call:Callee)(o:Oper)(R:PlanTab.Fr)(W:AW):Option (Value×AW):=gK P t (sG R ps) W
noncomputable def VV(t:TypeId)(n:Nat)(ps:Array (Nat×Operand))(P:Program)(call:Callee)(o:Oper)(R:PlanTab.Fr)(W:AW):Option (Value×AW):=aV P t n (sG R ps) W
noncomputable def a7q(_t:TypeId)(_m _k _v:Operand)(P:Program)(call:Callee)(o:Oper)(R:PlanTab.Fr)(W:AW):Option (Value×AW):=none
noncomputable def aA1(t:TypeId)(a:Operand)(P:Program)(call:Callee)(o:Oper)(R:PlanTab.Fr)(W:AW):Option (Value×AW):=wV P t (aC R a) W
noncomputable def a8T(t:TypeId)(a x:Operand)(P:Program)(call:Callee)(o:Oper)(R:PlanTab.Fr)(W:AW):Option (Value×AW):=a9k P t (aC R a) (aC R x) W
noncomputable def aBm(_g:Nat)(P:Program)(call:Callee)(o:Oper)(R:PlanTab.Fr)(W:AW):Option (Value×AW):=none
noncomputable def a2t(x:Operand)(P:Program)(call:Callee)(o:Oper)(R:PlanTab.Fr)(W:AW):Option (Value×AW):=aF (aC R x) W
noncomputable def a9u(op:BinOp)(t:TypeId)(x y:Operand)(yt:TypeId)(P:Program)(call:Callee)(o:Oper)(R:PlanTab.Fr)(W:AW):Option (Value×AW):=aH P op t (mW x) (mW y) (aC R x) (aC R y) W
noncomputable def a92(op:UnOp)(t:TypeId)(x:Operand)(P:Program)(call:Callee)(o:Oper)(R:PlanTab.Fr)(W:AW):Option (Value×AW):=F7 P op (aC R x) W
noncomputable def a5i(s d:TypeId)(x:Operand)(P:Program)(call:Callee)(o:Oper)(R:PlanTab.Fr)(W:AW):Option (Value×AW):=QX P s d (aC R x) W
noncomputable def kTO(_d:TypeId)(_x:Operand)(P:Program)(call:Callee)(o:Oper)(R:PlanTab.Fr)(W:AW):Option (Value×AW):=none
noncomputable def NM(t:TypeId)(x:Operand)(P:Program)(call:Callee)(o:Oper)(R:PlanTab.Fr)(W:AW):Option (Value×AW):=pF P t (aC R x) W
noncomputable def a2H(fn:Fn)(first captured:Array Operand)(P:Program)(call:Callee)(o:Oper)(R:PlanTab.Fr)(W:AW):Option (Value×AW):=vO fn (first.map (aC R)) (captured.map (aC R)) W
noncomputable def a5B(t:TypeId)(r:Option Operand)(P:Program)(call:Callee)(o:Oper)(R:PlanTab.Fr)(W:AW):Option (Value×AW):=wB P t (r.map (aC R)) W
noncomputable def ZU(t:TypeId)(l c:Operand)(P:Program)(call:Callee)(o:Oper)(R:PlanTab.Fr)(W:AW):Option (Value×AW):=jO P t (aC R l) (aC R c) W
noncomputable def a9C(t:TypeId)(x:Operand)(lo hi mx:Option Operand)(P:Program)(call:Callee)(o:Oper)(R:PlanTab.Fr)(W:AW):Option (Value×AW):=bM P t (aC R x) (lo.map (aC R)) (hi.map (aC R)) (mx.map (aC R)) W
noncomputable def a0j(s:TypeId)(x:Operand)(f:Nat)(P:Program)(call:Callee)(o:Oper)(R:PlanTab.Fr)(W:AW):Option (Value×AW):=a0i P s (aC R x) f W
noncomputable def a9f(t:TypeId)(x:Operand)(f:Nat)(P:Program)(call:Callee)(o:Oper)(R:PlanTab.Fr)(W:AW):Option (Value×AW):=a8y P t (aC R x) f W
noncomputable def ZA(t:TypeId)(x i:Operand)(P:Program)(call:Callee)(o:Oper)(R:PlanTab.Fr)(W:AW):Option (Value×AW):=ZE P t (aC R x) (aC R i) W
noncomputable def a8l(t:TypeId)(x i:Operand)(P:Program)(call:Callee)(o:Oper)(R:PlanTab.Fr)(W:AW):Option (Value×AW):=jR P t (aC R x) (aC R i) W
noncomputable def a7C(t:TypeId)(m k:Operand)(ok:Bool)(P:Program)(call:Callee)(o:Oper)(R:PlanTab.Fr)(W:AW):Option (Value×AW):=CS P t (aC R m) (aC R k) ok W
noncomputable def Z7(t:TypeId)(m k v:Operand)(P:Program)(call:Callee)(o:Oper)(R:PlanTab.Fr)(W:AW):Option (Value×AW):=oN P t (aC R m) (aC R k) (aC R v) W
noncomputable def aCC(_t:TypeId)(_m _k:Operand)(P:Program)(call:Callee)(o:Oper)(R:PlanTab.Fr)(W:AW):Option (Value×AW):=none
noncomputable def aAp(_t:TypeId)(_m _s _v:Operand)(P:Program)(call:Callee)(o:Oper)(R:PlanTab.Fr)(W:AW):Option (Value×AW):=none
noncomputable def a9B(t:TypeId)(x:Operand)(P:Program)(call:Callee)(o:Oper)(R:PlanTab.Fr)(W:AW):Option (Value×AW):=G9 P t (aC R x) W
noncomputable def aA4(it:Operand)(s:Bool)(P:Program)(call:Callee)(o:Oper)(R:PlanTab.Fr)(W:AW):Option (Value×AW):=match s with
 |true=>a3d (aC R it) W
 |false=>none
noncomputable def kO(_it:Operand)(P:Program)(call:Callee)(o:Oper)(R:PlanTab.Fr)(W:AW):Option (Value×AW):=none
noncomputable def UY(x:Operand)(_t a:TypeId)(ok:Bool)(P:Program)(call:Callee)(o:Oper)(R:PlanTab.Fr)(W:AW):Option (Value×AW):=SC P (aC R x) a ok W
noncomputable def a4L(x:Operand)(i:Nat)(P:Program)(call:Callee)(o:Oper)(R:PlanTab.Fr)(W:AW):Option (Value×AW):=aI (aC R x) i W
noncomputable def aBd(c:Call)(P:Program)(call:Callee)(o:Oper)(R:PlanTab.Fr)(W:AW):Option (Value×AW):=
 match c.callee with
 |.builtin b=>aG P b c.argTypes o.type (c.args.map mW) (c.args.toList.map (aC R)) W
 |.value f=>call (aC R f) (c.args.toList.map (aC R)) W
 |.invoke r name=>dU P call (aC R r) name (c.args.toList.map (aC R)) W
noncomputable def kC(_c:Call)(P:Program)(call:Callee)(o:Oper)(R:PlanTab.Fr)(W:AW):Option (Value×AW):=none
noncomputable def kOO(_c _x:Operand)(P:Program)(call:Callee)(o:Oper)(R:PlanTab.Fr)(W:AW):Option (Value×AW):=none
noncomputable def aBi(_t:TypeId)(_c:Operand)(_ok:Bool)(P:Program)(call:Callee)(o:Oper)(R:PlanTab.Fr)(W:AW):Option (Value×AW):=none
noncomputable def a6T(_cs:Array SelectCase)(_bl:Bool)(P:Program)(call:Callee)(o:Oper)(R:PlanTab.Fr)(W:AW):Option (Value×AW):=none
noncomputable def aCk:Op->Program->Callee->Oper->PlanTab.Fr->AW->Option (Value×AW):=
 Op.rec (motive:=λ_=>Program->Callee->Oper->PlanTab.Fr->AW->Option (Value×AW)) a8b a8b aAc a8N aBN a9F VV a7q aA1 a8T aBm aBm a2t a9u a92 a5i kTO NM a2H a5B kTO ZU a9C a0j a9f ZA a8l a7C Z7 aCC aAp a9B aA4 kO UY a4L aBd kC kC kO kOO aBi a6T
noncomputable def kOp(P:Program)(call:Callee)(o:Oper)(R:PlanTab.Fr)(W:AW):Option (Value×AW):=aCk o.op P call o R W
theorem yV{P:Program}{R:PlanTab.Fr}{o:Oper}(hs:zH o.op=true):jM P R o=lN P (o.op.operands.toList.all λx=>aX (aC R x)) (execOp (aC R) o):=by unfold jM lN;rw[hs,Bool.true_and];rfl
theorem all_map{α β:Type}(f:α->β)(p:β->Bool)(l:List α):(l.map f).all p=l.all λx=>p (f x):=by rw[List.all_map];rfl
theorem WA(P:Program)(call:Callee)(dst:Option Tmp)(b:Builtin)(args:Array Operand)(ts:Array TypeId)(ty:TypeId)(pos:String)(after:Array Edge)(guard:Option (Nat×Bool))(R:PlanTab.Fr)(W:AW):
 aG P b ts ty (args.map mW) (args.toList.map (aC R)) W=jL P ⟨dst,.call ⟨.builtin b,args,ts⟩,ty,pos,after,guard⟩ b ts (args.toList.map (aC R)) R W:=by
 have hf:lN P ((args.toList.map (aC R)).all aX) (builtin b ts ty (args.map mW) (args.toList.map (aC R)).toArray)=jM P R ⟨dst,.call ⟨.builtin b,args,ts⟩,ty,pos,after,guard⟩:=by
  rw[yV rfl];have h1:((args.toList.map (aC R)).all aX)=((Op.call {callee:=Callee.builtin b,args:=args,argTypes:=ts}).operands.toList.all λx=>aX (aC R x)):=by
   rw[all_map];have:(Op.call {callee:=.builtin b,args:=args,argTypes:=ts}).operands=args:=by simp[Op.operands,Call.operands]
   rw[this]
  have h2:builtin b ts ty (args.map mW) (args.toList.map (aC R)).toArray=execOp (aC R) ⟨dst,.call ⟨.builtin b,args,ts⟩,ty,pos,after,guard⟩:=by
   have h4:args.map mW=args.map (λ|.const _=>true|_=>false):=by congr 1;funext x;cases x<;>rfl
   have h3:(args.toList.map (aC R)).toArray=args.map (aC R):=by apply Array.toList_inj.1;simp
   rw[h4,h3];symm;simp[execOp,resolve,invoke];rfl
  rw[h1,h2]
 unfold aG jL;rw[hf];rfl
def a1g:Op->Bool
 |.store .. =>true
 |_=>false
theorem a9r(P:Program)(call:Callee)(o:Oper)(R:PlanTab.Fr)(W:AW)(hs:a1g o.op=false):kOp P call o R W=tZ P call o R W:=by
 rw[zF];obtain⟨dst,op,type,pos,after,guard⟩:=o;cases op with
 |store t a x=>cases hs
 |pick c a b=>rfl
 |alloc t=>show bE P t W=_;(simp only[iL,O7,bE,AW.new_eq];try rfl)
 |box t x=>show dK (aC R x) W=_;simp only[iL,O7,dK,AW.new_eq]
 |buildSlice t len ps=>show aV P t len (sG R ps) W=_;(simp only[iL,O7,aV,lM,AW.new_eq];try rfl)
 |binOp op t x y yt=>show aH P op t (mW x) (mW y) (aC R x) (aC R y) W=_;simp only[iL,O7,aH];rw[yV rfl,<-O0];rfl
 |unOp op t x=>show F7 P op (aC R x) W=_;simp only[iL,O7,F7];rw[yV rfl];rfl
 |convert s d x=>show QX P s d (aC R x) W=_;simp only[iL,O7,QX];rw[yV rfl];rfl
 |makeFunc fn a b=>cases fn<;>rfl
 |makeMap t r=>
  cases r with
  |none=>show wB P t none W=_;(simp only[iL,O7,wB,AW.new_eq];try rfl)
  |some r=>show wB P t (some (aC R r)) W=_;(simp only[iL,O7,wB,AW.new_eq];try rfl)
 |makeSlice t l c=>show jO P t (aC R l) (aC R c) W=_;(simp only[iL,O7,jO,oQ,AW.new_eq];try rfl)
 |slice t x lo hi mx=>
  show bM P t (aC R x) (lo.map (aC R)) (hi.map (aC R)) (mx.map (aC R)) W=_;simp only[iL,O7,bM];rw[yV rfl];have:(aC R x::((lo.map (aC R)).toList++((hi.map (aC R)).toList++(mx.map (aC R)).toList))).all aX=((Op.slice t x lo hi mx).operands.toList.all λx=>aX (aC R x)):=by cases lo<;>cases hi<;>cases mx<;>simp[Op.operands]
  rw[this];rfl
 |index t x i=>show jR P t (aC R x) (aC R i) W=_;simp only[iL,O7,jR];rw[yV rfl];rfl
 |range t x=>show G9 P t (aC R x) W=_;(simp only[iL,O7,G9,AW.new_eq];try rfl)
 |next it s=>cases s<;>rfl
 |call c=>
  obtain⟨callee,args,ts⟩:=c;cases callee with
  |builtin b=>exact WA P call dst b args ts type pos after guard R W
  |value f=>rfl
  |invoke r name=>rfl
 |_=>rfl
theorem a0a{P:Program}{call:Callee}{o:Oper}{R:PlanTab.Fr}{W:AW}{r:Value×AW}(h:kOp P call o R W=some r):tZ P call o R W=some r:=by
 cases hs:a1g o.op with
 |false=>rw[<-a9r P call o R W hs];exact h
 |true=>
  rw[zF];obtain⟨dst,op,type,pos,after,guard⟩:=o;cases op<;>(try cases hs);rename_i t a x;have h':(EX P W t (aC R a) (aC R x)).map (λW'=>(undef,W'))=some r:=h;simp only[iL,O7];cases hc:EX P W t (aC R a) (aC R x)with
  |none=>rw[hc]at h';cases h'
  |some W'=>rw[hc]at h';rw[a0y hc];exact h'
noncomputable def aP(x:Value)(W:AW):Option (Value×AW):=(match x with
 |.pointer (some a)=>(match cellsAt W a.block with
  |some cs=>a6J cs a.off
  |none=>none)
 |_=>none).map λv=>(v,W)
noncomputable def eU(n:Nat)(x:Value)(W:AW):Option (Value×AW):=(match x with
 |.pointer (some a)=>(pX W a.block a.off n).map λ(l:List Value)=>Value.agg l.toArray
 |_=>none).map λv=>(v,W)
noncomputable def fZ(n:Nat)(x v:Value)(W:AW):Option (Value×AW):=(match x with
 |.pointer (some a)=>if v.cells.size=n then GZ W a.block a.off v.cells.toList else none
 |_=>none).map λW'=>(undef,W')
noncomputable def bI(off:Nat)(x:Value)(W:AW):Option (Value×AW):=match x with
 |.pointer (some a)=>some (.pointer (some (a.add off)),W)
 |_=>none
noncomputable def fdC(off:Nat)(x:Value)(W:AW):Option (Value×AW):=match x with
 |.agg cs=>(cs[off]?).map λv=>(v,W)
 |_=>none
noncomputable def fdA(off n:Nat)(x:Value)(W:AW):Option (Value×AW):=match x with
 |.agg cs=>(some (Value.agg (cs.extract off (off+n)))).map λv=>(v,W)
 |_=>none
noncomputable def jI(z:Nat)(x i:Value)(W:AW):Option (Value×AW):=match x,iN i with
 |.slice (some a) len _,some n=>if n<len then some (.pointer (some (a.add (n*z))),W)else none
 |_,_=>none
noncomputable def ixA(len z:Nat)(x i:Value)(W:AW):Option (Value×AW):=match x,iN i with
 |.pointer (some a),some n=>if n<len then some (.pointer (some (a.add (n*z))),W)else none
 |_,_=>none
end Go.Eng
namespace Go.Eng
open Go
variable [PlanTab]
theorem aBp:∃f:(∀(α ρ:Type),Option α->(α->Option ρ)->Option ρ),f=λ_ _ x g=>x.bind g:=⟨_,rfl⟩
noncomputable def aA{α ρ:Type}(x:Option α)(g:α->Option ρ):Option ρ:=Classical.choose aBp α ρ x g
theorem L8{α ρ:Type}(x:Option α)(g:α->Option ρ):aA x g=x.bind g:=by unfold aA;rw[Classical.choose_spec aBp]
abbrev KT(ρ:Type):=X->PlanTab.Fr->AW->Option ρ
abbrev LT:=X×PlanTab.Fr×AW
noncomputable def bZ(v:Value)(w:Bool):Bool:=match v with|.bool b=>b==w|_=>false
noncomputable def XP(ops:Array Oper)(R:PlanTab.Fr)(o:Oper):Bool:=match o.guard with
 |none=>true
 |some (j,w)=>match(ops[j]?).bind (·.dst)with
  |some t=>bZ (dP R t) w
  |none=>false
theorem XN(ops:Array Oper)(R:PlanTab.Fr)(o:Oper):XP ops R o=iQ ops R o:=by
 unfold XP iQ;cases o.guard with
 |none=>rfl
 |some p=>obtain⟨j,w⟩:=p;simp only;cases(ops[j]?).bind (·.dst)<;>rfl
noncomputable def bL{ρ:Type}(c:Bool)(a b:ρ):ρ:=Bool.rec (motive:=λ_=>ρ) b a c
noncomputable def wJ(P:Program)(call:Callee)(ops:Array Oper)(o:Oper)(R:PlanTab.Fr)(W:AW):Option (Value×AW):=
 bL (XP ops R o) (kOp P call o R W) (some (undef,W))
noncomputable def mvO:Op->Option Operand:=Op.rec (motive:=λ_=>Option Operand) some some (λ_ _ _=>none) (λ_=>none) (λ_ _=>none) (λ_ _=>none) (λ_ _ _=>none) (λ_ _ _ _=>none) (λ_ _=>none) (λ_ _ _=>none) (λ_=>none) (λ_=>none) (λ_=>none) (λ_ _ _ _ _=>none) (λ_ _ _=>none) (λ_ _ _=>none) (λ_ _=>none) (λ_ _=>none) (λ_ _ _=>none) (λ_ _=>none) (λ_ _=>none) (λ_ _ _=>none) (λ_ _ _ _ _=>none) (λ_ _ _=>none) (λ_ _ _=>none) (λ_ _ _=>none) (λ_ _ _=>none) (λ_ _ _ _=>none) (λ_ _ _ _=>none) (λ_ _ _=>none) (λ_ _ _ _=>none) (λ_ _=>none) (λ_ _=>none) (λ_=>none) (λ_ _ _ _=>none) (λ_ _=>none) (λ_=>none) (λ_=>none) (λ_=>none) (λ_=>none) (λ_ _=>none) (λ_ _ _=>none) (λ_ _=>none)
noncomputable def mvG(o:Oper):Option Operand:=Option.rec (motive:=λ_=>Option Operand) (mvO o.op) (λ_=>none) o.guard
noncomputable def WB(P:Program)(call:Callee)(ops:Array Oper){ρ:Type}(K:PlanTab.Fr->AW->Option ρ)(l:List Oper):PlanTab.Fr->AW->Option ρ:=
 List.rec (motive:=λ_=>PlanTab.Fr->AW->Option ρ) (λR W=>K R W) (λo _ ih R W=>Option.rec (motive:=λ_=>Option ρ) (aA (wJ P call ops o R W) λr=>ih (dR R o.dst r.1) r.2) (λx=>ih (dR R o.dst (aC R x)) W) (mvG o)) l
noncomputable def UE(w:Bool)(r:Option (Value×AW))(v:Value):Bool:=bL w (match r with|some (u,_)=>vsame u v|none=>false) true
noncomputable def agN(w:Bool)(r:Option (Value×AW)):Bool:=bL w r.isSome true
noncomputable def FZ(P:Program)(call:Callee)(ops:Array Oper)(R:PlanTab.Fr)(W:AW)(j:Nat):Bool:=match ops[j]? with
 |none=>false
 |some o=>match o.dst with
  |some t=>UE (XP ops R o) (kOp P call o R W) (dP R t)
  |none=>agN (XP ops R o) (kOp P call o R W)
noncomputable def X5(P:Program)(call:Callee)(ops:Array Oper){ρ:Type}(K:PlanTab.Fr->AW->Option ρ)(l:List (Nat×List Nat)):PlanTab.Fr->AW->Option ρ:=
 List.rec (motive:=λ_=>PlanTab.Fr->AW->Option ρ) (λR W=>K R W) (λp _ ih R W=>match ops[p.1]? with
  |none=>none
  |some o=>Option.rec (motive:=λ_=>Option ρ) (aA (wJ P call ops o R W) λr=>bL (p.2.all (FZ P call ops (dR R o.dst r.1) r.2)) (ih (dR R o.dst r.1) r.2) none) (λx=>ih (dR R o.dst (aC R x)) W) (List.rec (motive:=λ_=>Option Operand) (mvG o) (λ_ _ _=>none) p.2)) l
noncomputable def aU(R:PlanTab.Fr)(l:List (Nat×Value)):PlanTab.Fr:=List.rec (motive:=λ_=>PlanTab.Fr->PlanTab.Fr) (λR=>R) (λp _ ih R=>ih (dR R (some p.1) p.2)) l R
noncomputable def wI{ρ:Type}(x:X)(a b:Option ρ):Option ρ:=X.rec (motive:=λ_=>Option ρ) a (λ_=>b) b x
noncomputable def dB{ρ:Type}(id:Nat)(x:X)(a b:Option ρ):Option ρ:=X.rec (motive:=λ_=>Option ρ) b (λi=>bL (Nat.beq i id) a b) b x
noncomputable def aAV{ρ:Type}(x:X)(a:Option ρ):Option ρ:=X.rec (motive:=λ_=>Option ρ) a (λ_=>none) a x
noncomputable def bK{ρ:Type}(v:Value)(a b:Option ρ):Option ρ:=match v with|.bool c=>bL c a b|_=>none
abbrev CT:=∀ρ:Type,PlanTab.Fr->AW->KT ρ->Option ρ
noncomputable def aDj{ρ:Type}(R:PlanTab.Fr)(W:AW)(K:KT ρ):Option ρ:=K .normal R W
noncomputable def rG:KT LT:=λx R W=>some (x,R,W)
noncomputable def a8V:CT:=λ_ R W K=>K .normal R W
noncomputable def NQ(P:Program)(call:Callee)(id:Nat)(ops:Array Oper)(draw:Bool):CT:=λ_ R W K=>match draw with
 |false=>WB P call ops (K .normal) ops.toList R W
 |true=>match PlanTab.D id ops with
  |none=>WB P call ops (K .normal) ops.toList R W
  |some pl=>X5 P call ops (K .normal) pl R W
noncomputable def aAP(_ _:Code)(ia ib:CT):CT:=λρ R W K=>ia ρ R W λx R' W'=>X.rec (motive:=λ_=>Option ρ) (ib ρ R' W' K) (λ_=>K x R' W') (K x R' W') x
noncomputable def a8A(c:Operand)(_ _:Code)(ia ib:CT):CT:=λρ R W K=>bK (aC R c) (ia ρ R W K) (ib ρ R W K)
noncomputable def a6O(id:Nat)(_:Code)(ib:CT):CT:=λρ R W K=>ib ρ R W λx R' W'=>X.rec (motive:=λ_=>Option ρ) (K x R' W') (λi=>Bool.rec (motive:=λ_=>Option ρ) (K x R' W') (K .normal R' W') (Nat.beq i id)) (K x R' W') x
noncomputable def aA5(i:Nat):List Nat->List Nat:=List.rec [i] λx l ih=>Bool.rec (x::ih) (x::l) (Nat.beq x i)
noncomputable def a0F(a b:List Nat):List Nat:=List.rec b (λx _ ih=>aA5 x ih) a
noncomputable def aBs(i:Nat)(a:List Nat):List Nat:=List.rec [] (λx _ ih=>Bool.rec (x::ih) ih (Nat.beq x i)) a
noncomputable def exs:Code->List Nat×Bool:=
 Code.rec (motive:=λ_=>List Nat×Bool) ([],false) (λ_ _ _=>([],false)) (λ_ _ a b=>(a0F a.1 b.1,a.2||b.2)) (λ_ _ _ a b=>(a0F a.1 b.1,a.2||b.2)) (λi _ b=>(aBs i b.1,b.2)) (λ_ b=>b)
  (λ_ _ _ _ a b=>(a0F a.1 b.1,a.2||b.2)) (λi=>([i],false)) (λ_ b=>b) (λ_=>([],false)) (λ_=>([],false)) ([],true) (λ_=>([],false))
noncomputable def jU{ρ:Type}(x:X)(a:Option ρ):Option ρ:=X.rec (motive:=λ_=>Option ρ) none (λ_=>none) a x
noncomputable def xR{ρ:Type}(x:X)(k:X->Option ρ)(ret:Bool)(l:List Nat):Option ρ:=
 List.rec (motive:=λ_=>Option ρ) (bL ret (jU x (k .ret)) none) (λi _ ih=>dB i x (k (.exit i)) ih) l
theorem oL{ρ:Type}{x:X}{k:X->Option ρ}{ret:Bool}{r:ρ}:∀{l:List Nat},xR x k ret l=some r->k x=some r
 |[],h=>by
  cases ret with
  |false=>cases h
  |true=>cases x<;>first|exact h|cases h
 |i::l,h=>by
  cases x with
  |normal=>exact oL (l:=l) h
  |ret=>exact oL (l:=l) h
  |exit j=>
   have h':bL (Nat.beq j i) (k (.exit i)) (xR (.exit j) k ret l)=some r:=h;cases hb:Nat.beq j i with
   |true=>rw[hb]at h';have:=Nat.eq_of_beq_eq_true hb;subst this;exact h'
   |false=>rw[hb]at h';exact oL (l:=l) h'
theorem a7T:∃f:(PlanTab.Fr->AW->Option LT)->Nat->PlanTab.Fr->AW->Option LT,f=kN:=⟨kN,rfl⟩
noncomputable def bY:(PlanTab.Fr->AW->Option LT)->PlanTab.Fr->AW->Option LT:=λf=>Classical.choose a7T f 1000000
theorem WH(f:PlanTab.Fr->AW->Option LT):bY f=kN f 1000000:=by unfold bY;rw[Classical.choose_spec a7T]
noncomputable def a9e(b:Code)(ib:CT):CT:=λ_ R W K=>aA (bY (λR W=>ib LT R W rG) R W) λr=>xR r.1 (λx=>K x r.2.1 r.2.2) (exs b).2 (exs b).1
noncomputable def mP(call:Callee)(f:Value)(obj:AObj)(W:AW):Option (X×AW):=match f with
 |.func (.func i) fs cs=>match call (.func (.func i) fs cs) [.func (.yield W.next) #[] #[]] (W.add obj)with
  |some (_,W2)=>match W2.get W.next with
   |some (.loop st pend _ _ _ _ _)=>(match st with
    |.busy=>none
    |_=>match pend with
     |none=>some (.normal,W2.kill W.next)
     |some (.exit i)=>some (.exit i,W2.kill W.next)
     |some .ret=>some (.ret,W2.kill W.next)
     |_=>none)
   |_=>none
  |none=>none
 |_=>none
noncomputable def TF(call:Callee)(top:Bool)(nt:Nat)(f:Operand)(ps:Array Tmp)(as bd:Code)(_ _:CT):CT:=λ_ R W K=>match top with
 |false=>none
 |true=>aA (mP call (aC R f) (.loop .ready none R nt ps as bd) W) λr=>wI r.1 (K .normal R r.2) (xR r.1 (λx=>K x R r.2) (exs bd).2 (exs bd).1)
noncomputable def a8r(id:Nat):CT:=λ_ R W K=>K (.exit id) R W
noncomputable def aAh:CT:=λ_ R W K=>K .ret R W
noncomputable def a6W(_:Nat):CT:=λ_ R W K=>K .normal R W
noncomputable def a8Z(_:Nat):CT:=λ_ _ _ _=>none
noncomputable def a6v(_:Code)(_:CT):CT:=λ_ _ _ _=>none
noncomputable def a3g(_:String):CT:=λ_ _ _ _=>none
noncomputable def iI(P:Program)(call:Callee)(top:Bool)(nt:Nat):Code->CT:=
 Code.rec (motive:=λ_=>CT) a8V (NQ P call) aAP a8A a6O a9e (TF call top nt) a8r a6v a6W a8Z aAh a3g
section
variable {P:Program} {call:Callee}
theorem K7{ops:Array Oper}{o:Oper}{R:PlanTab.Fr}{W:AW}{r:Value×AW}(h:wJ P call ops o R W=some r):lQ P call ops o R W=some (dR R o.dst r.1,r.2):=by
 unfold wJ at h;unfold lQ;rw[XN]at h;cases hw:iQ ops R o with
 |true=>rw[hw]at h;rw[if_pos rfl];have h':kOp P call o R W=some r:=h;rw[a0a h']
 |false=>rw[hw]at h;rw[if_neg (by simp)];have h':some (undef,W)=some r:=h;injection h' with h';subst h';rfl
theorem a4u{op:Op}{x:Operand}(h:mvO op=some x):op=.move x\/op=.assign x:=by cases op<;>first|(injection h with h;subst h;first|exact .inl rfl|exact .inr rfl)|cases h
theorem a1f{ops:Array Oper}{o:Oper}{R:PlanTab.Fr}{W:AW}{x:Operand}(h:mvG o=some x):lQ P call ops o R W=some (dR R o.dst (aC R x),W):=by
 have hk:wJ P call ops o R W=some (aC R x,W):=by
  obtain⟨dst,op,type,pos,after,guard⟩:=o;cases guard with
  |some g=>cases h
  |none=>rcases a4u h with rfl|rfl<;>rfl
 rw[K7 hk]
theorem a0X{ops:Array Oper}{ρ:Type}{K:PlanTab.Fr->AW->Option ρ}{r:ρ}:∀(l:List Oper) (R:PlanTab.Fr) (W:AW),WB P call ops K l R W=some r->(sQ P call ops l R W).bind (λq=>K q.1 q.2)=some r:=by
 intro l;induction l with
 |nil=>intro R W h;exact h
 |cons o l ih=>
  intro R W h;cases hm:mvG o with
  |some x=>have h':Option.rec (motive:=λ_=>Option ρ) (aA (wJ P call ops o R W) λr=>WB P call ops K l (dR R o.dst r.1) r.2) (λx=>WB P call ops K l (dR R o.dst (aC R x)) W) (mvG o)=some r:=h;rw[hm]at h';rw[sQ,a1f hm];exact ih _ _ h'
  |none=>
  have h0:Option.rec (motive:=λ_=>Option ρ) (aA (wJ P call ops o R W) λr=>WB P call ops K l (dR R o.dst r.1) r.2) (λx=>WB P call ops K l (dR R o.dst (aC R x)) W) (mvG o)=some r:=h;rw[hm]at h0;have h':aA (wJ P call ops o R W) (λr=>WB P call ops K l (dR R o.dst r.1) r.2)=some r:=h0;rw[L8]at h';cases hk:wJ P call ops o R W with
  |none=>rw[hk]at h';cases h'
  |some q=>rw[hk]at h';rw[sQ,K7 hk];exact ih _ _ h'
theorem a1P{ops:Array Oper}{R:PlanTab.Fr}{W:AW}(j:Nat)(h:FZ P call ops R W j=true):tL P call ops R W j=true:=by
 unfold FZ at h;unfold tL;cases ho:ops[j]? with
 |none=>rw[ho]at h;cases h
 |some o=>
  rw[ho]at h;simp only at h|-;rw[XN]at h;cases hd:o.dst with
  |none=>
   rw[hd]at h;simp only[agN]at h;simp only;cases hw:iQ ops R o with
   |false=>rfl
   |true=>rw[hw]at h;have h':(kOp P call o R W).isSome=true:=h;obtain⟨q,hq⟩:=Option.isSome_iff_exists.1 h';rw[a0a hq];rfl
  |some t=>
   rw[hd]at h;simp only[UE]at h;simp only;cases hw:iQ ops R o with
   |false=>rfl
   |true=>
    rw[hw]at h;have h':(match kOp P call o R W with|some (u,_)=>vsame u (dP R t)|none=>false)=true:=h;cases hq:kOp P call o R W with
    |none=>rw[hq]at h';cases h'
    |some q=>rw[hq]at h';rw[a0a hq];exact h'
theorem a5G{ops:Array Oper}{ρ:Type}{K:PlanTab.Fr->AW->Option ρ}{r:ρ}:∀(l:List (Nat×List Nat)) (R:PlanTab.Fr) (W:AW),X5 P call ops K l R W=some r->(kT P call ops l R W).bind (λq=>K q.1 q.2)=some r:=by
 intro l;induction l with
 |nil=>intro R W h;exact h
 |cons p l ih=>
  intro R W h;obtain⟨i,re⟩:=p
  have h0:(match ops[i]? with
   |none=>none
   |some o=>Option.rec (motive:=λ_=>Option ρ) (aA (wJ P call ops o R W) λr=>bL (re.all (FZ P call ops (dR R o.dst r.1) r.2)) (X5 P call ops K l (dR R o.dst r.1) r.2) none) (λx=>X5 P call ops K l (dR R o.dst (aC R x)) W) (List.rec (motive:=λ_=>Option Operand) (mvG o) (λ_ _ _=>none) re))=some r:=h;rw[kT];cases ho:ops[i]? with
  |none=>rw[ho]at h0;cases h0
  |some o=>
   rw[ho]at h0;simp only at h0|-;cases hm:(List.rec (motive:=λ_=>Option Operand) (mvG o) (λ_ _ _=>none) re:Option Operand)with
   |some x=>
    rw[hm]at h0;cases re with
    |cons _ _=>cases hm
    |nil=>rw[a1f hm];exact ih _ _ h0
   |none=>
   rw[hm]at h0;have h':aA (wJ P call ops o R W) (λr=>bL (re.all (FZ P call ops (dR R o.dst r.1) r.2)) (X5 P call ops K l (dR R o.dst r.1) r.2) none)=some r:=h0;rw[L8]at h';cases hk:wJ P call ops o R W with
   |none=>rw[hk]at h';cases h'
   |some q=>
    rw[hk]at h';rw[K7 hk];simp only[Option.bind_some]at h'|-;cases ha:re.all (FZ P call ops (dR R o.dst q.1) q.2)with
    |false=>rw[ha]at h';cases h'
    |true=>
     rw[ha]at h';have:re.all (tL P call ops (dR R o.dst q.1) q.2)=true:=by rw[List.all_eq_true]at ha|-;exactλj hj=>a1P j (ha j hj)
     rw[if_pos this];exact ih _ _ h'
theorem NL{f g:PlanTab.Fr->AW->Option LT}(h:∀R W r,f R W=some r->g R W=some r):∀(n:Nat) (R:PlanTab.Fr) (W:AW) (r:LT),kN f n R W=some r->kN g n R W=some r:=by
 intro n;induction n with
 |zero=>intro R W r hr;cases hr
 |succ n ih=>
  intro R W r hr;unfold kN at hr|-;cases hf:f R W with
  |none=>rw[hf]at hr;cases hr
  |some q=>
   rw[h _ _ _ hf];rw[hf]at hr;obtain⟨x,R',W'⟩:=q;cases x with
   |normal=>exact ih _ _ _ hr
   |exit i=>exact hr
   |ret=>exact hr
theorem VB{top:Bool}{nt:Nat}:∀(c:Code) (ρ:Type) (R:PlanTab.Fr) (W:AW) (K:KT ρ) (r:ρ),iI P call top nt c ρ R W K=some r->(bD P call top nt c R W).bind (λr=>K r.1 r.2.1 r.2.2)=some r:=by
 intro c;induction c with
 |skip=>intro ρ R W K r h;exact h
 |label l=>intro ρ R W K r h;exact h
 |exit id=>intro ρ R W K r h;exact h
 |ret=>intro ρ R W K r h;exact h
 |goto l=>intro ρ R W K r h;exact h
 |scope b _=>intro ρ R W K r h;cases h
 |refuse s=>intro ρ R W K r h;cases h
 |region id ops draw=>
  intro ρ R W K r h;have h:NQ P call id ops draw ρ R W K=some r:=h;unfold NQ at h;unfold bD;cases draw with
  |false=>
   simp only at h|-;have:=a0X _ _ _ h;cases ha:sQ P call ops ops.toList R W with
   |none=>rw[ha]at this;cases this
   |some q=>rw[ha]at this;exact this
  |true=>
   simp only at h|-;cases hd:PlanTab.D id ops with
   |none=>
    rw[hd]at h;simp only at h|-;have:=a0X _ _ _ h;cases ha:sQ P call ops ops.toList R W with
    |none=>rw[ha]at this;cases this
    |some q=>rw[ha]at this;exact this
   |some pl=>
    rw[hd]at h;simp only at h|-;have:=a5G _ _ _ h;cases ha:kT P call ops pl R W with
    |none=>rw[ha]at this;cases this
    |some q=>rw[ha]at this;exact this
 |seq a b iha ihb=>
  intro ρ R W K r h;have h1:=iha ρ R W _ r h;rw[bD];cases ha:bD P call top nt a R W with
  |none=>rw[ha]at h1;cases h1
  |some q=>
   rw[ha]at h1;obtain⟨x,R',W'⟩:=q;cases x with
   |normal=>exact ihb _ _ _ _ _ h1
   |exit i=>exact h1
   |ret=>exact h1
 |cond c a b iha ihb=>
  intro ρ R W K r h;have h':bK (aC R c) (iI P call top nt a ρ R W K) (iI P call top nt b ρ R W K)=some r:=h;rw[bD];cases hc:aC R c with
  |bool d=>
   rw[hc]at h';cases d with
   |true=>exact iha _ _ _ _ _ h'
   |false=>exact ihb _ _ _ _ _ h'
  |_=>rw[hc]at h';cases h'
 |block id b ih=>
  intro ρ R W K r h;have h1:=ih ρ R W _ r h;rw[bD];cases ha:bD P call top nt b R W with
  |none=>rw[ha]at h1;cases h1
  |some q=>
   rw[ha]at h1;obtain⟨x,R',W'⟩:=q;cases x with
   |normal=>exact h1
   |ret=>exact h1
   |exit i=>
    have h2:bL (Nat.beq i id) (K .normal R' W') (K (.exit i) R' W')=some r:=h1;by_cases hi:i=id
    ·subst hi;rw[Nat.beq_refl]at h2;simp only[if_true,Option.bind_some];exact h2
    ·have:Nat.beq i id=false:=by
      cases hb:Nat.beq i id with
      |true=>exact absurd (Nat.eq_of_beq_eq_true hb) hi
      |false=>rfl
     rw[this]at h2;simp only[if_neg hi,Option.bind_some];exact h2
 |loop b ih=>
  intro ρ R W K r h;have h':aA (bY (λR W=>iI P call top nt b LT R W rG) R W) (λq=>xR q.1 (λx=>K x q.2.1 q.2.2) (exs b).2 (exs b).1)=some r:=h;rw[L8,WH]at h';cases hl:kN (λR W=>iI P call top nt b LT R W rG) 1000000 R W with
  |none=>rw[hl]at h';cases h'
  |some q=>
   rw[hl]at h';have:=NL (g:=bD P call top nt b) (λR W q hq=>by
    have:=ih LT R W rG q hq;cases ha:bD P call top nt b R W with
    |none=>rw[ha]at this;cases this
    |some q'=>rw[ha]at this;exact this) _ _ _ _ hl;rw[bD,this];exact oL (show xR q.1 (λx=>K x q.2.1 q.2.2) (exs b).2 (exs b).1=some r from h')
 |rangeFunc f ps as bd _ _=>
  intro ρ R W K r h;have h':TF call top nt f ps as bd (iI P call top nt as) (iI P call top nt bd) ρ R W K=some r:=h;unfold TF at h';cases top with
  |false=>cases h'
  |true=>
   simp only[L8]at h';have h2:(mP call (aC R f) (.loop .ready none R nt ps as bd) W).bind (λq=>K q.1 R q.2)=some r:=by
    cases ho:mP call (aC R f) (.loop .ready none R nt ps as bd) W with
    |none=>rw[ho]at h';cases h'
    |some q=>
     rw[ho]at h';obtain⟨x,W'⟩:=q;cases x with
     |normal=>exact h'
     |exit i=>exact oL (show xR (.exit i) (λx=>K x R W') (exs bd).2 (exs bd).1=some r from h')
     |ret=>exact oL (show xR .ret (λx=>K x R W') (exs bd).2 (exs bd).1=some r from h')
   rw[<-h2];unfold bD mP;simp only;cases aC R f with
   |func fn fs cs=>
    cases fn with
    |func i=>
     simp only[AW.new_eq];cases call (.func (.func i) fs cs) [.func (.yield W.next) #[] #[]] (W.add (.loop .ready none R nt ps as bd))with
     |none=>rfl
     |some r=>
      obtain⟨v,W2⟩:=r;simp only;cases W2.get W.next with
      |none=>rfl
      |some obj=>
       cases obj with
       |loop st pend tm n p a b=>
        cases st<;>simp only<;>(cases pend with
         |none=>rfl
         |some c=>cases c<;>rfl)
       |_=>rfl
    |_=>rfl
   |_=>rfl
theorem PE{top:Bool}{nt:Nat}{c:Code}{R:PlanTab.Fr}{W:AW}{r:LT}(h:iI P call top nt c LT R W rG=some r):bD P call top nt c R W=some r:=by
 have:=VB c LT R W rG r h;cases ha:bD P call top nt c R W with
 |none=>rw[ha]at this;cases this
 |some q=>rw[ha]at this;exact this
end
noncomputable def yF(P:Program)(W:AW):List (Value×Option TypeId)->Option (List Value)
 |[]=>some []
 |(v,none)::l=>match yF P W l with
  |some vs=>some (v::vs)
  |none=>none
 |(a,some t)::l=>match mY P W t a with
  |some v=>match yF P W l with
   |some vs=>some (v::vs)
   |none=>none
  |none=>none
noncomputable def aJ(P:Program)(l:List (Value×Option TypeId))(W:AW):Option (Value×AW):=match yF P W l with
 |some [v]=>some (v,W)
 |some vs=>some (.tuple vs.toArray,W)
 |none=>none
noncomputable def rv(R:PlanTab.Fr):ResultVar->Value×Option TypeId:=ResultVar.rec (λt=>(dP R t,none)) (λa t=>(dP R a,some t))
theorem NE(P:Program)(W:AW)(R:PlanTab.Fr):∀l:List ResultVar,NZ P W R l=yF P W (l.map (rv R))
 |[]=>rfl
 |.tmp t::l=>by show(match NZ P W R l with|some vs=>some (dP R t::vs)|none=>none)=(match yF P W (l.map (rv R))with|some vs=>some (dP R t::vs)|none=>none);rw[NE P W R l]
 |.cell a t::l=>by show(match mY P W t (dP R a)with|some v=>(match NZ P W R l with|some vs=>some (v::vs)|none=>none)|none=>none)=(match mY P W t (dP R a)with|some v=>(match yF P W (l.map (rv R))with|some vs=>some (v::vs)|none=>none)|none=>none);rw[NE P W R l]
noncomputable def a6F(P:Program)(call:Callee)(nt:Nat)(c:Code)(rs:Array ResultVar)(vals:List Value)(W:AW):Option (Value×AW):=
 iI P call true nt c (Value×AW) (dH 0 vals PlanTab.blank) W λx R W'=>X.rec (motive:=λ_=>Option (Value×AW)) (aJ P (rs.toList.map (rv R)) W') (λ_=>none) (aJ P (rs.toList.map (rv R)) W') x
theorem a2h{P:Program}{bad:List Nat}{spec call:Callee}{i:Nat}{fn:Func}{c:Code}(hb:R4 i bad=false)(hf:P.funcs[i]? =some fn)(hc:fn.body=some c){fs cs:Array Value}{args:List Value}
 (hn:Nat.ble (fs.toList.length+(args.length+cs.toList.length)) fn.ntmps=true){W:AW}{r:Value×AW}(h:a6F P call fn.ntmps c fn.results (fs.toList++(args++cs.toList)) W=some r):
 gP P bad spec call (.func (.func i) fs cs) args W=some r:=by
 unfold a6F at h;have h1:=VB _ _ _ _ _ _ h;unfold gP;simp only[hb,hf,hc,hn];cases ha:bD P call true fn.ntmps c (dH 0 (fs.toList++(args++cs.toList)) PlanTab.blank) W with
 |none=>rw[ha]at h1;cases h1
 |some q=>
  rw[ha]at h1;obtain⟨x,R,W'⟩:=q;simp only[Option.bind_some]at h1;rw[<-h1];unfold uY aJ;simp only[NE];cases x with
  |exit id=>rfl
  |normal=>simp only[aAV];rcases yF P W' (fn.results.toList.map (rv R))with _|_|⟨v,_|⟨u,l⟩⟩<;>rfl
  |ret=>simp only[aAV];rcases yF P W' (fn.results.toList.map (rv R))with _|_|⟨v,_|⟨u,l⟩⟩<;>rfl
noncomputable def RS(P:Program)(call:Callee)(l:Nat)(nt:Nat)(as bd:Code)(R:PlanTab.Fr)(W:AW):Option (Value×AW):=
 (iI P call false nt as LT R W rG).bind λr1=>wI r1.1 (match r1.2.2.get l with
  |some (.loop .ready pd9 R9 nt9 ps9 as9 bd9)=>(iI P call false nt bd LT r1.2.1 (r1.2.2.put l (.loop .busy pd9 R9 nt9 ps9 as9 bd9)) rG).bind λr2=>(match r2.2.2.get l with
   |some (.loop _ _ R8 nt8 ps8 as8 bd8)=>(match r2.1 with
    |.normal=>some (.bool true,r2.2.2.put l (.loop .ready none R8 nt8 ps8 as8 bd8))
    |x=>some (.bool false,r2.2.2.put l (.loop .done x.jump R8 nt8 ps8 as8 bd8)))
   |_=>none)
  |_=>none) none
theorem VD{P:Program}{bad:List Nat}{spec call:Callee}{l nt:Nat}{R:PlanTab.Fr}{ps:Array Tmp}{as bd:Code}{W:AW}(hl:W.get l=some (.loop .ready none R nt ps as bd)){fs cs:Array Value}{args:List Value}(hn:fs.toList.length+args.length=ps.size)
 {r:Value×AW}(h:RS P call l nt as bd (pW ps.toList (fs.toList++args) R) W=some r):
 gP P bad spec call (.func (.yield l) fs cs) args W=some r:=by
 unfold RS at h;have hb:Nat.beq (fs.toList.length+args.length) ps.size=true:=by rw[hn];exact Nat.beq_refl _
 unfold gP;simp only[hl,hb];cases h1:iI P call false nt as LT (pW ps.toList (fs.toList++args) R) W rG with
 |none=>rw[h1]at h;cases h
 |some q=>
  rw[h1]at h;rw[PE h1];obtain⟨x,R1,W1⟩:=q;simp only[Option.bind_some]at h;cases x with
  |exit id=>cases h
  |ret=>cases h
  |normal=>
   simp only[wI]at h|-;cases hg:W1.get l with
   |none=>rw[hg]at h;cases h
   |some obj=>
    rw[hg]at h;cases obj with
    |loop st pd9 R9 nt9 ps9 as9 bd9=>
     cases st with
     |ready=>
      simp only at h|-;cases h2:iI P call false nt bd LT R1 (W1.put l (.loop .busy pd9 R9 nt9 ps9 as9 bd9)) rG with
      |none=>rw[h2]at h;cases h
      |some q2=>
       rw[h2]at h;rw[PE h2];obtain⟨x2,R2,W2⟩:=q2;simp only[Option.bind_some]at h|-;cases hg2:W2.get l with
       |none=>rw[hg2]at h;cases h
       |some obj2=>
        rw[hg2]at h;cases obj2 with
        |loop st8 pd8 R8 nt8 ps8 as8 bd8=>cases x2<;>exact h
        |_=>cases h
     |_=>cases h
    |_=>cases h
end Go.Eng
namespace Go.Eng
open Go
noncomputable def a10(R:Nat->Value)(t:Nat)(v:Value):Nat->Value:=λu=>Bool.rec (motive:=λ_=>Value) (R u) v (Nat.beq u t)
noncomputable def a9L:Nat->Value:=λ_=>undef
theorem a2q(R:Nat->Value)(t:Nat)(v:Value):a10 R t v t=v:=by unfold a10;rw[Nat.beq_refl]
theorem a7l(R:Nat->Value)(t u:Nat)(v:Value)(h:t≠u):a10 R t v u=R u:=by
 unfold a10;have:Nat.beq u t=false:=by
  cases hb:Nat.beq u t with
  |true=>exact absurd (Nat.eq_of_beq_eq_true hb).symm h
  |false=>rfl
 rw[this]
@[reducible] noncomputable def funTab (D:Nat->Array Oper->Option (List (Nat×List Nat))) (ng:List Nat) (ex:TypeId->Bool:=λ_=>false):PlanTab where
 D:=D
 ex:=ex
 ng:=ng
 Fr:=Nat->Value
 fget:=λR t=>R t
 fset:=a10
 blank:=a9L
 get_set:=a2q
 get_set_ne:=a7l
 get_blank:=λ_=>rfl
noncomputable def frm(R:Nat->Value)(l:List (Nat×Value)):Nat->Value:=l.foldl (λR p=>a10 R p.1 p.2) R
noncomputable def aCr(g:Nat):Value:=.pointer (some ⟨g,0,none⟩)
noncomputable def bT(f:FuncId):Value:=.func (.func f) #[] #[]
def a9i(l:List Nat):ByteArray:=⟨(l.map UInt8.ofNat).toArray⟩
noncomputable def JD(l:List Nat):Value:=.string (a9i l)
def ZX(P:Program)(i:Nat):Code:=match P.funcs[i]? with
 |some fn=>(match fn.body with
  |some c=>c
  |none=>.skip)
 |none=>.skip
def a4T(P:Program)(i:Nat):Array ResultVar:=match P.funcs[i]? with
 |some fn=>fn.results
 |none=>#[]
def UG:List Nat->Code->Code
 |[],c=>c
 |n::p,c=>match c with
  |.seq a b=>UG p (if n=0 then a else b)
  |.cond _ a b=>UG p (if n=0 then a else b)
  |.rangeFunc _ _ a b=>UG p (if n=0 then a else b)
  |.block _ b=>UG p b
  |.loop b=>UG p b
  |.scope b=>UG p b
  |_=>.skip
end Go.Eng
namespace Go.Eng
open Go
variable [PlanTab]
def CLe(c d:Callee):Prop:=∀f a W r,c f a W=some r->d f a W=some r
theorem CLe.refl(c:Callee):CLe c c:=λ_ _ _ _ h=>h
theorem CLe.trans{a b c:Callee}(h:CLe a b)(k:CLe b c):CLe a c:=λf x W r e=>k _ _ _ _ (h _ _ _ _ e)
section
variable {P:Program}
theorem WZ(P:Program)(o:Oper)(R:PlanTab.Fr)(W:AW):(∀c d:Callee,tZ P c o R W=tZ P d o R W)\/∃f a,∀c:Callee,tZ P c o R W=c f a W:=by
 simp only[zF];obtain⟨dst,op,type,pos,after,guard⟩:=o;cases op with
 |call k=>
  obtain⟨callee,args,ts⟩:=k;cases callee with
  |builtin b=>exact .inl λ_ _=>rfl
  |value f=>exact .inr ⟨_,_,λ_=>rfl⟩
  |invoke r name=>
   simp only[iL];cases aC R r with
   |iface t v=>
    simp only;cases sN P t name with
    |none=>exact .inl λ_ _=>rfl
    |some f=>exact .inr ⟨_,_,λ_=>rfl⟩
   |_=>exact .inl λ_ _=>rfl
 |_=>exact .inl λ_ _=>rfl
theorem a0H{c d:Callee}(h:CLe c d){o:Oper}{R:PlanTab.Fr}{W:AW}{r:Value×AW}(e:tZ P c o R W=some r):tZ P d o R W=some r:=by
 rcases WZ P o R W with hd|⟨f,a,hd⟩
 ·rw[<-e];exact hd _ _
 ·rw[hd]at e|-;exact h _ _ _ _ e
theorem EB{c d:Callee}(h:CLe c d){ops:Array Oper}{o:Oper}{R:PlanTab.Fr}{W:AW}{r:PlanTab.Fr×AW}(e:lQ P c ops o R W=some r):lQ P d ops o R W=some r:=by
 unfold lQ at e|-;split
 ·rename_i hw;rw[if_pos hw]at e;cases ho:tZ P c o R W with
  |none=>rw[ho]at e;cases e
  |some q=>rw[ho]at e;rw[a0H h ho];exact e
 ·rename_i hw;rw[if_neg hw]at e;exact e
theorem SK{c d:Callee}(h:CLe c d){ops:Array Oper}:∀{l:List Oper} {R:PlanTab.Fr} {W:AW} {r:PlanTab.Fr×AW},sQ P c ops l R W=some r->sQ P d ops l R W=some r:=by
 intro l;induction l with
 |nil=>intro R W r e;exact e
 |cons o l ih=>
  intro R W r e;rw[sQ]at e|-;cases hs:lQ P c ops o R W with
  |none=>rw[hs]at e;cases e
  |some q=>rw[hs]at e;rw[EB h hs];exact ih e
theorem EY{c d:Callee}(h:CLe c d){ops:Array Oper}{R:PlanTab.Fr}{W:AW}{j:Nat}(e:tL P c ops R W j=true):tL P d ops R W j=true:=by
 unfold tL at e|-;cases hj:ops[j]? with
 |none=>rw[hj]at e;cases e
 |some o=>
  rw[hj]at e;simp only at e|-;split
  ·rename_i hw;rw[if_pos hw]at e;cases ho:tZ P c o R W with
   |none=>rw[ho]at e;cases e
   |some q=>rw[ho]at e;rw[a0H h ho];exact e
  ·rfl
theorem WL{c d:Callee}(h:CLe c d){ops:Array Oper}:∀{l:List (Nat×List Nat)} {R:PlanTab.Fr} {W:AW} {r:PlanTab.Fr×AW},kT P c ops l R W=some r->kT P d ops l R W=some r:=by
 intro l;induction l with
 |nil=>intro R W r e;exact e
 |cons p l ih=>
  intro R W r e;obtain⟨i,re⟩:=p;rw[kT]at e|-;cases hi:ops[i]? with
  |none=>rw[hi]at e;cases e
  |some o=>
   rw[hi]at e;simp only at e|-;cases hs:lQ P c ops o R W with
   |none=>rw[hs]at e;cases e
   |some q=>
    rw[hs]at e;rw[EB h hs];simp only at e|-;split at e
    ·rename_i hr;rw[if_pos (List.all_eq_true.2 λj hj=>EY h (List.all_eq_true.1 hr j hj))];exact ih e
    ·cases e
theorem mI{c d:Callee}(h:CLe c d){top:Bool}{nt:Nat}:∀(k:Code) {R:PlanTab.Fr} {W:AW} {r:LT},bD P c top nt k R W=some r->bD P d top nt k R W=some r:=by
 intro k;induction k with
 |skip=>intro R W r e;exact e
 |label l=>intro R W r e;exact e
 |exit id=>intro R W r e;exact e
 |ret=>intro R W r e;exact e
 |goto l=>intro R W r e;exact e
 |scope b _=>intro R W r e;exact e
 |refuse s=>intro R W r e;exact e
 |region id ops draw=>
  intro R W r e;unfold bD at e|-;cases draw with
  |false=>
   simp only at e|-;cases hs:sQ P c ops ops.toList R W with
   |none=>rw[hs]at e;cases e
   |some q=>rw[hs]at e;rw[SK h hs];exact e
  |true=>
   simp only at e|-;cases hD:PlanTab.D id ops with
   |none=>
    rw[hD]at e;simp only at e|-;cases hs:sQ P c ops ops.toList R W with
    |none=>rw[hs]at e;cases e
    |some q=>rw[hs]at e;rw[SK h hs];exact e
   |some pl=>
    rw[hD]at e;simp only at e|-;cases hs:kT P c ops pl R W with
    |none=>rw[hs]at e;cases e
    |some q=>rw[hs]at e;rw[WL h hs];exact e
 |seq a b iha ihb=>
  intro R W r e;rw[bD]at e|-;cases ha:bD P c top nt a R W with
  |none=>rw[ha]at e;cases e
  |some q=>
   rw[ha]at e;rw[iha ha];obtain⟨x,R',W'⟩:=q;cases x with
   |normal=>exact ihb e
   |exit i=>exact e
   |ret=>exact e
 |cond o a b iha ihb=>
  intro R W r e;rw[bD]at e|-;cases ho:aC R o with
  |bool t=>rw[ho]at e;cases t with
   |true=>exact iha e
   |false=>exact ihb e
  |_=>rw[ho]at e;cases e
 |block id b ih=>
  intro R W r e;rw[bD]at e|-;cases hb:bD P c top nt b R W with
  |none=>rw[hb]at e;cases e
  |some q=>rw[hb]at e;rw[ih hb];exact e
 |loop b ih=>intro R W r e;rw[bD]at e|-;exact NL (λR W q hq=>ih hq) _ _ _ _ e
 |rangeFunc f ps as bd _ _=>
  intro R W r e;unfold bD at e|-;cases top with
  |false=>cases e
  |true=>
   simp only at e|-;cases hf:aC R f with
   |func fn fs cs=>
    rw[hf]at e;cases fn with
    |func i=>
     simp only[AW.new_eq]at e|-;cases hc:c (.func (.func i) fs cs) [.func (.yield W.next) #[] #[]] (W.add (.loop .ready none R nt ps as bd))with
     |none=>rw[hc]at e;cases e
     |some q=>rw[hc]at e;rw[h _ _ _ _ hc];exact e
    |_=>cases e
   |_=>rw[hf]at e;cases e
theorem WQ{bad:List Nat}{spec c d:Callee}(h:CLe c d):CLe (gP P bad spec c) (gP P bad spec d):=by
 intro f a W r e;unfold gP at e|-;cases f with
 |func fn fs cs=>
  cases fn with
  |func i=>
   simp only at e|-;cases hb:R4 i bad with
   |true=>rw[hb]at e;exact e
   |false=>
    rw[hb]at e;simp only at e|-;cases hf:P.funcs[i]? with
    |none=>rw[hf]at e;cases e
    |some fn=>
     rw[hf]at e;simp only at e|-;cases hc:fn.body with
     |none=>rw[hc]at e;cases e
     |some k=>
      rw[hc]at e;simp only at e|-;cases hl:Nat.ble (fs.toList.length+(a.length+cs.toList.length)) fn.ntmps with
      |false=>rw[hl]at e;cases e
      |true=>
       rw[hl]at e;simp only at e|-;cases hk:bD P c true fn.ntmps k (dH 0 (fs.toList++(a++cs.toList)) PlanTab.blank) W with
       |none=>rw[hk]at e;cases e
       |some q=>rw[hk]at e;rw[mI h k hk];exact e
  |yield l=>
   simp only at e|-;split at e;case h_2=>cases e
   rename_i R nt ps as bd hl;cases hn:Nat.beq (fs.toList.length+a.length) ps.size with
   |false=>rw[hn]at e;cases e
   |true=>
    rw[hn]at e;simp only at e|-;cases h1:bD P c false nt as (pW ps.toList (fs.toList++a) R) W with
    |none=>rw[h1]at e;cases e
    |some q=>
     rw[h1]at e;rw[mI h as h1];obtain⟨x,R1,W1⟩:=q;cases x with
     |normal=>
      simp only at e|-;split at e;case h_2=>cases e
      rename_i pd9 R9 nt9 ps9 as9 bd9 hg;cases h2:bD P c false nt bd R1 (W1.put l (.loop .busy pd9 R9 nt9 ps9 as9 bd9))with
      |none=>rw[h2]at e;cases e
      |some q2=>rw[h2]at e;rw[mI h bd h2];exact e
     |exit i=>cases e
     |ret=>cases e
  |_=>cases e
 |_=>cases e
section
variable {c:Nat->Callee} {o:Callee}
structure Lim (c:Nat->Callee) (o:Callee):Prop where
 up:∀n,CLe (c n) (c (n+1))
 of:∀f a W r,o f a W=some r->∃n,c n f a W=some r
theorem Lim.le(h:Lim c o){m n:Nat}(hmn:m<=n):CLe (c m) (c n):=by
 induction hmn with
 |refl=>exact .refl _
 |step _ ih=>exact ih.trans (h.up _)
theorem Y7(h:Lim c o){op:Oper}{R:PlanTab.Fr}{W:AW}{r:Value×AW}(e:tZ P o op R W=some r):∃n,tZ P (c n) op R W=some r:=by
 rcases WZ P op R W with hd|⟨f,a,hd⟩
 ·exact⟨0,by rw[<-e];exact hd _ _⟩
 ·rw[hd]at e;obtain⟨n,hn⟩:=h.of _ _ _ _ e;exact⟨n,by rw[hd];exact hn⟩
theorem Q5(h:Lim c o){ops:Array Oper}{op:Oper}{R:PlanTab.Fr}{W:AW}{r:PlanTab.Fr×AW}(e:lQ P o ops op R W=some r):∃n,lQ P (c n) ops op R W=some r:=by
 unfold lQ at e|-;split at e
 ·rename_i hw;cases ho:tZ P o op R W with
  |none=>rw[ho]at e;cases e
  |some q=>rw[ho]at e;obtain⟨n,hn⟩:=Y7 h ho;exact⟨n,by rw[if_pos hw,hn];exact e⟩
 ·rename_i hw;exact⟨0,by rw[if_neg hw];exact e⟩
theorem V8(h:Lim c o){ops:Array Oper}:∀{l:List Oper} {R:PlanTab.Fr} {W:AW} {r:PlanTab.Fr×AW},sQ P o ops l R W=some r->∃n,sQ P (c n) ops l R W=some r:=by
 intro l;induction l with
 |nil=>intro R W r e;exact⟨0,e⟩
 |cons op l ih=>
  intro R W r e;rw[sQ]at e;cases hs:lQ P o ops op R W with
  |none=>rw[hs]at e;cases e
  |some q=>rw[hs]at e;obtain⟨n,hn⟩:=Q5 h hs;obtain⟨m,hm⟩:=ih e;refine⟨max n m,?_⟩;rw[sQ,EB (h.le (Nat.le_max_left n m)) hn];exact SK (h.le (Nat.le_max_right n m)) hm
theorem a2x(h:Lim c o){ops:Array Oper}{R:PlanTab.Fr}{W:AW}{j:Nat}(e:tL P o ops R W j=true):∃n,tL P (c n) ops R W j=true:=by
 unfold tL at e|-;cases hj:ops[j]? with
 |none=>rw[hj]at e;cases e
 |some op=>
  rw[hj]at e;simp only at e|-;split at e
  ·rename_i hw;cases ho:tZ P o op R W with
   |none=>rw[ho]at e;cases e
   |some q=>rw[ho]at e;obtain⟨n,hn⟩:=Y7 h ho;exact⟨n,by rw[if_pos hw,hn];exact e⟩
  ·rename_i hw;exact⟨0,by rw[if_neg hw]⟩
theorem OA(h:Lim c o){ops:Array Oper}{R:PlanTab.Fr}{W:AW}:∀{l:List Nat},l.all (tL P o ops R W)=true->∃n,l.all (tL P (c n) ops R W)=true:=by
 intro l;induction l with
 |nil=>intro _;exact⟨0,rfl⟩
 |cons j l ih=>intro e;simp only[List.all_cons,Bool.and_eq_true]at e;obtain⟨n,hn⟩:=a2x h e.1;obtain⟨m,hm⟩:=ih e.2;refine⟨max n m,?_⟩;simp only[List.all_cons,Bool.and_eq_true];exact⟨EY (h.le (Nat.le_max_left n m)) hn,List.all_eq_true.2 λj hj=>EY (h.le (Nat.le_max_right n m)) (List.all_eq_true.1 hm j hj)⟩
theorem a1R(h:Lim c o){ops:Array Oper}:∀{l:List (Nat×List Nat)} {R:PlanTab.Fr} {W:AW} {r:PlanTab.Fr×AW},kT P o ops l R W=some r->∃n,kT P (c n) ops l R W=some r:=by
 intro l;induction l with
 |nil=>intro R W r e;exact⟨0,e⟩
 |cons p l ih=>
  intro R W r e;obtain⟨i,re⟩:=p;rw[kT]at e;cases hi:ops[i]? with
  |none=>rw[hi]at e;cases e
  |some op=>
   rw[hi]at e;simp only at e;cases hs:lQ P o ops op R W with
   |none=>rw[hs]at e;cases e
   |some q=>
    rw[hs]at e;simp only at e;split at e
    ·rename_i hr;obtain⟨n,hn⟩:=Q5 h hs;obtain⟨m,hm⟩:=OA h hr;obtain⟨k,hk⟩:=ih e;refine⟨max n (max m k),?_⟩;rw[kT,hi];simp only;rw[EB (h.le (Nat.le_max_left n _)) hn];simp only;rw[if_pos (List.all_eq_true.2 λj hj=>EY (h.le (by omega)) (List.all_eq_true.1 hm j hj))];exact WL (h.le (by omega)) hk
    ·cases e
theorem a2A(h:Lim c o){top:Bool}{nt:Nat}{k:Code}(ih:∀{R:PlanTab.Fr} {W:AW} {r:LT},bD P o top nt k R W=some r->∃n,bD P (c n) top nt k R W=some r):
 ∀(m:Nat) {R:PlanTab.Fr} {W:AW} {r:LT},kN (bD P o top nt k) m R W=some r->∃n,kN (bD P (c n) top nt k) m R W=some r:=by
 intro m;induction m with
 |zero=>intro R W r e;cases e
 |succ m ihm=>
  intro R W r e;unfold kN at e;cases hb:bD P o top nt k R W with
  |none=>rw[hb]at e;cases e
  |some q=>
   rw[hb]at e;obtain⟨n,hn⟩:=ih hb;obtain⟨x,R',W'⟩:=q;cases x with
   |normal=>obtain⟨j,hj⟩:=ihm e;refine⟨max n j,?_⟩;unfold kN;rw[mI (h.le (Nat.le_max_left n j)) k hn];exact NL (λR W q hq=>mI (h.le (Nat.le_max_right n j)) k hq) _ _ _ _ hj
   |exit i=>exact⟨n,by unfold kN;rw[hn];exact e⟩
   |ret=>exact⟨n,by unfold kN;rw[hn];exact e⟩
theorem GL(h:Lim c o){top:Bool}{nt:Nat}:∀(k:Code) {R:PlanTab.Fr} {W:AW} {r:LT},bD P o top nt k R W=some r->∃n,bD P (c n) top nt k R W=some r:=by
 intro k;induction k with
 |skip=>intro R W r e;exact⟨0,e⟩
 |label l=>intro R W r e;exact⟨0,e⟩
 |exit id=>intro R W r e;exact⟨0,e⟩
 |ret=>intro R W r e;exact⟨0,e⟩
 |goto l=>intro R W r e;exact⟨0,e⟩
 |scope b _=>intro R W r e;exact⟨0,e⟩
 |refuse s=>intro R W r e;exact⟨0,e⟩
 |region id ops draw=>
  intro R W r e;unfold bD at e|-;cases draw with
  |false=>
   simp only at e|-;cases hs:sQ P o ops ops.toList R W with
   |none=>rw[hs]at e;cases e
   |some q=>rw[hs]at e;obtain⟨n,hn⟩:=V8 h hs;exact⟨n,by rw[hn];exact e⟩
  |true=>
   simp only at e|-;cases hD:PlanTab.D id ops with
   |none=>
    rw[hD]at e;simp only at e|-;cases hs:sQ P o ops ops.toList R W with
    |none=>rw[hs]at e;cases e
    |some q=>rw[hs]at e;obtain⟨n,hn⟩:=V8 h hs;exact⟨n,by rw[hn];exact e⟩
   |some pl=>
    rw[hD]at e;simp only at e|-;cases hs:kT P o ops pl R W with
    |none=>rw[hs]at e;cases e
    |some q=>rw[hs]at e;obtain⟨n,hn⟩:=a1R h hs;exact⟨n,by rw[hn];exact e⟩
 |seq a b iha ihb=>
  intro R W r e;rw[bD]at e;cases ha:bD P o top nt a R W with
  |none=>rw[ha]at e;cases e
  |some q=>
   rw[ha]at e;obtain⟨n,hn⟩:=iha ha;obtain⟨x,R',W'⟩:=q;cases x with
   |normal=>obtain⟨m,hm⟩:=ihb e;refine⟨max n m,?_⟩;rw[bD,mI (h.le (Nat.le_max_left n m)) a hn];exact mI (h.le (Nat.le_max_right n m)) b hm
   |exit i=>exact⟨n,by rw[bD,hn];exact e⟩
   |ret=>exact⟨n,by rw[bD,hn];exact e⟩
 |cond q a b iha ihb=>
  intro R W r e;rw[bD]at e;cases ho:aC R q with
  |bool t=>rw[ho]at e;cases t with
   |true=>obtain⟨n,hn⟩:=iha e;exact⟨n,by rw[bD,ho];exact hn⟩
   |false=>obtain⟨n,hn⟩:=ihb e;exact⟨n,by rw[bD,ho];exact hn⟩
  |_=>rw[ho]at e;cases e
 |block id b ih=>
  intro R W r e;rw[bD]at e;cases hb:bD P o top nt b R W with
  |none=>rw[hb]at e;cases e
  |some q=>rw[hb]at e;obtain⟨n,hn⟩:=ih hb;exact⟨n,by rw[bD,hn];exact e⟩
 |loop b ih=>intro R W r e;rw[bD]at e;obtain⟨n,hn⟩:=a2A h (λe=>ih e) _ e;exact⟨n,by rw[bD];exact hn⟩
 |rangeFunc f ps as bd _ _=>
  intro R W r e;unfold bD at e|-;cases top with
  |false=>cases e
  |true=>
   simp only at e|-;cases hf:aC R f with
   |func fn fs cs=>
    rw[hf]at e;cases fn with
    |func i=>
     simp only[AW.new_eq]at e|-;cases hc:o (.func (.func i) fs cs) [.func (.yield W.next) #[] #[]] (W.add (.loop .ready none R nt ps as bd))with
     |none=>rw[hc]at e;cases e
     |some q=>rw[hc]at e;obtain⟨n,hn⟩:=h.of _ _ _ _ hc;exact⟨n,by rw[hn];exact e⟩
    |_=>cases e
   |_=>rw[hf]at e;cases e
theorem a2n(h:Lim c o){bad:List Nat}{spec:Callee}{f:Value}{a:List Value}{W:AW}{r:Value×AW}(e:gP P bad spec o f a W=some r):∃n,gP P bad spec (c n) f a W=some r:=by
 unfold gP at e|-;cases f with
 |func fn fs cs=>
  cases fn with
  |func i=>
   simp only at e|-;cases hb:R4 i bad with
   |true=>rw[hb]at e;exact⟨0,e⟩
   |false=>
    rw[hb]at e;simp only at e|-;cases hf:P.funcs[i]? with
    |none=>rw[hf]at e;cases e
    |some fn=>
     rw[hf]at e;simp only at e|-;cases hc:fn.body with
     |none=>rw[hc]at e;cases e
     |some k=>
      rw[hc]at e;simp only at e|-;cases hl:Nat.ble (fs.toList.length+(a.length+cs.toList.length)) fn.ntmps with
      |false=>rw[hl]at e;cases e
      |true=>
       rw[hl]at e;simp only at e|-;cases hk:bD P o true fn.ntmps k (dH 0 (fs.toList++(a++cs.toList)) PlanTab.blank) W with
       |none=>rw[hk]at e;cases e
       |some q=>rw[hk]at e;obtain⟨n,hn⟩:=GL h k hk;exact⟨n,by rw[hn];exact e⟩
  |yield l=>
   simp only at e|-;split at e;case h_2=>cases e
   rename_i R nt ps as bd hl;cases hn:Nat.beq (fs.toList.length+a.length) ps.size with
   |false=>rw[hn]at e;cases e
   |true=>
    rw[hn]at e;simp only at e|-;cases h1:bD P o false nt as (pW ps.toList (fs.toList++a) R) W with
    |none=>rw[h1]at e;cases e
    |some q=>
     rw[h1]at e;obtain⟨n,hn1⟩:=GL h as h1;obtain⟨x,R1,W1⟩:=q;cases x with
     |normal=>
      simp only at e;split at e;case h_2=>cases e
      rename_i pd9 R9 nt9 ps9 as9 bd9 hg;cases h2:bD P o false nt bd R1 (W1.put l (.loop .busy pd9 R9 nt9 ps9 as9 bd9))with
      |none=>rw[h2]at e;cases e
      |some q2=>rw[h2]at e;obtain⟨m,hm⟩:=GL h bd h2;refine⟨max n m,?_⟩;rw[mI (h.le (Nat.le_max_left n m)) as hn1];simp only;rw[hg];simp only;rw[mI (h.le (Nat.le_max_right n m)) bd hm];exact e
     |exit i=>cases e
     |ret=>cases e
  |_=>cases e
 |_=>cases e
end
end
end Go.Eng
namespace Go.Eng
open Go
variable [PlanTab]
theorem FnR.back{σ σ':bQ}(hs:Sub σ σ'){f u u':Fn}(h:FnR σ f u)(k:FnR σ' f u'):FnR σ f u':=by
 cases h with
 |func f=>cases k;exact .func f
 |yield l g hg=>
  cases k with
  |yield _ g' hg'=>have:=(hs _ _ hg).symm.trans hg';injection this with this;subst this;exact .yield l g hg
theorem VR.back{σ σ':bQ}(hs:Sub σ σ'){v u:Value}(h:VR σ v u):∀{u':Value},VR σ' v u'->VR σ v u':=by
 induction h with
 |bool b=>intro u' k;cases k;exact .bool b
 |int k n=>intro u' k;cases k;exact .int _ _
 |float k n=>intro u' k;cases k;exact .float _ _
 |string s=>intro u' k;cases k;exact .string s
 |pnil=>intro u' k;cases k;exact .pnil
 |ptr a g hg hsp=>
  intro u' k;cases k with
  |ptr _ g' hg' hs'=>have:=(hs _ _ hg).symm.trans hg';injection this with this;subst this;exact .ptr a g hg hsp
 |snil l c=>intro u' k;cases k;exact .snil _ _
 |slice a l c c' g hg hsp hc=>
  intro u' k;cases k with
  |slice _ _ _ c2 g' hg' hs' hc'=>have:=(hs _ _ hg).symm.trans hg';injection this with this;subst this;exact .slice a l c c2 g hg hsp hc'
  |sliceE _ a' _ g' hg' hc'=>have:=(hs _ _ hg).symm.trans hg';injection this with this;subst this;exact .sliceE a a' c g hg hc'
 |sliceE a a' c g hg hc=>
  intro u' k;cases k with
  |slice _ _ _ c2 g' hg' hs' hc'=>have:=(hs _ _ hg).symm.trans hg';injection this with this;subst this;exact .slice a 0 c c2 g hg hs' hc'
  |sliceE _ a2 _ g' hg' hc'=>exact .sliceE a a2 c g hg hc'
 |mnil=>intro u' k;cases k;exact .mnil
 |map r g hg=>
  intro u' k;cases k with
  |map _ g' hg'=>have:=(hs _ _ hg).symm.trans hg';injection this with this;subst this;exact .map r g hg
 |nilFunc=>intro u' k;cases k;exact .nilFunc
 |func fn fn' fs fs' cs cs' hf h1 _ h3 _ ih1 ih2=>
  intro u' k;cases k with
  |func _ fn2 _ fs2 _ cs2 kf k1 k2 k3 k4=>
   refine .func _ _ _ _ _ _ (hf.back hs kf) k1 (λi v v' a b=>?_) k3 (λi v v' a b=>?_)
   ·have hi:i<fs'.size:=by rw[<-h1];exact(Array.getElem?_eq_some_iff.1 a).1
    exact ih1 i v _ a (Array.getElem?_eq_getElem hi) (k2 i v v' a b)
   ·have hi:i<cs'.size:=by rw[<-h3];exact(Array.getElem?_eq_some_iff.1 a).1
    exact ih2 i v _ a (Array.getElem?_eq_getElem hi) (k4 i v v' a b)
 |nilIface=>intro u' k;cases k;exact .nilIface
 |iface t v v' _ ih=>
  intro u' k;cases k with
  |iface _ _ v2 k=>exact .iface t v v2 (ih k)
 |agg cs cs' h1 _ ih=>
  intro u' k;cases k with
  |agg _ cs2 k1 k2=>
   refine .agg _ _ k1 λi v v' a b=>?_
   have hi:i<cs'.size:=by rw[<-h1];exact(Array.getElem?_eq_some_iff.1 a).1
   exact ih i v _ a (Array.getElem?_eq_getElem hi) (k2 i v v' a b)
 |tuple cs cs' h1 _ ih=>
  intro u' k;cases k with
  |tuple _ cs2 k1 k2=>
   refine .tuple _ _ k1 λi v v' a b=>?_
   have hi:i<cs'.size:=by rw[<-h1];exact(Array.getElem?_eq_some_iff.1 a).1
   exact ih i v _ a (Array.getElem?_eq_getElem hi) (k2 i v v' a b)
theorem ORel.back{σ σ':bQ}(hs:Sub σ σ'){h h':Array Obj}{g:Seg}{o:AObj}(a:ORel σ h g o)(b:ORel σ' h' g o):ORel σ h' g o:=by
 cases o with
 |cells cs=>obtain⟨c1,t1,_,_,_,_,_,e4⟩:=a;obtain⟨c2,t2,fr2,f1,f0,f2,f3,f4⟩:=b;refine⟨c2,t2,fr2,f1,f0,f2,f3,λi v hv=>?_⟩;obtain⟨v1,_,x⟩:=e4 i v hv;obtain⟨v2,y1,y2⟩:=f4 i v hv;exact⟨v2,y1,x.back hs y2⟩
 |ro cs=>obtain⟨c1,t1,fr1,_,_,e4⟩:=a;obtain⟨c2,t2,fr2,f1,f2,f4⟩:=b;refine⟨c2,t2,fr2,f1,f2,λi v hv=>?_⟩;obtain⟨v1,_,x⟩:=e4 i v hv;obtain⟨v2,y1,y2⟩:=f4 i v hv;exact⟨v2,y1,x.back hs y2⟩
 |map es clock=>
  obtain⟨e1,e2,es1,_,⟨e3,e4⟩⟩:=a;obtain⟨f1,f2,es2,f3,⟨f4,f5⟩⟩:=b;refine⟨f1,f2,es2,f3,f4,λi e e' x y=>?_⟩;have hi:i<es1.toList.length:=by rw[<-e3];exact(List.getElem?_eq_some_iff.1 x).1
  obtain⟨p1,p2,_⟩:=e4 i e _ x (List.getElem?_eq_getElem hi);obtain⟨q1,q2,q3⟩:=f5 i e e' x y;exact⟨p1.back hs q1,p2.back hs q2,q3⟩
 |loop st pend R nt ps as bd=>obtain⟨_,_,r1,_,_,_,⟨_,e4⟩,_,_,_,e8,e9,e10⟩:=a;obtain⟨f1,f2,r2,f3,f4,f5,⟨f6,f7⟩,f8,f9,f10,_,_,_⟩:=b;exact⟨f1,f2,r2,f3,f4,f5,⟨f6,λt ht=>(e4 t ht).back hs (f7 t ht)⟩,f8,f9,f10,e8,e9,e10⟩
 |siter s pos=>exact b
 |tc t cs=>obtain⟨_,_,_,c1,_,_,_,e4⟩:=a;obtain⟨b1,b2,b3,c2,f1,f2,f3,f4⟩:=b;refine⟨b1,b2,b3,c2,f1,f2,f3,λi v hv=>?_⟩;obtain⟨v1,_,x⟩:=e4 i v hv;obtain⟨v2,y1,y2⟩:=f4 i v hv;exact⟨v2,y1,x.back hs y2⟩
structure Le (W W':AW):Prop where
 next:W.next<=W'.next
 get:∀b,b<W.next->W'.get b=W.get b
theorem Le.refl(W:AW):Le W W:=⟨Nat.le_refl _,λ_ _=>rfl⟩
theorem Le.trans{A B C:AW}(h:Le A B)(k:Le B C):Le A C:=⟨Nat.le_trans h.next k.next,λb hb=>(k.get b (Nat.lt_of_lt_of_le hb h.next)).trans (h.get b hb)⟩
theorem Le.add{W W':AW}(h:Le W W')(o:AObj):Le W (W'.add o):=
 ⟨Nat.le_trans h.next (by rw[AW.add_next];omega),λb hb=>by rw[AW.get_add_ne _ _ (by have:=h.next;omega)];exact h.get b hb⟩
theorem Le.put{W W':AW}(h:Le W W'){b:Nat}(hb:W.next<=b)(o:AObj):Le W (W'.put b o):=
 ⟨h.next,λc hc=>by rw[AW.get_put_ne _ _ (by omega)];exact h.get c hc⟩
theorem Le.kill{W W':AW}(h:Le W W'){b:Nat}(hb:W.next<=b):Le W (W'.kill b):=
 ⟨h.next,λc hc=>by rw[AW.get_kill_ne _ (by omega)];exact h.get c hc⟩
theorem a7a{σ σ':bQ}{W W':AW}{w w':World}(hW:WRel σ W w.heap)(hle:Le W W')(h1:WRel σ' W' w'.heap)(he:Ext σ W w σ' W' w'):WRel σ W w'.heap/\Ext σ W w σ W w':=by
 have hlt:∀b o,W.get b=some o->b<W.next:=λb o hb=>by
  rcases Nat.lt_or_ge b W.next with h|h
  ·exact h
  ·rw[hW.free b h]at hb;cases hb
 refine⟨⟨hW.free,λb g hg=>⟨(hW.dom b g hg).1,Nat.lt_of_lt_of_le (hW.dom b g hg).2 he.size⟩,λb o g hb hg=>?_,λb1 b2 o1 o2 g1 g2 hne a1 a2 k1 k2 hr=>?_⟩,
  ⟨.refl _,λ_ _ h=>h,he.size,he.os,he.tape,he.output,he.keep,λ_ _ h k=>⟨h,k⟩,λb g hg _=>.inl hg⟩⟩
 ·exact(hW.obj b o g hb hg).back he.sub (h1.obj b o g (by rw[hle.get b (hlt b o hb)];exact hb) (he.sub _ _ hg))
 ·exact hW.disj b1 b2 o1 o2 g1 g2 hne a1 a2 k1 k2 hr
def isU:Value->Bool
 |.tuple vs=>vs.isEmpty
 |_=>false
noncomputable def gc(W:AW)(r:Value×AW):Value×AW:=
 open Classical in if(aX r.1&& !isU r.1)=true/\Le W r.2 then(r.1,W)else r
theorem rV{W W':AW}{v:Value}(hv:(aX v&& !isU v)=true)(h:Le W W'):gc W (v,W')=(v,W):=by unfold gc;rw[if_pos ⟨hv,h⟩]
theorem dV{W W':AW}{v:Value}(hv:(aX v&& !isU v)=false):gc W (v,W')=(v,W'):=by unfold gc;rw[if_neg (by simp only[hv];simp)]
noncomputable def gcF(f:Value)(W:AW)(r:Value×AW):Value×AW:=match f with
 |.func (.func _) _ _=>gc W r
 |_=>r
theorem aAu{P:Program}{ng:List Nat}{c:Callee}(hc:aW P ng c):aW P ng λf a W=>(c f a W).map (gcF f W):=by
 intro f args W v W' h σ w f' args' hW hG hf hargs;simp only at h;cases hr:c f args W with
 |none=>rw[hr]at h;cases h
 |some q=>
  rw[hr]at h;obtain⟨v1,W1⟩:=q;have hk:=hc f args W v1 W1 hr σ w f' args' hW hG hf hargs;simp only[Option.map_some,Option.some.injEq]at h;unfold gcF at h;split at h;case h_2=>injection h with e1 e2;subst e1;subst e2;exact hk
  unfold gc at h;split at h
  ·rename_i hp;injection h with e1 e2;subst e1;subst e2;have hpl:aX v1=true:=(Bool.and_eq_true _ _▸hp.1).1;have key:∀(R R':Value->World->Prop),(∀v' w',R v' w'->R' v' w')->zY P f' args' w R->zY P f' args' w R':=by
    intro R R' hRR hC;unfold zY at hC|-;split at hC
    ·exact⟨hC.1,CallsIn.mono hC.2 λe w' ⟨u,hu,hr⟩=>⟨u,hu,hRR _ _ hr⟩⟩
    ·obtain⟨f,tmps,as,bd,k1,k2⟩:=hC;exact⟨f,tmps,as,bd,k1,RoundIn.mono k2 λe w' ⟨u,hu,hr⟩=>⟨u,hu,hRR _ _ hr⟩⟩
    ·exact hC.elim
   refine key _ _ (λv' w' ⟨σ',k1,k2,k3⟩=>?_) hk;obtain⟨d1,d2⟩:=a7a hW hp.2 k2 k3;have:v'=v1:=iE hpl k1;subst this;exact⟨σ,jK hpl,d1,d2⟩
  ·injection h with e1 e2;subst e1;subst e2;exact hk
section
variable (P:Program) (bad:List Nat) (spec:Callee)
noncomputable def gC:Nat->Callee
 |0=>λ_ _ _=>none
 |n+1=>λf a W=>(gP P bad spec (gC n) f a W).map (gcF f W)
theorem aAY:∀n,CLe (gC P bad spec n) (gC P bad spec (n+1)):=by
 intro n;induction n with
 |zero=>intro f a W r h;cases h
 |succ n ih=>
  intro f a W r h;have h':(gP P bad spec (gC P bad spec n) f a W).map (gcF f W)=some r:=h;show(gP P bad spec (gC P bad spec (n+1)) f a W).map (gcF f W)=some r;cases hb:gP P bad spec (gC P bad spec n) f a W with
  |none=>rw[hb]at h';cases h'
  |some q=>rw[hb]at h';rw[WQ ih _ _ _ _ hb];exact h'
noncomputable def om:Callee:=λf a W=>open Classical in if h:∃r n,gC P bad spec n f a W=some r then some (Classical.choose h)else none
theorem LP:Lim (gC P bad spec) (om P bad spec):=by
 refine⟨aAY P bad spec,λf a W r h=>?_⟩;unfold om at h;split at h
 ·rename_i hx;injection h with h;subst h;exact Classical.choose_spec hx
 ·cases h
theorem a7Z{n:Nat}{f:Value}{a:List Value}{W:AW}{r:Value×AW}(h:gC P bad spec n f a W=some r):om P bad spec f a W=some r:=by have hx:∃r n,gC P bad spec n f a W=some r:=⟨r,n,h⟩;unfold om;rw[dif_pos hx];obtain⟨m,hm⟩:=Classical.choose_spec hx;have h1:=(LP P bad spec).le (Nat.le_max_left n m) _ _ _ _ h;have h2:=(LP P bad spec).le (Nat.le_max_right n m) _ _ _ _ hm;rw[h1]at h2;exact h2.symm
theorem RU{f:Value}{a:List Value}{W:AW}{r:Value×AW}(h:gP P bad spec (om P bad spec) f a W=some r):om P bad spec f a W=some (gcF f W r):=by obtain⟨n,hn⟩:=a2n (LP P bad spec) h;refine a7Z P bad spec (n:=n+1) ?_;show(gP P bad spec (gC P bad spec n) f a W).map (gcF f W)=_;rw[hn];rfl
variable {P bad spec}
theorem a7X(hm:P.follows .mixedOrders=true)(hP:rW PlanTab.ng bad 0 P.funcs.toList=true)(hs:aW P PlanTab.ng spec):∀n,aW P PlanTab.ng (gC P bad spec n)
 |0=>λf args W v W' h=>by cases h
 |n+1=>aAu (IP hm rfl hP hs (a7X hm hP hs n))
theorem a7G(hm:P.follows .mixedOrders=true)(hP:rW PlanTab.ng bad 0 P.funcs.toList=true)(hs:aW P PlanTab.ng spec):aW P PlanTab.ng (om P bad spec):=by intro f args W v W' h;obtain⟨n,hn⟩:=(LP P bad spec).of _ _ _ _ h;exact a7X hm hP hs n f args W v W' hn
theorem a8E{i:Nat}{fn:Func}{c:Code}(hb:R4 i bad=false)(hf:P.funcs[i]? =some fn)(hc:fn.body=some c){fs cs:Array Value}{args:List Value}
 (hn:Nat.ble (fs.toList.length+(args.length+cs.toList.length)) fn.ntmps=true){W:AW}{r:Value×AW}(h:a6F P (om P bad spec) fn.ntmps c fn.results (fs.toList++(args++cs.toList)) W=some r):
 om P bad spec (.func (.func i) fs cs) args W=some (gc W r):=RU P bad spec (a2h hb hf hc hn h)
theorem a5O{l nt:Nat}{R:PlanTab.Fr}{ps:Array Tmp}{as bd:Code}{W:AW}(hl:W.get l=some (.loop .ready none R nt ps as bd)){fs cs:Array Value}{args:List Value}(hn:fs.toList.length+args.length=ps.size)
 {r:Value×AW}(h:RS P (om P bad spec) l nt as bd (pW ps.toList (fs.toList++args) R) W=some r):om P bad spec (.func (.yield l) fs cs) args W=some r:=RU P bad spec (VD hl hn h)
theorem a1m{i:Nat}(hb:R4 i bad=true){fs cs:Array Value}{args:List Value}{W:AW}{r:Value×AW}(h:spec (.func (.func i) fs cs) args W=some r):
 om P bad spec (.func (.func i) fs cs) args W=some (gc W r):=by
 refine RU P bad spec ?_;unfold gP;simp only[hb];exact h
end
end Go.Eng
namespace Go.Eng
open Go
variable [PlanTab]
theorem uT{α ρ:Type}(a:α)(g:α->Option ρ):aA (some a) g=g a:=by rw[L8];rfl
section
variable {P:Program} {W:AW}
theorem a5y(v:Value):qD v W=some (v,W):=Eq.trans rfl rfl
theorem fU(cs:Array Value):dK (.agg cs) W=some (.pointer (some ⟨W.next,0,none⟩),W.add (.cells cs.toList)):=Eq.trans rfl rfl
theorem KG(k:IntKind)(n:Int):dK (.int k n) W=some (.pointer (some ⟨W.next,0,none⟩),W.add (.cells [.int k n])):=Eq.trans rfl rfl
theorem P5(b:Bool):dK (.bool b) W=some (.pointer (some ⟨W.next,0,none⟩),W.add (.cells [.bool b])):=Eq.trans rfl rfl
theorem IQ(s:ByteArray):dK (.string s) W=some (.pointer (some ⟨W.next,0,none⟩),W.add (.cells [.string s])):=Eq.trans rfl rfl
theorem KP(a:Option Addr)(l c:Nat):dK (.slice a l c) W=some (.pointer (some ⟨W.next,0,none⟩),W.add (.cells [.slice a l c])):=Eq.trans rfl rfl
theorem QW(f:Fn)(a b:Array Value):dK (.func f a b) W=some (.pointer (some ⟨W.next,0,none⟩),W.add (.cells [.func f a b])):=Eq.trans rfl rfl
theorem N7(f:FuncId)(a b:Array Value):vO (.func f) a b W=some (.func (.func f) a b,W):=Eq.trans rfl rfl
theorem E8(a b:Value):aI (.tuple #[a,b]) 0 W=some (a,W):=Eq.trans rfl rfl
theorem F3(a b:Value):aI (.tuple #[a,b]) 1 W=some (b,W):=Eq.trans rfl rfl
theorem CU(a b c:Value):aI (.tuple #[a,b,c]) 0 W=some (a,W):=Eq.trans rfl rfl
theorem ED(a b c:Value):aI (.tuple #[a,b,c]) 1 W=some (b,W):=Eq.trans rfl rfl
theorem CP(a b c:Value):aI (.tuple #[a,b,c]) 2 W=some (c,W):=Eq.trans rfl rfl
theorem R6(a b c d:Value):aI (.tuple #[a,b,c,d]) 0 W=some (a,W):=Eq.trans rfl rfl
theorem TR(a b c d:Value):aI (.tuple #[a,b,c,d]) 1 W=some (b,W):=Eq.trans rfl rfl
theorem TH(a b c d:Value):aI (.tuple #[a,b,c,d]) 2 W=some (c,W):=Eq.trans rfl rfl
theorem SA(a b c d:Value):aI (.tuple #[a,b,c,d]) 3 W=some (d,W):=Eq.trans rfl rfl
theorem XU(b:Bool):bZ (.bool b) true=b:=by cases b<;>exact Eq.trans rfl rfl
theorem PU(b:Bool):bZ (.bool b) false= !b:=by cases b<;>exact Eq.trans rfl rfl
theorem VM{ρ:Type}(a b:ρ):bL true a b=a:=Eq.trans rfl rfl
theorem QR{ρ:Type}(a b:ρ):bL false a b=b:=Eq.trans rfl rfl
theorem X9{ρ:Type}(c:Bool)(a b:Option ρ):bK (.bool c) a b=bL c a b:=Eq.trans rfl rfl
theorem MV(c:Bool)(a b:Value):dF (.bool c) a b W=some (bL c a b,W):=by cases c<;>exact Eq.trans rfl rfl
theorem ET{ρ:Type}(a b:Option ρ):wI X.normal a b=a:=Eq.trans rfl rfl
theorem NA{ρ:Type}(i:Nat)(a b:Option ρ):wI (X.exit i) a b=b:=Eq.trans rfl rfl
theorem P8{ρ:Type}(a b:Option ρ):wI X.ret a b=b:=Eq.trans rfl rfl
theorem MQ{ρ:Type}(i:Nat)(a b:Option ρ):dB i (X.exit i) a b=a:=by show Bool.rec b a (Nat.beq i i)=a;rw[Nat.beq_refl]
theorem Q0{ρ:Type}(i:Nat)(a b:Option ρ):dB i X.ret a b=b:=Eq.trans rfl rfl
theorem EJ{ρ:Type}(i:Nat)(a b:Option ρ):dB i X.normal a b=b:=Eq.trans rfl rfl
theorem Q4{ρ:Type}(a:Option ρ):jU X.ret a=a:=Eq.trans rfl rfl
theorem a1l(b:Bool):F7 P .not (.bool b) W=some (.bool (!b),W):=Eq.trans rfl rfl
theorem a3a(f:FuncId):bT f=.func (.func f) #[] #[]:=Eq.trans rfl rfl
theorem mX{op:BinOp}{t:TypeId}{c d:Bool}{k:IntKind}{a b:Int}{v:Value}(h:NY op k a b=some v):aH P op t c d (.int k a) (.int k b) W=some (v,W):=by unfold aH lY;simp only[if_pos,h]
theorem rR{n:Int}(h1: -9223372036854775808<=n)(h2:n<9223372036854775808):IntKind.i64.wrap n=n:=by unfold IntKind.wrap;simp only[IntKind.bits,IntKind.signed,Bool.true_and];split<;>rename_i h<;>simp at h<;>omega
theorem aQ{t:TypeId}{c d:Bool}{a b:Int}(h1: -9223372036854775808<=a+b)(h2:a+b<9223372036854775808):aH P .add t c d (.int .i64 a) (.int .i64 b) W=some (.int .i64 (a+b),W):=
 mX (by simp only[NY,uQ,EE,rR h1 h2])
theorem uL{t:TypeId}{c d:Bool}{a b:Int}(h1: -9223372036854775808<=a-b)(h2:a-b<9223372036854775808):aH P .sub t c d (.int .i64 a) (.int .i64 b) W=some (.int .i64 (a-b),W):=
 mX (by simp only[NY,uQ,EE,rR h1 h2])
theorem a4J{t:TypeId}{c d:Bool}{a b:Int}(h1: -9223372036854775808<=a*b)(h2:a*b<9223372036854775808):aH P .mul t c d (.int .i64 a) (.int .i64 b) W=some (.int .i64 (a*b),W):=
 mX (by simp only[NY,uQ,EE,rR h1 h2])
theorem Y8{t:TypeId}{c d:Bool}{k:IntKind}{a b:Int}:aH P .lss t c d (.int k a) (.int k b) W=some (.bool (decide (a<b)),W):=mX rfl
theorem XX{t:TypeId}{c d:Bool}{k:IntKind}{a b:Int}:aH P .leq t c d (.int k a) (.int k b) W=some (.bool (decide (a<=b)),W):=mX rfl
theorem UN{t:TypeId}{c d:Bool}{k:IntKind}{a b:Int}:aH P .gtr t c d (.int k a) (.int k b) W=some (.bool (decide (b<a)),W):=mX rfl
theorem UO{t:TypeId}{c d:Bool}{k:IntKind}{a b:Int}:aH P .geq t c d (.int k a) (.int k b) W=some (.bool (decide (b<=a)),W):=mX rfl
theorem YF{t:TypeId}{c d:Bool}{k:IntKind}{a b:Int}:aH P .eql t c d (.int k a) (.int k b) W=some (.bool (decide (a=b)),W):=mX rfl
theorem WC{t:TypeId}{c d:Bool}{k:IntKind}{a b:Int}:aH P .neq t c d (.int k a) (.int k b) W=some (.bool (!decide (a=b)),W):=mX rfl
theorem VQ{s:Sem Value}{v:Value}(h:bG P s=some v):ES (bG P (do pure (.value (<-s))))=some v:=by
 induction s with
 |pure a=>simp only[bG]at h;injection h with h;subst h;rfl
 |program k ih=>exact ih P h
 |_=>simp[bG]at h
theorem G8{op:BinOp}{t:TypeId}{c d:Bool}{x y v:Value}(h0:lY P W op t x y=none)(hx:aX x=true)(hy:aX y=true)(hv:aX v=true)
 (hp:bG P (do eqGuard op t (opd c) (opd d) x y;binOp op t x y:Sem Value)=some v):aH P op t c d x y W=some (v,W):=by
 unfold aH;rw[h0];simp only[lN,hx,hy,Bool.and_self,if_true,VQ hp,hv,Option.map_some]
theorem a4G{t:TypeId}{c d:Bool}{k:IntKind}{a b:Int}(hb:b≠0):aH P .rem t c d (.int k a) (.int k b) W=some (.int k (a.tmod b),W):=by refine G8 (by simp[lY,NY]) rfl rfl rfl ?_;simp[eqGuard,binOp,Op.intDiv,hb];rfl
theorem MX{t:TypeId}{c d:Bool}{k:IntKind}{a b:Int}(hb:b≠0):aH P .quo t c d (.int k a) (.int k b) W=some (.int k (k.wrap (a.tdiv b)),W):=by refine G8 (by simp[lY,NY]) rfl rfl rfl ?_;simp[eqGuard,binOp,Op.intDiv,hb];rfl
theorem dX{α β:Type}(s:Sem α)(f:α->Sem β):bG P (s>>=f)=(bG P s).bind λa=>bG P (f a):=by
 induction s with
 |pure a=>rfl
 |program k ih=>exact ih P
 |_=>rfl
theorem fC{α:Type}(a:α):bG P (pure a:Sem α)=some a:=Eq.trans rfl rfl
theorem JG:bG P (program:Sem Program)=some P:=Eq.trans rfl rfl
theorem fT{t:TypeId}{d:TypeDesc}(h:P.underlying t=some d):bG P (underlying t)=some d:=by unfold underlying;simp only[dX,JG,Option.bind_some,h,fC]
theorem G6{t:TypeId}{c d:Bool}{a b:ByteArray}:aH P .eql t c d (.string a) (.string b) W=some (.bool (a.toList==b.toList),W):=by
 refine G8 ?_ rfl rfl rfl ?_
 ·simp only[lY];have h1:jY P W t (.string a) (.string b)=none:=by unfold jY;split<;>first|rfl|simp_all
  rw[h1];rfl
 ·rfl
theorem iB{ts:Array TypeId}{ty:TypeId}{cf:Array Bool}{e:TypeId}(h:(ts[0]?).bind P.underlying=some (.slice e))(a:Option Addr)(n c:Nat):aG P .len ts ty cf [.slice a n c] W=some (.int .i64 n,W):=by unfold aG;simp only[h];rfl
theorem KY(v:Value):aJ P [(v,none)] W=some (v,W):=Eq.trans rfl rfl
theorem KS(v u:Value):aJ P [(v,none),(u,none)] W=some (.tuple #[v,u],W):=Eq.trans rfl rfl
theorem K8(v u x:Value):aJ P [(v,none),(u,none),(x,none)] W=some (.tuple #[v,u,x],W):=Eq.trans rfl rfl
theorem Y3:aJ P [] W=some (.tuple #[],W):=Eq.trans rfl rfl
theorem d9{b o:Nat}{cs:List Value}{v:Value}(h:cellsAt W b=some cs)(hv:cs[o]? =some v):aP (.pointer (some ⟨b,o,none⟩)) W=some (v,W):=by unfold aP;simp only[h,SL,hv,Option.map_some]
theorem qP{n b o:Nat}{cs:List Value}(h:cellsAt W b=some cs)(hv:((cs.drop o).take n).length=n):eU n (.pointer (some ⟨b,o,none⟩)) W=some (.agg ((cs.drop o).take n).toArray,W):=by unfold eU;simp only[j5,h,hv,if_true,Option.map_some]
theorem bC{b:Nat}{cs:List Value}(h:W.get b=some (.cells cs)):cellsAt W b=some cs:=by unfold cellsAt;rw[h]
theorem a0l{b:Nat}{cs:List Value}(h:W.get b=some (.ro cs)):cellsAt W b=some cs:=by unfold cellsAt;rw[h]
theorem dI{cs:List Value}:cellsAt (W.add (.cells cs)) W.next=some cs:=bC (W.get_add _)
theorem Y0{b:Nat}(o:AObj)(h:b<W.next):cellsAt (W.add o) b=cellsAt W b:=by unfold cellsAt;rw[W.get_add_ne o (by omega)]
theorem IU{b:Nat}(cs:List Value):cellsAt (W.put b (.cells cs)) b=some cs:=bC (W.get_put _ _)
theorem Le.cellsAt{W W':AW}(h:Le W W'){b:Nat}(hb:b<W.next):cellsAt W' b=cellsAt W b:=by unfold Eng.cellsAt;rw[h.get b hb]
theorem xY{n b o:Nat}{cs:List Value}{v:Value}(h:W.get b=some (.cells cs))(hn:v.cells.size=n)(hl:o+v.cells.toList.length<=cs.length)(h1:v.cells.toList.all one=true):
 fZ n (.pointer (some ⟨b,o,none⟩)) v W=some (undef,W.put b (.cells (iX cs o v.cells.toList))):=by
 unfold fZ;simp only[hn,if_true,MS,h,if_pos (show o+v.cells.toList.length<=cs.length/\v.cells.toList.all one=true from⟨hl,h1⟩),Option.map_some]
theorem a4C{b o off:Nat}:bI off (.pointer (some ⟨b,o,none⟩)) W=some (.pointer (some ⟨b,o+off,none⟩),W):=by unfold bI;simp only[cO]
theorem nC{z b o l c i:Nat}{k:IntKind}(h:i<l):jI z (.slice (some ⟨b,o,none⟩) l c) (.int k (i:Int)) W=some (.pointer (some ⟨b,o+i*z,none⟩),W):=by unfold jI;simp only[iN,if_pos h,cO]
theorem a3D{len z b o i:Nat}{k:IntKind}(h:i<len):ixA len z (.pointer (some ⟨b,o,none⟩)) (.int k (i:Int)) W=some (.pointer (some ⟨b,o+i*z,none⟩),W):=by unfold ixA;simp only[iN,if_pos h,cO]
end
section
variable {P:Program} {W:AW}
theorem a8q{b o:Nat}:aP (.pointer (some ⟨b,o,none⟩)) W=(cellsAt W b).bind λcs=>(cs[o]?).map λv=>(v,W):=by
 unfold aP;simp only;cases cellsAt W b with
 |none=>rfl
 |some cs=>simp only[Option.bind_some,SL]
theorem AP{n b o:Nat}:eU n (.pointer (some ⟨b,o,none⟩)) W=(cellsAt W b).bind λcs=>if((cs.drop o).take n).length=n then some (.agg ((cs.drop o).take n).toArray,W)else none:=by
 unfold eU;simp only[j5];cases cellsAt W b with
 |none=>rfl
 |some cs=>
  simp only[Option.bind_some];by_cases h:((cs.drop o).take n).length=n
  ·rw[if_pos h,if_pos h];rfl
  ·rw[if_neg h,if_neg h];rfl
noncomputable def rwCells(W:AW)(b:Nat):Option (List Value):=match W.get b with|some (.cells cs)=>some cs|_=>none
theorem eH{b:Nat}{cs:List Value}(h:rwCells W b=some cs):cellsAt W b=some cs:=by
 unfold rwCells at h;split at h
 ·rename_i cs' hg;injection h with h;subst h;exact bC hg
 ·cases h
theorem NT{b:Nat}{cs:List Value}(h:W.get b=some (.cells cs)):rwCells W b=some cs:=by unfold rwCells;rw[h]
theorem dQ{cs:List Value}:rwCells (W.add (.cells cs)) W.next=some cs:=NT (W.get_add _)
theorem lK{b:Nat}(o:AObj)(h:b<W.next):rwCells (W.add o) b=rwCells W b:=by unfold rwCells;rw[W.get_add_ne o (by omega)]
theorem fH{b:Nat}(cs:List Value):rwCells (W.put b (.cells cs)) b=some cs:=NT (W.get_put _ _)
theorem dZ{b c:Nat}(o:AObj)(h:b≠c):rwCells (W.put b o) c=rwCells W c:=by unfold rwCells;rw[W.get_put_ne o h]
theorem Le.rwCells{W W':AW}(h:Le W W'){b:Nat}(hb:b<W.next):rwCells W' b=rwCells W b:=by unfold Eng.rwCells;rw[h.get b hb]
theorem YT{n b o:Nat}{v:Value}:fZ n (.pointer (some ⟨b,o,none⟩)) v W=(rwCells W b).bind λcs=>if v.cells.size=n/\o+v.cells.toList.length<=cs.length/\v.cells.toList.all one=true then some (undef,W.put b (.cells (iX cs o v.cells.toList)))else none:=by
 unfold fZ rwCells;simp only[MS];by_cases h:v.cells.size=n
 ·rw[if_pos h];cases hg:W.get b with
  |none=>rfl
  |some obj=>
   cases obj with
   |cells cs=>
    simp only[Option.bind_some];by_cases h2:o+v.cells.toList.length<=cs.length/\v.cells.toList.all one=true
    ·rw[if_pos h2,if_pos ⟨h,h2⟩];rfl
    ·rw[if_neg h2,if_neg (λx=>h2 x.2)];rfl
   |_=>rfl
 ·rw[if_neg h];cases hg:W.get b with
  |none=>rfl
  |some obj=>
   cases obj with
   |cells cs=>simp only[Option.bind_some];rw[if_neg (λx=>h x.1)];rfl
   |_=>rfl
def o8(P:Program)(t:TypeId):Option Nat:=match P.underlying t with
 |some (.slice e)=>nI P e
 |_=>none
theorem gL{t:TypeId}{z:Nat}(h:o8 P t=some z):∃e,P.underlying t=some (.slice e)/\nI P e=some z:=by
 unfold o8 at h;split at h
 ·rename_i e hu;exact⟨e,hu,h⟩
 ·cases h
theorem uG{t:TypeId}{z:Nat}(hz:o8 P t=some z){b o l c h:Nat}{k:IntKind}(h1:h<=c)(h2:c<bS):
 bM P t (.slice (some ⟨b,o,none⟩) l c) none (some (.int k (h:Int))) none W=some (.slice (some ⟨b,o,none⟩) h c,W):=by
 obtain⟨e,he,hz⟩:=gL hz;have hb:¬(c=bS+z/\0<z):=λx=>by omega
 have h0:((⟨b,o,none⟩:Addr).add (0*z))=⟨b,o,none⟩:=by rw[cO];simp
 unfold bM iD;simp only[he,hz,dE,iN,Nat.zero_le,if_true,if_neg hb,if_pos (And.intro h2 h1),Nat.sub_zero,h0,ite_self]
theorem OJ{t:TypeId}{z:Nat}(hz:o8 P t=some z){k:IntKind}:
 bM P t (.slice none 0 0) none (some (.int k (0:Nat))) none W=some (.slice none 0 0,W):=by
 obtain⟨e,he,hz⟩:=gL hz;unfold bM iD;simp only[he,hz,dE,iN,Nat.le_refl,and_self,if_true,Nat.sub_zero]
def mD(P:Program)(ts:Array TypeId)(z bytes:Nat):Bool:=match ts.toList with
 |[t0,t1]=>Nat.beq t0 t1&&(match jZ P t0 with
  |some e=>(match nI P e,(P.info? e).map (λi=>(i.zero,i.bytes))with
   |some z',some (some zv,bytes')=>Nat.beq z' z&&Nat.beq bytes' bytes&&Nat.blt 0 z&&Nat.beq zv.cells.size z
   |_,_=>false)
  |none=>false)
 |_=>false
theorem uW{ts:Array TypeId}{z bytes:Nat}(h:mD P ts z bytes=true):∃t e zv,ts.toList=[t,t]/\jZ P t=some e/\nI P e=some z/\(P.info? e).map (λi=>(i.zero,i.bytes))=some (some zv,bytes)/\0<z/\zv.cells.size=z:=by
 unfold mD at h;split at h;case h_2=>cases h
 rename_i t0 t1 hl;simp only[Bool.and_eq_true,Nat.beq_eq]at h;obtain⟨h0,h⟩:=h;subst h0;split at h;case h_2=>cases h
 rename_i e he;split at h;case h_2=>cases h
 rename_i z' zv b' h1 h2;simp only[Bool.and_eq_true,Nat.beq_eq,Nat.blt_eq]at h;obtain⟨⟨⟨h3,h4⟩,h5⟩,h6⟩:=h;subst h3;subst h4;exact⟨t0,e,zv,hl,he,h1,h2,h5,h6⟩
theorem CE{ts:Array TypeId}{z bytes:Nat}(hk:mD P ts z bytes=true){b o n c:Nat}{cs new:List Value}(hc:cellsAt W b=some cs)(hn:new=(cs.drop o).take (n*z))(hl:new.length=n*z)(h0:0<n)(h1:new.all one=true)
 (hb:n<1099511627776)(hb2:(2*n+192)*bytes<=281474976710656):
 bJ P W ts (.slice none 0 0) (.slice (some ⟨b,o,none⟩) n c)=some (.slice (some ⟨W.next,0,none⟩) n (bS+z),W.add (.cells new)):=by
 obtain⟨t,e,zv,k1,k2,k3,k4,k5,k6⟩:=uW hk;have hr:pX W b o (n*z)=some new:=by rw[j5,hc];simp only;rw[if_pos (by rw[<-hn];exact hl),hn]
 have hB:(0:Nat)<bS:=by unfold bS;omega
 have hB2:¬(0:Nat)=bS+z:=by unfold bS;omega
 have hr1:bA W (.slice (some ⟨b,o,none⟩) n c) (n*z)=some new:=by unfold bA;simp only;rw[if_neg (by have:=Nat.mul_pos h0 k5;omega),if_neg (by omega)];exact hr
 have hr2:bA W (.slice none 0 0) (0*z)=some []:=by unfold bA;simp
 unfold bJ;simp only[k1,k2,k3,k4,if_true,Nat.zero_add,if_pos (And.intro k5 (And.intro k6 (And.intro hb hb2))),if_neg (show¬n=0 by omega),hr1,hr2,h1,if_neg hB2,if_pos hB,and_self,List.nil_append,AW.new_eq]
theorem SV{ts:Array TypeId}{z bytes:Nat}(hk:mD P ts z bytes=true){b o n c:Nat}{cs new:List Value}(hc:cellsAt W b=some cs)(hn:new=(cs.drop o).take (n*z))(hl:new.length=n*z)(h0:0<n)(h1:new.all one=true)
 {B m:Nat}{old:List Value}(ho:W.get B=some (.cells old))(hol:old.length=m*z)
 (hb:m+n<1099511627776)(hb2:(2*(m+n)+192)*bytes<=281474976710656)(hm:0<m):
 bJ P W ts (.slice (some ⟨B,0,none⟩) m (bS+z)) (.slice (some ⟨b,o,none⟩) n c)=some (.slice (some ⟨W.next,0,none⟩) (m+n) (bS+z),(W.kill B).add (.cells (old++new))):=by
 obtain⟨t,e,zv,k1,k2,k3,k4,k5,k6⟩:=uW hk;have hr:pX W b o (n*z)=some new:=by rw[j5,hc];simp only;rw[if_pos (by rw[<-hn];exact hl),hn]
 have hr1:bA W (.slice (some ⟨b,o,none⟩) n c) (n*z)=some new:=by unfold bA;simp only;rw[if_neg (by have:=Nat.mul_pos h0 k5;omega),if_neg (by omega)];exact hr
 have hro:pX W B 0 (m*z)=some old:=by rw[j5,bC ho];simp only[List.drop_zero];rw[List.take_of_length_le (by omega),if_pos hol]
 have hr2:bA W (.slice (some ⟨B,0,none⟩) m (bS+z)) (m*z)=some old:=by unfold bA;simp only;rw[if_neg (by have:=Nat.mul_pos hm k5;omega),if_neg (by omega)];exact hro
 unfold bJ;simp only[k1,k2,k3,k4,if_true,if_pos (And.intro k5 (And.intro k6 (And.intro hb hb2))),if_neg (show¬n=0 by omega),hr1,hr2,h1,ho,AW.new_eq,AW.kill_next]
end
theorem YP{body:PlanTab.Fr->AW->Option LT}:∀(n m:Nat) (I:Nat->PlanTab.Fr->AW->Prop) (Q:LT->Prop) (R:PlanTab.Fr) (W:AW),n<m->I 0 R W->
 (∀k R W,k<n->I k R W->∃r,body R W=some r/\((r.1=.normal/\I (k+1) r.2.1 r.2.2)\/(r.1≠ .normal/\Q r)))->
 (∀R W,I n R W->∃r,body R W=some r/\r.1≠ .normal/\Q r)->∃r,kN body m R W=some r/\r.1≠ .normal/\Q r:=by
 intro n;induction n with
 |zero=>
  intro m I Q R W hm h0 _ he;obtain⟨m,rfl⟩:∃k,m=k+1:=⟨m-1,by omega⟩;obtain⟨⟨x,R',W'⟩,h1,h2,h3⟩:=he R W h0;refine⟨_,?_,h2,h3⟩;unfold kN;rw[h1];cases x with
  |normal=>exact absurd rfl h2
  |exit i=>rfl
  |ret=>rfl
 |succ n ih=>
  intro m I Q R W hm h0 hs he;obtain⟨m,rfl⟩:∃k,m=k+1:=⟨m-1,by omega⟩;obtain⟨⟨x,R',W'⟩,h1,h2⟩:=hs 0 R W (by omega) h0;rcases h2 with⟨h2,h3⟩|⟨h2,h3⟩
  ·simp only at h2 h3;subst h2;obtain⟨r,k1,k2,k3⟩:=ih m (λk=>I (k+1)) Q R' W' (by omega) h3 (λk R W hk hI=>hs (k+1) R W (by omega) hI) he;refine⟨r,?_,k2,k3⟩;unfold kN;rw[h1];exact k1
  ·refine⟨_,?_,h2,h3⟩;unfold kN;rw[h1];cases x with
   |normal=>exact absurd rfl h2
   |exit i=>rfl
   |ret=>rfl
theorem a2m{body:PlanTab.Fr->AW->Option LT}(n:Nat)(hn:n<1000000)(I:Nat->PlanTab.Fr->AW->Prop)(Q:LT->Prop){R:PlanTab.Fr}{W:AW}(h0:I 0 R W)
 (hs:∀k R W,k<n->I k R W->∃r,body R W=some r/\((r.1=.normal/\I (k+1) r.2.1 r.2.2)\/(r.1≠ .normal/\Q r)))
 (he:∀R W,I n R W->∃r,body R W=some r/\r.1≠ .normal/\Q r):∃r,bY body R W=some r/\Q r:=by
 rw[WH];obtain⟨r,h1,_,h2⟩:=YP n 1000000 I Q R W hn h0 hs he;exact⟨r,h1,h2⟩
end Go.Eng
namespace Go.Eng
open Go
variable [PlanTab]
def a95(P:Program)(i nt n:Nat):Bool:=match P.funcs[i]? with
 |some fn=>fn.body.isSome&&(Nat.beq fn.ntmps nt&&Nat.ble n nt)
 |none=>false
theorem aO{P:Program}{bad:List Nat}{spec:Callee}{i nt n:Nat}(hb:R4 i bad=false)(hk:a95 P i nt n=true){fs cs:Array Value}{args:List Value}(hn:fs.toList.length+(args.length+cs.toList.length)=n){W:AW}{r:Value×AW}
 (h:a6F P (om P bad spec) nt (ZX P i) (a4T P i) (fs.toList++(args++cs.toList)) W=some r):om P bad spec (.func (.func i) fs cs) args W=some (gc W r):=by
 unfold a95 at hk;unfold ZX a4T at h;cases hf:P.funcs[i]? with
 |none=>rw[hf]at hk;cases hk
 |some fn=>
  rw[hf]at hk h;simp only[Bool.and_eq_true,Nat.beq_eq]at hk h;obtain⟨h1,h2,h3⟩:=hk;cases hc:fn.body with
  |none=>rw[hc]at h1;cases h1
  |some c=>rw[hc]at h;simp only at h;subst h2;exact a8E hb hf hc (by rw[hn];exact h3) h
structure Ex (W:AW) (t:Option (Value×AW)) (Q:Value->AW->Prop):Prop where
 ex:∃v W',t=some (v,W')/\Le W W'/\Q v W'
end Go.Eng
namespace Go.Eng
open Go
variable [PlanTab]
@[congr] theorem bnd_congr {α ρ:Type} {x y:Option α} {g:α->Option ρ} (h:x=y):aA x g=aA y g:=by rw[h]
@[congr] theorem bIf_congr {ρ:Type} {c d:Bool} {a b:ρ} (h:c=d):bL c a b=bL d a b:=by rw[h]
@[congr] theorem vIf_congr {ρ:Type} {c d:Value} {a b:Option ρ} (h:c=d):bK c a b=bK d a b:=by rw[h]
@[congr] theorem kExit_congr {ρ:Type} {i:Nat} {x y:X} {a b:Option ρ} (h:x=y):dB i x a b=dB i y a b:=by rw[h]
@[congr] theorem kNorm_congr {ρ:Type} {x y:X} {a b:Option ρ} (h:x=y):wI x a b=wI y a b:=by rw[h]
@[congr] theorem kRetX_congr {ρ:Type} {x y:X} {a:Option ρ} (h:x=y):jU x a=jU y a:=by rw[h]
theorem TD{W W':AW}{b:Bool}(h:Le W W'):gc W (.bool b,W')=(.bool b,W):=rV rfl h
section
variable {P:Program} {W:AW}
theorem a05(g:Nat):aCr g=.pointer (some ⟨g,0,none⟩):=Eq.trans rfl rfl
theorem SH(W:AW)(o o':AObj):(W.add o).put W.next o'=W.add o':=by unfold AW.add AW.put;simp only[T.set_set]
theorem QB(cs:Array Value):(Value.agg cs).cells=cs:=Eq.trans rfl rfl
theorem a5v(cs:List Value)(o:Nat)(v:Value)(h:o<cs.length):iX cs o [v]=cs.set o v:=by unfold iX;rw[List.set_eq_take_append_cons_drop];simp[h]
theorem TL{b o:Nat}{v:Value}(h:v.cells=#[v])(h1:one v=true):fZ 1 (.pointer (some ⟨b,o,none⟩)) v W=(rwCells W b).bind λcs=>if o<cs.length then some (undef,W.put b (.cells (cs.set o v)))else none:=by
 rw[YT,h];congr 1;funext cs;by_cases hl:o<cs.length
 ·rw[if_pos hl,if_pos ⟨rfl,by simp;omega,by simp[h1]⟩,a5v _ _ _ hl]
 ·rw[if_neg hl,if_neg (λx=>hl (by have:=x.2.1;simp at this;omega))]
theorem a6R{b o:Nat}{k:IntKind}{n:Int}:fZ 1 (.pointer (some ⟨b,o,none⟩)) (.int k n) W=(rwCells W b).bind λcs=>if o<cs.length then some (undef,W.put b (.cells (cs.set o (.int k n))))else none:=TL rfl rfl
theorem a4I{b o:Nat}{x:Bool}:fZ 1 (.pointer (some ⟨b,o,none⟩)) (.bool x) W=(rwCells W b).bind λcs=>if o<cs.length then some (undef,W.put b (.cells (cs.set o (.bool x))))else none:=TL rfl rfl
theorem DF{n b o:Nat}{vs:Array Value}:fZ n (.pointer (some ⟨b,o,none⟩)) (.agg vs) W=(rwCells W b).bind λcs=>if vs.size=n/\o+vs.toList.length<=cs.length/\vs.toList.all one=true then some (undef,W.put b (.cells (iX cs o vs.toList)))else none:=YT
theorem tJ(k:IntKind)(n:Int):one (.int k n)=true:=Eq.trans rfl rfl
theorem BF(s:ByteArray):one (.string s)=true:=Eq.trans rfl rfl
theorem a2N(a:Option Addr)(l c:Nat):one (.slice a l c)=true:=Eq.trans rfl rfl
theorem a3e{r:Option (Value×AW)}{u v:Value}{W':AW}(h:r=some (u,W'))(h2:vsame u v=true):UE true r v=true:=by subst h;exact h2
theorem zJ(k:IntKind)(n:Int):vsame (.int k n) (.int k n)=true:=by simp[vsame,XQ]
theorem CJ{t:TypeId}{c d:Bool}{x y:Array Value}{r:Bool}(hg:P.eqGuardType P.depth t=false)(h:a0e P 8 t (.agg x) (.agg y)=some r):aH P .neq t c d (.agg x) (.agg y) W=some (.bool (!r),W):=by
 have h0:jY P W t (.agg x) (.agg y)=none:=by unfold jY;split<;>first|rfl|simp_all
 unfold aH lY;simp only[h0,NG,hg,Bool.false_eq_true,if_false,h,Option.map_some]
noncomputable def VE:List (Int×Int)->Option Bool
 |[]=>some true
 |p::l=>match some (p.1==p.2)with
  |some true=>VE l
  |some false=>some false
  |none=>none
theorem NN:∀l:List (Int×Int),VE l=some (l.all λp=>p.1==p.2)
 |[]=>rfl
 |p::l=>by
  unfold VE;cases h:p.1==p.2 with
  |true=>simp only[List.all_cons,h,Bool.true_and];exact NN l
  |false=>simp only[List.all_cons,h,Bool.false_and]
theorem zI(b o l c:Nat):XQ (.slice (some ⟨b,o,none⟩) l c) (.slice (some ⟨b,o,none⟩) l c)=true:=by simp[XQ,GQ]
theorem XT(l c:Nat):XQ (.slice none l c) (.slice none l c)=true:=by simp[XQ]
theorem a6D(b o:Nat):XQ (.pointer (some ⟨b,o,none⟩)) (.pointer (some ⟨b,o,none⟩))=true:=by simp[XQ,GQ]
theorem OL{cs:Array Value}(h:vsL cs.toList cs.toList=true):vsame (.agg cs) (.agg cs)=true:=h
theorem HY(b o l c:Nat):vsame (.slice (some ⟨b,o,none⟩) l c) (.slice (some ⟨b,o,none⟩) l c)=true:=zI b o l c
theorem YO(l c:Nat):vsame (.slice none l c) (.slice none l c)=true:=XT l c
theorem a2g(b o:Nat):vsame (.pointer (some ⟨b,o,none⟩)) (.pointer (some ⟨b,o,none⟩))=true:=a6D b o
theorem iW{u v:Value}{W':AW}:UE true (some (u,W')) v=vsame u v:=Eq.trans rfl rfl
end
def Ok{ρ:Type}(t:Option ρ)(G:ρ->Prop):Prop:=∃x,t=some x/\G x
theorem aB{ρ:Type}{x:ρ}{G:ρ->Prop}:Ok (some x) G<->G x:=⟨λ⟨y,h,g⟩=>by injection h with h;subst h;exact g,λg=>⟨x,rfl,g⟩⟩
theorem Ok.mono{ρ:Type}{t:Option ρ}{G H:ρ->Prop}(h:Ok t G)(hg:∀x,G x->H x):Ok t H:=let⟨x,a,b⟩:=h;⟨x,a,hg x b⟩
theorem bF{ρ:Type}{body:PlanTab.Fr->AW->Option LT}{R:PlanTab.Fr}{W:AW}{K:LT->Option ρ}{G:ρ->Prop}(n:Nat)(hn:n<1000000)(I:Nat->PlanTab.Fr->AW->Prop)(Q:LT->Prop)(h0:I 0 R W)
 (hs:∀k R W,k<n->I k R W->Ok (body R W) λr=>(r.1=.normal/\I (k+1) r.2.1 r.2.2)\/(r.1≠ .normal/\Q r))
 (he:∀R W,I n R W->Ok (body R W) λr=>r.1≠ .normal/\Q r)(hk:∀r,Q r->Ok (K r) G):Ok (aA (bY body R W) K) G:=by
 obtain⟨r,h1,h2⟩:=a2m n hn I Q h0 hs he;rw[h1,uT];exact hk r h2
theorem aN{o t:Option (Value×AW)}{v:Value}{W:AW}(hv:(aX v&& !isU v)=true)(h:Ok t λr=>r.1=v/\Le W r.2)(hom:∀{r},t=some r->o=some (gc W r)):o=some (v,W):=by obtain⟨⟨u,W'⟩,h1,h2,h3⟩:=h;simp only at h2;subst h2;rw[hom h1,rV hv h3]
def Row{α:Type}(W:AW)(z:Nat)(at_:List Value->Nat->α->Prop)(v:Value)(l:List α):Prop:=
 ∃a c,v=.slice a l.length c/\(l=[]\/∃b o cs,a=some ⟨b,o,none⟩/\b<W.next/\cellsAt W b=some cs/\∀i (h:i<l.length),at_ cs (o+i*z) l[i])
def H9(k:IntKind)(cs:List Value)(p:Nat)(n:Int):Prop:=cs[p]? =some (.int k n)
abbrev Ints(W:AW)(v:Value)(l:List Int):Prop:=Row W 1 (H9 .i64) v l
theorem Row.mono{α:Type}{W W':AW}{z:Nat}{at_:List Value->Nat->α->Prop}{v:Value}{l:List α}(h:Row W z at_ v l)(hle:Le W W'):Row W' z at_ v l:=by
 obtain⟨a,c,rfl,h⟩:=h;refine⟨a,c,rfl,?_⟩;rcases h with h|⟨b,o,cs,h1,h2,h3,h4⟩
 ·exact .inl h
 ·exact .inr ⟨b,o,cs,h1,Nat.lt_of_lt_of_le h2 hle.next,by rw[hle.cellsAt h2];exact h3,h4⟩
theorem Row.len{α:Type}{W:AW}{z:Nat}{at_:List Value->Nat->α->Prop}{v:Value}{l:List α}(h:Row W z at_ v l){P:Program}{ts:Array TypeId}{e:TypeId}(ht:(ts[0]?).bind P.underlying=some (.slice e))(W':AW)(ty:TypeId)(cf:Array Bool):
 aG P .len ts ty cf [v] W'=some (.int .i64 l.length,W'):=by
 obtain⟨a,c,rfl,_⟩:=h;exact iB ht _ _ _
theorem Row.elem{α:Type}{W:AW}{z:Nat}{at_:List Value->Nat->α->Prop}{v:Value}{l:List α}(h:Row W z at_ v l){i:Nat}(hi:i<l.length):
 ∃b o cs,(∀W' k,jI z v (.int k (i:Int)) W'=some (.pointer (some ⟨b,o,none⟩),W'))/\b<W.next/\cellsAt W b=some cs/\at_ cs o l[i]:=by
 obtain⟨a,c,rfl,h⟩:=h;rcases h with rfl|⟨b,o,cs,rfl,h2,h3,h4⟩
 ·simp at hi
 ·exact⟨b,o+i*z,cs,λW' k=>nC hi,h2,h3,h4 i hi⟩
theorem Ints.get{W:AW}{v:Value}{l:List Int}(h:Ints W v l){i:Nat}(hi:i<l.length):
 ∃p,(∀W' k,jI 1 v (.int k (i:Int)) W'=some (p,W'))/\∀W',Le W W'->aP p W'=some (.int .i64 l[i],W'):=by
 obtain⟨b,o,cs,h1,h2,h3,h4⟩:=h.elem hi;exact⟨_,h1,λW' hle=>d9 (by rw[hle.cellsAt h2];exact h3) h4⟩
end Go.Eng
namespace Go.Eng
open Go Go.RowKit
variable [PlanTab]
noncomputable def wN:List (Nat×Callee)->Callee
 |[]=>λ_ _ _=>none
 |(F,c)::l=>λf args W=>match f with
  |.func (.func g) fs cs=>(match Nat.beq g F with
   |true=>c (.func (.func g) fs cs) args W
   |false=>wN l (.func (.func g) fs cs) args W)
  |_=>none
theorem CG{P:Program}{ng:List Nat}:∀{l:List (Nat×Callee)},(∀x∈l,aW P ng x.2)->aW P ng (wN l)
 |[],_=>λf args W v W' h=>by cases h
 |(F,c)::l,hl=>by
  intro f args W v W' h;unfold wN at h;split at h;case h_2=>cases h
  split at h
  ·exact hl (F,c) (by simp) _ _ _ _ _ h
  ·exact CG (λx hx=>hl x (by simp[hx])) _ _ _ _ _ h
def GlobW(gs:List (Nat×List Value))(W:AW):Prop:=∀x∈gs,W.get x.1=some (.ro x.2)/\x.1<W.next
theorem GlobW.mono{gs:List (Nat×List Value)}{W W':AW}(h:GlobW gs W)(hle:Le W W'):GlobW gs W':=λx hx=>⟨by rw[hle.get _ (h x hx).2];exact(h x hx).1,Nat.lt_of_lt_of_le (h x hx).2 hle.next⟩
noncomputable def xZ(F:Nat)(gs:List (Nat×List Value))(val:List Value->Option Value):Callee:=λf args W=>match f with
 |.func (.func g) fs cs=>(match Nat.beq g F&&(fs.isEmpty&&cs.isEmpty)with
  |true=>open Classical in if GlobW gs W then(match val args with
   |some v=>if aX v&&args.all aX then some (v,W)else none
   |none=>none)else none
  |false=>none)
 |_=>none
theorem a3o{F:Nat}{gs:List (Nat×List Value)}{val:List Value->Option Value}{args:List Value}{W:AW}{v:Value}(hg:GlobW gs W)(hv:val args=some v)(hp:aX v=true)(ha:args.all aX=true):
 xZ F gs val (.func (.func F) #[] #[]) args W=some (v,W):=by
 unfold xZ;simp only[Nat.beq_refl,Array.isEmpty_empty,Bool.and_self,if_pos hg,hv,hp,ha,Bool.and_true,if_true]
theorem a3w{P:Program}{ng:List Nat}{F:Nat}{fn:Func}{body:Code}(hfn:P.funcs[F]? =some fn)(hname:(fn.name== "runtime.NumGoroutine")=false)(hb:fn.body=some body){gs:List (Nat×List Value)}(hsc:gs.all (λx=>x.2.all bW&&R4 x.1 ng)=true){val:List Value->Option Value}
 (hall:∀args v,val args=some v->∀w:World,OP gs w.heap->Calls P F args.toArray w λe w'=>e=.returned v/\Quiet w w'):aW P ng (xZ F gs val):=by
 intro f args W v W' h σ w f' args' hW hG hf hargs;unfold xZ at h;split at h;case h_2=>cases h
 rename_i g fs cs;split at h;case h_2=>cases h
 rename_i hgf;simp only[Bool.and_eq_true,Nat.beq_eq,Array.isEmpty_iff]at hgf;obtain⟨rfl,rfl,rfl⟩:=hgf;split at h;case isFalse=>cases h
 rename_i hgl;split at h;case h_2=>cases h
 rename_i u hu;split at h;case isFalse=>cases h
 rename_i hpl;injection h with h;injection h with h1 h2;subst h1;subst h2;simp only[Bool.and_eq_true]at hpl;obtain⟨fn',fs',cs',hfr,hfs,hcs,rfl⟩:=hf.func_inv;cases hfr;obtain rfl:fs'=#[]:=by have h1:fs'.toList.length=0:=hfs.1.symm;exact Array.toList_eq_nil_iff.1 (List.length_eq_zero_iff.1 h1)
 obtain rfl:cs'=#[]:=by have h1:cs'.toList.length=0:=hcs.1.symm;exact Array.toList_eq_nil_iff.1 (List.length_eq_zero_iff.1 h1)
 obtain rfl:args'=args:=LR.eq_of (λv v'=>iE) hpl.2 hargs;have hl:OP gs w.heap:=λx hx=>by have hs:=List.all_eq_true.1 hsc x hx;simp only[Bool.and_eq_true]at hs;obtain⟨e,he⟩:=hG x.1 (EM.1 hs.2);obtain⟨c,t,fr,k1,_,k3⟩:=hW.obj x.1 _ _ (hgl x hx).1 he;refine⟨c,t,fr,k1,λi v hv=>?_⟩;obtain⟨v',a,b⟩:=k3 i v hv;have hsv:=List.all_eq_true.1 hs.1 v (List.mem_of_getElem? hv);have:v'=v:=QO hsv b;subst this;exact⟨by simpa using a,hsv⟩
 refine⟨dO hfn hname hb _ w,?_⟩;have e1:(#[]:Array Value)++args'.toArray++#[]=args'.toArray:=by simp
 rw[e1];refine CallsIn.mono (show CallsIn Fence.wide 0 P g _ w _ from(callsIn_wide (n:=0)).2 (hall _ _ hu w hl)) ?_;rintro e w' ⟨rfl,hq⟩;exact⟨_,rfl,σ,jK hpl.1,hq.rel hW,hq.ext σ W⟩
def AllRo(σ:bQ)(W:AW):Prop:=∀b g,σ b=some g->∃cs,W.get b=some (.ro cs)
theorem AllRo.quiet{σ σ':bQ}{W W':AW}{w w':World}(h:AllRo σ W)(he:Ext σ W w σ' W' w'):Quiet w w':=
 ⟨he.os,he.tape,he.output,he.size,λB hB=>he.keep B hB (by rintro⟨b,g,hg,_,hn⟩;obtain⟨cs,hc⟩:=h b g hg;exact hn cs hc)⟩
theorem a4o{P:Program}{o:Callee}(hok:aW P PlanTab.ng o){σ:bQ}{W W':AW}{w:World}(hW:WRel σ W w.heap)(hG:Glob σ PlanTab.ng)(hro:AllRo σ W){i:FuncId}{args args':List Value}(hargs:LR σ args args'){v:Value}(hv:aX v=true)
 (h:o (.func (.func i) #[] #[]) args W=some (v,W')):Calls P i args'.toArray w λe w'=>e=.returned v/\Quiet w w':=by
 have hc:=hok _ _ _ _ _ h σ w (.func (.func i) #[] #[]) args' hW hG (.func _ _ _ _ _ _ (.func i) rfl (λi v v' x=>by simp at x) rfl (λi v v' x=>by simp at x)) hargs;unfold zY at hc;obtain⟨_,hc⟩:=hc;have e1:(#[]:Array Value)++args'.toArray++#[]=args'.toArray:=by simp
 rw[e1]at hc;refine(callsIn_wide (n:=0)).1 ?_;refine CallsIn.mono (show CallsIn Fence.wide 0 P i args'.toArray w _ from hc) ?_;rintro e w' ⟨v',rfl,σ',hv',_,he⟩;exact⟨by rw[iE hv hv'],hro.quiet he⟩
theorem a6k{gs:List (Nat×List Value)}{N:Nat}:AllRo (σG gs) (WG gs N):=by intro b g hg;obtain⟨x,_,_,_,ht⟩:=zK hg;exact⟨x.2,ht⟩
end Go.Eng
namespace Go.Eng
open Go
variable [PlanTab]
section
variable {P:Program} {W:AW}
def aM(l:List UInt8):ByteArray:=⟨l.toArray⟩
theorem XK(b:ByteArray):aM b.data.toList=b:=by cases b;simp[aM]
theorem lL(l:List UInt8):(aM l).size=l.length:=by simp[aM,ByteArray.size]
theorem AU(l:List Nat):JD l=.string (aM (l.map UInt8.ofNat)):=Eq.trans rfl rfl
theorem JE(l:List UInt8)(i:Nat):(aM l)[i]? =l[i]? :=by
 by_cases h:i<l.length
 ·have h2:i<(aM l).size:=by rw[lL];exact h
  rw[List.getElem?_eq_getElem h,getElem?_pos (aM l) i h2];rfl
 ·rw[List.getElem?_eq_none (by omega),getElem?_neg (aM l) i (by rw[lL];exact h)]
theorem IL{s:Sem Value}{v:Value}(h:bG P s=some v)(hv:aX v=true)(c:Bool)(hc:c=true):(lN P c (do pure (.value (<-s)))).map (λv=>(v,W))=some (v,W):=by subst hc;unfold lN;simp only[if_true,VQ h,hv,Option.map_some]
theorem yZ{t:TypeId}(hs:P.underlying t=some .string){l:List UInt8}{i:Nat}{k:IntKind}(hi:i<l.length):jR P t (.string (aM l)) (.int k (i:Int)) W=some (.int .u8 (l[i].toNat:Int),W):=by
 have e:jR P t (.string (aM l)) (.int k (i:Int)) W=(lN P (aX (.string (aM l))&&(aX (.int k (i:Int))&&true)) (do pure (.value (<-Instr.index t (.string (aM l)) (.int k (i:Int)))))).map λv=>(v,W):=by unfold jR;rw[hs]
 rw[e];refine IL ?_ rfl _ rfl;unfold Instr.index;have h0:(0:Int)<=(i:Int):=by omega
 simp only[asIntOf,pure_bind,dX,fT hs,Option.bind_some,h0,if_true,Int.toNat_natCast,JE,List.getElem?_eq_getElem hi,fC]
theorem mR{ts:Array TypeId}{ty:TypeId}{cf:Array Bool}(h:(ts[0]?).bind P.underlying=some .string)(l:List UInt8):aG P .len ts ty cf [.string (aM l)] W=some (.int .i64 l.length,W):=by
 obtain⟨t,h1,h2⟩:∃t,ts[0]? =some t/\P.underlying t=some .string:=by
  cases ht:ts[0]? with
  |none=>rw[ht]at h;cases h
  |some t=>rw[ht]at h;exact⟨t,rfl,h⟩
 have e:aG P .len ts ty cf [.string (aM l)] W=(lN P ([Value.string (aM l)].all aX) (builtin .len ts ty cf #[.string (aM l)])).map λv=>(v,W):=by unfold aG;rfl
 rw[e];have e2:builtin .len ts ty cf #[.string (aM l)]=(do pure (.value (<-Builtin.len_ ts ty #[.string (aM l)]))):=rfl;rw[e2];refine IL ?_ rfl _ rfl;unfold Builtin.len_;simp only[h1,List.getElem?_toArray,List.getElem?_cons_zero,dX,fT h2,Option.bind_some,fC,lL];rfl
theorem xK(l:List UInt8)(a b:Nat):(aM l).extract a b=aM ((l.take b).drop a):=by
 have h:((aM l).extract a b).data=(aM ((l.take b).drop a)).data:=by rw[ByteArray.data_extract];apply Array.toList_inj.1;simp[aM,List.extract_eq_take_drop,List.drop_take]
 cases hx:(aM l).extract a b with
 |mk d=>rw[hx]at h;simp only at h;rw[h]
theorem a5K{t:TypeId}(hs:P.underlying t=some .string){l:List UInt8}{a:Nat}{k:IntKind}(h:a<=l.length):bM P t (.string (aM l)) (some (.int k (a:Int))) none none W=some (.string (aM (l.drop a)),W):=by
 have e:bM P t (.string (aM l)) (some (.int k (a:Int))) none none W=(lN P (([Value.string (aM l),.int k (a:Int)]:List Value).all aX) (do pure (.value (<-Instr.sliceAt t (.string (aM l)) (some (.int k (a:Int))) none none)))).map λv=>(v,W):=by unfold bM iD;rw[hs];rfl
 rw[e];refine IL ?_ rfl _ rfl;have h0:(0:Int)<=(a:Int)/\(a:Int)<=((aM l).size:Int):=by rw[lL];omega
 have hx:(aM l).extract a (aM l).size=aM (l.drop a):=by rw[xK,lL,List.take_length]
 unfold Instr.sliceAt Instr.slice Instr.sliceBounds Instr.sliceBound;simp only[dX,fT hs,Option.bind_some,asIntOf,pure_bind,h0,and_self,if_true,fC,Int.toNat_natCast,hx,Option.isSome_none,Bool.false_eq_true,if_false]
theorem a9z{t:TypeId}(hs:P.underlying t=some .string){l:List UInt8}{a:Nat}{k:IntKind}(h:a<=l.length):bM P t (.string (aM l)) none (some (.int k (a:Int))) none W=some (.string (aM (l.take a)),W):=by
 have e:bM P t (.string (aM l)) none (some (.int k (a:Int))) none W=(lN P (([Value.string (aM l),.int k (a:Int)]:List Value).all aX) (do pure (.value (<-Instr.sliceAt t (.string (aM l)) none (some (.int k (a:Int))) none)))).map λv=>(v,W):=by unfold bM iD;rw[hs];rfl
 rw[e];refine IL ?_ rfl _ rfl;have h0:(0:Int)<=(a:Int)/\(a:Int)<=((aM l).size:Int):=by rw[lL];omega
 have hx:(aM l).extract 0 a=aM (l.take a):=by rw[xK];simp
 unfold Instr.sliceAt Instr.slice Instr.sliceBounds Instr.sliceBound;simp only[dX,fT hs,Option.bind_some,asIntOf,pure_bind,h0,and_self,if_true,fC,Int.toNat_natCast,hx,Option.isSome_none,Bool.false_eq_true,if_false]
theorem A8(l:List UInt8):(aM l).toList=l:=by rw[ByteArray.toList_eq];rfl
theorem wE{t:TypeId}{c d:Bool}{a b:List UInt8}:aH P .eql t c d (.string (aM a)) (.string (aM b)) W=some (.bool (a==b),W):=by rw[G6,A8,A8]
theorem aD(a:Addr):aF (.pointer (some a)) W=some (.pointer (some a),W):=Eq.trans rfl rfl
theorem a6Z{t:TypeId}{x:Value}:aJ P [(x,some t)] W=(wV P t x W).bind λr=>some (r.1,W):=by unfold aJ wV;simp only[yF];cases mY P W t x<;>rfl
theorem kP{t:TypeId}{x u:Value}:aJ P [(x,some t),(u,none)] W=(wV P t x W).bind λr=>some (.tuple #[r.1,u],W):=by unfold aJ wV;simp only[yF];cases mY P W t x<;>rfl
theorem LV{t t2:TypeId}{x y u:Value}:aJ P [(x,some t),(y,some t2),(u,none)] W=(wV P t x W).bind λr=>(wV P t2 y W).bind λq=>some (.tuple #[r.1,q.1,u],W):=by unfold aJ wV;simp only[yF];cases mY P W t x<;>cases mY P W t2 y<;>rfl
theorem a7s{b:Nat}{cs:List Value}(h:rwCells W b=some cs)(h1:cs.all one=true):fZ cs.length (.pointer (some ⟨b,0,none⟩)) (.agg cs.toArray) W=some (undef,W.put b (.cells cs)):=by rw[DF,h];simp only[Option.bind_some,List.size_toArray,Nat.zero_add,Nat.le_refl,h1,and_self,if_true,iX,List.take_zero,List.nil_append,List.drop_length,List.append_nil]
theorem zA{b n:Nat}{cs:List Value}(h:cellsAt W b=some cs)(hn:cs.length=n):eU n (.pointer (some ⟨b,0,none⟩)) W=some (.agg cs.toArray,W):=by rw[AP,h];simp only[Option.bind_some,List.drop_zero,<-hn,List.take_length,if_true]
end
end Go.Eng
namespace Go.Eng
open Go
theorem SX:type_of% (And.intro @uT (And.intro @a5y (And.intro @fU (And.intro @KG (And.intro @P5 (And.intro @IQ (And.intro @KP (And.intro @QW (And.intro @N7 (And.intro @E8 (And.intro @F3 (And.intro @CU (And.intro @ED (And.intro @CP (And.intro @XU (And.intro @PU (And.intro @VM (And.intro @QR (And.intro @X9 (And.intro @MV (And.intro @ET (And.intro @NA (And.intro @P8 (And.intro @MQ (And.intro @Q0 (And.intro @EJ (And.intro @Q4 (And.intro @a1l (And.intro @a3a (And.intro @a05 (And.intro @Y8 (And.intro @XX (And.intro @UN (And.intro @UO (And.intro @YF (And.intro @WC (And.intro @KY (And.intro @KS (And.intro @K8 (And.intro @Y3 (And.intro @a4C (And.intro @Bool.not_true (And.intro @Bool.not_false (And.intro @decide_true (@decide_false))))))))))))))))))))))))))))))))))))))))))))):=And.intro @uT (And.intro @a5y (And.intro @fU (And.intro @KG (And.intro @P5 (And.intro @IQ (And.intro @KP (And.intro @QW (And.intro @N7 (And.intro @E8 (And.intro @F3 (And.intro @CU (And.intro @ED (And.intro @CP (And.intro @XU (And.intro @PU (And.intro @VM (And.intro @QR (And.intro @X9 (And.intro @MV (And.intro @ET (And.intro @NA (And.intro @P8 (And.intro @MQ (And.intro @Q0 (And.intro @EJ (And.intro @Q4 (And.intro @a1l (And.intro @a3a (And.intro @a05 (And.intro @Y8 (And.intro @XX (And.intro @UN (And.intro @UO (And.intro @YF (And.intro @WC (And.intro @KY (And.intro @KS (And.intro @K8 (And.intro @Y3 (And.intro @a4C (And.intro @Bool.not_true (And.intro @Bool.not_false (And.intro @decide_true (@decide_false))))))))))))))))))))))))))))))))))))))))))))
end Go.Eng
namespace Go.Eng
open Go
variable [PlanTab]
section
variable {P:Program} {W:AW} {α:Type}
def Lst(lo:Nat)(W:AW)(z:Nat)(f:α->List Value)(v:Value)(l:List α):Prop:=
 (l=[]/\v=.slice none 0 0)\/(l≠[]/\∃B,lo<=B/\B<W.next/\v=.slice (some ⟨B,0,none⟩) l.length (bS+z)/\W.get B=some (.cells (l.flatMap f)))
theorem aR{z:Nat}{f:α->List Value}(hf:∀a,(f a).length=z):∀l:List α,(l.flatMap f).length=l.length*z
 |[]=>by simp
 |a::l=>by rw[List.flatMap_cons,List.length_append,hf,aR hf l,List.length_cons,Nat.succ_mul,Nat.add_comm]
theorem Lst.nil(lo:Nat)(W:AW)(z:Nat)(f:α->List Value):Lst lo W z f (.slice none 0 0) []:=.inl ⟨rfl,rfl⟩
theorem Lst.mono{lo z:Nat}{f:α->List Value}{v:Value}{l:List α}{W':AW}(h:Lst lo W z f v l)(hle:Le W W'):Lst lo W' z f v l:=by
 rcases h with h|⟨h0,B,h1,h2,h3,h4⟩
 ·exact .inl h
 ·exact .inr ⟨h0,B,h1,Nat.lt_of_lt_of_le h2 hle.next,h3,by rw[hle.get B h2];exact h4⟩
theorem Lst.push{ts:Array TypeId}{z bytes lo:Nat}{f:α->List Value}{v:Value}{l:List α}{a:α}(hk:mD P ts z bytes=true)(hf:∀a,(f a).length=z)(h1:∀a,(f a).all one=true)
 (h:Lst lo W z f v l){b c:Nat}(hc:cellsAt W b=some (f a))(hb:l.length+1<1099511627776)(hb2:(2*(l.length+1)+192)*bytes<=281474976710656)(hlo:lo<=W.next):
 ∃v' W',bJ P W ts v (.slice (some ⟨b,0,none⟩) 1 c)=some (v',W')/\Lst lo W' z f v' (l++[a])/\W.next<=W'.next/\∀A,Le A W->A.next<=lo->Le A W':=by
 have hn:f a=((f a).drop 0).take (1*z):=by rw[List.drop_zero,Nat.one_mul,<-hf a,List.take_length]
 have hl:(f a).length=1*z:=by rw[hf];omega
 rcases h with⟨rfl,rfl⟩|⟨h0,B,i1,i2,rfl,i4⟩
 ·refine⟨_,_,CE (b:=b) (o:=0) (c:=c) hk hc hn hl (by omega) (h1 a) (by omega) (by simpa using hb2),.inr ⟨by simp,W.next,hlo,by rw[AW.add_next];omega,by simp,by rw[AW.get_add];simp⟩,by rw[AW.add_next];omega,λA hA _=>hA.add _⟩
 ·have hpos:0<l.length:=List.length_pos_iff.2 h0;refine⟨_,_,SV (b:=b) (o:=0) (c:=c) hk hc hn hl (by omega) (h1 a) i4 (aR hf l) (by omega) hb2 hpos,.inr ⟨by simp,W.next,hlo,by rw[AW.add_next,AW.kill_next];omega,by simp[AW.kill_next],?_⟩,by rw[AW.add_next,AW.kill_next];omega,λA hA hl=>(hA.kill (by omega)).add _⟩;have:=(W.kill B).get_add (.cells (l.flatMap f++f a));rw[AW.kill_next]at this;rw[this,List.flatMap_append];simp
theorem Lst.row{lo z:Nat}{f:α->List Value}{v:Value}{l:List α}{at_:List Value->Nat->α->Prop}(hf:∀a,(f a).length=z)(h:Lst lo W z f v l)(hat:∀a pre post,at_ (pre++(f a++post)) pre.length a):Row W z at_ v l:=by
 rcases h with⟨rfl,rfl⟩|⟨h0,B,i1,i2,rfl,i4⟩
 ·exact⟨none,0,rfl,.inl rfl⟩
 ·refine⟨_,_,rfl,.inr ⟨B,0,_,rfl,i2,bC i4,λi hi=>?_⟩⟩;have e:l.flatMap f=(l.take i).flatMap f++(f l[i]++(l.drop (i+1)).flatMap f):=by rw[<-List.flatMap_cons,<-List.drop_eq_getElem_cons hi,<-List.flatMap_append,List.take_append_drop]
  have e2:((l.take i).flatMap f).length=0+i*z:=by rw[aR hf,List.length_take];rw[Nat.min_eq_left (by omega),Nat.zero_add]
  rw[e,<-e2];exact hat _ _ _
theorem Lst.one{lo z:Nat}{f:α->List Value}{v:Value}{l:List α}(h:Lst lo W z f v l):one v=true:=by rcases h with⟨_,rfl⟩|⟨_,B,_,_,rfl,_⟩<;>rfl
theorem a8F{W':AW}{z:Nat}{at_:List Value->Nat->α->Prop}{v:Value}{l:List α}(hle:Le W W')(h:Row W' z at_ v l):∃W2,gc W (v,W')=(v,W2)/\Le W W2/\Le W2 W'/\Row W2 z at_ v l:=by
 cases hp:(aX v&& !isU v)
 ·exact⟨W',dV hp,hle,.refl _,h⟩
 ·refine⟨W,rV hp hle,.refl _,hle,?_⟩;obtain⟨a,c,rfl,h⟩:=h;rcases h with h|⟨b,o,cs,rfl,_⟩
  ·exact⟨a,c,rfl,.inl h⟩
  ·exact absurd hp (by simp[aX,jA,bW])
theorem a9q{o t:Option (Value×AW)}{z:Nat}{at_:List Value->Nat->α->Prop}{l:List α}(h:Ok t λr=>Le W r.2/\Row r.2 z at_ r.1 l)(hom:∀{r},t=some r->o=some (gc W r)):∃v W2,o=some (v,W2)/\Le W W2/\Row W2 z at_ v l:=by obtain⟨⟨v,W'⟩,h1,h2,h3⟩:=h;obtain⟨W2,k1,k2,_,k3⟩:=a8F h2 h3;exact⟨v,W2,by rw[hom h1,k1],k2,k3⟩
end
end Go.Eng
namespace Go.Eng
open Go
variable [PlanTab]
section
variable {P:Program} {bad:List Nat} {spec:Callee}
noncomputable def aAG(x:X)(l:Nat)(R:PlanTab.Fr)(nt:Nat)(ps:Array Tmp)(as bd:Code)(W:AW):Value×AW:=match x with
 |.normal=>(.bool true,W.put l (.loop .ready none R nt ps as bd))
 |x=>(.bool false,W.put l (.loop .done x.jump R nt ps as bd))
theorem PL{l nt:Nat}{R:PlanTab.Fr}{ps:Array Tmp}{as bd:Code}{W:AW}{args:List Value}(hl:W.get l=some (.loop .ready none R nt ps as bd))(hn:args.length=ps.size)
 {R1:PlanTab.Fr}{W1:AW}(h1:iI P (om P bad spec) false nt as LT (pW ps.toList args R) W rG=some (.normal,R1,W1))(hk:W1.get l=some (.loop .ready none R nt ps as bd))
 {x2:X}{R2:PlanTab.Fr}{W2:AW}(h2:iI P (om P bad spec) false nt bd LT R1 (W1.put l (.loop .busy none R nt ps as bd)) rG=some (x2,R2,W2))(hk2:W2.get l=some (.loop .busy none R nt ps as bd)):
 om P bad spec (.func (.yield l) #[] #[]) args W=some (aAG x2 l R nt ps as bd W2):=by
 refine a5O hl (by simpa using hn) ?_;unfold RS;rw[show(#[]:Array Value).toList++args=args from rfl,h1];simp only[Option.bind_some,wI,hk,h2,hk2];unfold aAG;cases x2<;>rfl
theorem CO{call:Callee}{i:Nat}{fs cs:Array Value}{obj:AObj}{W W2:AW}{v:Value}(h:call (.func (.func i) fs cs) [.func (.yield W.next) #[] #[]] (W.add obj)=some (v,W2))
 {st:LoopState}{R:PlanTab.Fr}{nt:Nat}{ps:Array Tmp}{as bd:Code}(hg:W2.get W.next=some (.loop st none R nt ps as bd))(hs:st≠ .busy):mP call (.func (.func i) fs cs) obj W=some (.normal,W2.kill W.next):=by
 unfold mP;simp only[h,hg]
theorem M5{call:Callee}{i:Nat}{fs cs:Array Value}{obj:AObj}{W W2:AW}{v:Value}(h:call (.func (.func i) fs cs) [.func (.yield W.next) #[] #[]] (W.add obj)=some (v,W2))
 {x:X}{R:PlanTab.Fr}{nt:Nat}{ps:Array Tmp}{as bd:Code}(hg:W2.get W.next=some (.loop .done x.jump R nt ps as bd)):mP call (.func (.func i) fs cs) obj W=some (x,W2.kill W.next):=by
 unfold mP;simp only[h,hg];cases x<;>rfl
end
end Go.Eng
namespace Go.Eng
open Go Go.RowKit Go.Sort
variable [PlanTab]
def nX(zs:List Int):List Int:=zs.mergeSort λx y=>decide (x<=y)
theorem FH(zs:List Int):(nX zs).length=zs.length:=List.length_mergeSort _
def SortArgs(W:AW)(args:List Value)(W':AW):Prop:=∃b c zs,zs≠[]/\zs.length<1099511627776/\args=[.slice (some ⟨b,0,none⟩) zs.length c]/\W.get b=some (.cells (zs.map (Value.int .i64)))/\W'=W.put b (.cells ((nX zs).map (Value.int .i64)))
theorem HV:∀{a b:List Int},a.map (Value.int .i64)=b.map (Value.int .i64)->a=b
 |[],[],_=>rfl
 |[],_::_,h=>by simp at h
 |_::_,[],h=>by simp at h
 |x::a,y::b,h=>by simp only[List.map_cons,List.cons.injEq,Value.int.injEq,true_and]at h;rw[h.1,HV h.2]
theorem SortArgs.one{W W1 W2:AW}{args:List Value}(h1:SortArgs W args W1)(h2:SortArgs W args W2):W1=W2:=by obtain⟨b,c,zs,_,_,rfl,g1,rfl⟩:=h1;obtain⟨b2,c2,zs2,_,_,e,g2,rfl⟩:=h2;simp only[List.cons.injEq,Value.slice.injEq,Option.some.injEq,Addr.mk.injEq,and_true]at e;obtain⟨rfl,_,_⟩:=e;rw[g1]at g2;simp only[Option.some.injEq,AObj.cells.injEq]at g2;rw[HV g2]
noncomputable def a7R(F:Nat):Callee:=λf args W=>match f with
 |.func (.func g) fs cs=>(match Nat.beq g F&&(fs.isEmpty&&cs.isEmpty)with
  |true=>open Classical in if h:∃W',SortArgs W args W' then some (.tuple #[],Classical.choose h)else none
  |false=>none)
 |_=>none
theorem WRel.growing{σ:bQ}{W:AW}{w:World}(h:WRel σ W w.heap)(os:Array Obj):WRel σ W (Sort.grow w os).heap/\Ext σ W w σ W (Sort.grow w os):=by
 have hold:∀B,B<w.heap.size->(Sort.grow w os).heap[B]? =w.heap[B]? :=λB hB=>heap_grow_old w os hB
 have hsz:w.heap.size<=(Sort.grow w os).heap.size:=by unfold Sort.grow;simp
 exact⟨⟨h.free,λb g hg=>⟨(h.dom b g hg).1,Nat.lt_of_lt_of_le (h.dom b g hg).2 hsz⟩,λb o g hb hg=>(h.obj b o g hb hg).same (hold _ (h.dom b g hg).2),h.disj⟩,
  ⟨.refl _,λ_ _ h=>h,hsz,rfl,rfl,rfl,λB hB _=>hold B hB,λ_ _ h k=>⟨h,k⟩,λb g hg _=>.inl hg⟩⟩
theorem XO{P:Program}{ng:List Nat}{F:Nat}{fn:Func}{body:Code}(hfn:P.funcs[F]? =some fn)(hname:(fn.name== "runtime.NumGoroutine")=false)(hb:fn.body=some body)
 (hsort:∀(blk off cap:Nat) (zs:List Int) (w:World),Holds (Value.int .i64) w blk off zs.toArray->blk<w.heap.size->zs.length<4611686018427387904->
   Calls P F #[.slice (some ⟨blk,off,none⟩) zs.length cap] w λe w'=>e=.returned (.tuple #[])/\∃n os,w'=Sort.grow (putRow (Value.int .i64) (Sort.ahead w n) blk off (nX zs).toArray) os):aW P ng (a7R F):=by
 intro f args W v W' h σ w f' args' hW hG hf hargs;unfold a7R at h;split at h;case h_2=>cases h
 rename_i g fs cs;split at h;case h_2=>cases h
 rename_i hgf;simp only[Bool.and_eq_true,Nat.beq_eq,Array.isEmpty_iff]at hgf;obtain⟨rfl,rfl,rfl⟩:=hgf;split at h;case isFalse=>cases h
 rename_i hx;injection h with h;injection h with h1 h2;subst h1;have hs:=Classical.choose_spec hx;rw[h2]at hs;clear h2 hx;obtain⟨b,c,zs,hne,hlen,rfl,hgb,rfl⟩:=hs;obtain⟨fn',fs',cs',hfr,hfs,hcs,rfl⟩:=hf.func_inv;cases hfr;obtain rfl:fs'=#[]:=by have h1:fs'.toList.length=0:=hfs.1.symm;exact Array.toList_eq_nil_iff.1 (List.length_eq_zero_iff.1 h1)
 obtain rfl:cs'=#[]:=by have h1:cs'.toList.length=0:=hcs.1.symm;exact Array.toList_eq_nil_iff.1 (List.length_eq_zero_iff.1 h1)
 obtain⟨v',rfl,hv⟩:∃v',args'=[v']/\VR σ (.slice (some ⟨b,0,none⟩) zs.length c) v':=by
  obtain⟨hl,hv⟩:=hargs;match args',hl with
  |[v'],_=>exact⟨v',rfl,hv 0 _ _ rfl rfl⟩
 obtain⟨sg,cap',hg,rfl⟩:∃(sg:Seg) (cap':Nat),σ b=some sg/\v'=.slice (some ⟨sg.B,sg.s,none⟩) zs.length cap':=by
  have hpos:0<zs.length:=List.length_pos_iff.2 hne;generalize hl:zs.length=l at hv hpos;cases hv with
  |slice a l c c' g h hs hc=>exact⟨g,c',h,rfl⟩
  |sliceE=>omega
 refine⟨dO hfn hname hb _ w,?_⟩;have e1:(#[]:Array Value)++[Value.slice (some ⟨sg.B,sg.s,none⟩) zs.length cap'].toArray++#[]=#[.slice (some ⟨sg.B,sg.s,none⟩) zs.length cap']:=by simp
 rw[e1];obtain⟨cc,t,fr0,k1,k0,k2,k3,k4⟩:=hW.obj b _ _ hgb hg;have hse:sg.s<sg.e:=by rw[List.length_map]at k2;have:=List.length_pos_iff.2 hne;omega
 obtain rfl:=k0 hse;have hcell:∀j,(hj:j<zs.length)->cc[sg.s+j]? =some (.int .i64 zs[j]):=λj hj=>by obtain⟨u,u1,u2⟩:=k4 j (.int .i64 zs[j]) (by rw[List.getElem?_map,List.getElem?_eq_getElem hj];rfl);cases u2;exact u1
 have hH:Holds (Value.int .i64) w sg.B sg.s zs.toArray:=λj hj=>by
  have hj':j<zs.length:=by simpa using hj
  refine⟨?_,(ORel.cold (hW.obj b _ _ hgb hg) (λ_ hx=>by cases hx) hse rfl)⟩;unfold World.cell?;simp only[k1,hcell j hj',Option.bind_some,Option.isSome_none];rw[getElem!_pos zs.toArray j hj];simp
 have hbl:=(hW.dom b _ hg).2;refine CallsIn.mono (show CallsIn Fence.wide 0 P g _ w _ from(callsIn_wide (n:=0)).2 (hsort sg.B sg.s cap' zs w hH hbl (by omega))) ?_;rintro e w' ⟨rfl,n,os,rfl⟩;have hsl:(nX zs).length=zs.length:=FH zs;have hmod:∀B,B≠sg.B->(putRow (Value.int .i64) (Sort.ahead w n) sg.B sg.s (nX zs).toArray).heap[B]? =w.heap[B]? :=λB hB=>by show(w.heap.modify sg.B _)[B]? =_;rw[Array.getElem?_modify,if_neg (Ne.symm hB)]
 have hat:(putRow (Value.int .i64) (Sort.ahead w n) sg.B sg.s (nX zs).toArray).heap[sg.B]? =some (.cells (putCells (Value.int .i64) sg.s (nX zs).toArray cc) t (0,0)):=by show(w.heap.modify sg.B _)[sg.B]? =_;rw[Array.getElem?_modify,if_pos rfl,k1];rfl
 have hpc:∀i,(putCells (Value.int .i64) sg.s (nX zs).toArray cc)[i]? =(cc[i]?).map λx=>if sg.s<=i/\i<sg.s+(nX zs).toArray.size then Value.int .i64 (nX zs).toArray[i-sg.s]! else x:=λi=>by unfold putCells;rw[Array.getElem?_mapIdx]
 rw[List.length_map]at k2;obtain⟨r1,r2⟩:=hW.write (w':=putRow (Value.int .i64) (Sort.ahead w n) sg.B sg.s (nX zs).toArray) (cs':=(nX zs).map (Value.int .i64)) hgb hg (by show(w.heap.modify _ _).size=_;simp) rfl rfl rfl hmod k1 hat (by unfold putCells;simp)
  (λi hi=>by
    rw[hpc];have:¬(sg.s<=i/\i<sg.s+(nX zs).toArray.size):=by rw[List.size_toArray,hsl];omega
    simp only[this,if_false];cases cc[i]? <;>rfl)
  (by rw[List.length_map,hsl];exact k2)
  (λi v hv=>by
    rw[List.getElem?_map]at hv;have hi:i<(nX zs).length:=by
     rcases Nat.lt_or_ge i (nX zs).length with h|h
     ·exact h
     ·rw[List.getElem?_eq_none h]at hv;cases hv
    rw[List.getElem?_eq_getElem hi]at hv;injection hv with hv;subst hv;refine⟨_,?_,.int _ _⟩;rw[hpc,hcell i (by omega)];have:sg.s<=sg.s+i/\sg.s+i<sg.s+(nX zs).toArray.size:=by rw[List.size_toArray];omega
    simp only[this,and_self,if_true,Option.map_some,Nat.add_sub_cancel_left];rw[getElem!_pos (nX zs).toArray i (by simpa using hi)];simp)
 obtain⟨q1,q2⟩:=r1.growing os;exact⟨_,rfl,σ,.tuple' (.nil),q1,r2.trans q2⟩
end Go.Eng
namespace Go.Eng
open Go
variable [PlanTab]
section
variable {P:Program} {W:AW} {α:Type}
def zN(n:Int):List Value:=[.int .i64 n]
theorem EQ(n:Int):(zN n).length=1:=rfl
theorem UT(n:Int):(zN n).all one=true:=rfl
theorem a0N(n:Int)(pre post:List Value):H9 .i64 (pre++(zN n++post)) pre.length n:=by unfold H9;rw[List.getElem?_append_right (by omega)];simp[zN]
theorem MR:∀l:List Int,l.flatMap zN=l.map (Value.int .i64)
 |[]=>rfl
 |a::l=>by rw[List.flatMap_cons,List.map_cons,MR l];rfl
theorem Lst.ints{lo:Nat}{v:Value}{l:List Int}(h:Lst lo W 1 zN v l):Ints W v l:=h.row EQ a0N
theorem Lst.sort{lo:Nat}{v:Value}{l:List Int}(h:Lst lo W 1 zN v l)(h0:l≠[])(hl:l.length<1099511627776):∃W',SortArgs W [v] W'/\Lst lo W' 1 zN v (nX l)/\W'.next=W.next/\∀A,Le A W->A.next<=lo->Le A W':=by
 rcases h with⟨rfl,_⟩|⟨_,B,h1,h2,rfl,h4⟩
 ·exact absurd rfl h0
 ·refine⟨_,⟨B,_,l,h0,hl,rfl,by rw[h4,MR],rfl⟩,.inr ⟨?_,B,h1,by rw[AW.put_next];exact h2,by rw[FH],by rw[AW.get_put,MR]⟩,AW.put_next _ _ _,λA hA hlo=>hA.put (by omega) _⟩;intro e;have:=FH l;rw[e]at this;exact h0 (List.length_eq_zero_iff.1 this.symm)
theorem a7u{W':AW}{z:Nat}{at_:List Value->Nat->α->Prop}{v:Value}{k:IntKind}{e:Int}{l:List α}(hle:Le W W')(h:Row W' z at_ v l):∃W2,gc W (.tuple #[v,.int k e],W')=(.tuple #[v,.int k e],W2)/\Le W W2/\Le W2 W'/\Row W2 z at_ v l:=by
 obtain⟨a,c,rfl,h⟩:=h;cases a with
 |none=>
  refine⟨W,rV rfl hle,.refl _,hle,none,c,rfl,?_⟩;rcases h with h|⟨b,o,cs,h,_⟩
  ·exact .inl h
  ·cases h
 |some a=>exact⟨W',dV rfl,hle,.refl _,some a,c,rfl,h⟩
theorem a6m{o t:Option (Value×AW)}{z:Nat}{at_:List Value->Nat->α->Prop}{l:List α}{k:IntKind}{e:Int}(h:Ok t λr=>∃v,r.1=.tuple #[v,.int k e]/\Le W r.2/\Row r.2 z at_ v l)(hom:∀{r},t=some r->o=some (gc W r)):
 ∃v W2,o=some (.tuple #[v,.int k e],W2)/\Le W W2/\Row W2 z at_ v l:=by
 obtain⟨⟨u,W'⟩,h1,v,h2,h3,h4⟩:=h;simp only at h2 h3 h4;subst h2;obtain⟨W2,k1,k2,_,k3⟩:=a7u (k:=k) (e:=e) h3 h4;exact⟨v,W2,by rw[hom h1,k1],k2,k3⟩
theorem Row.nil{z:Nat}{at_:List Value->Nat->α->Prop}:Row W z at_ (.slice none 0 0) ([]:List α):=⟨none,0,rfl,.inl rfl⟩
theorem LA(l:List Int)(c:Nat)(W:AW):Ints (W.add (.cells (l.map (Value.int .i64)))) (.slice (some ⟨W.next,0,none⟩) l.length c) l:=
 ⟨_,_,rfl,.inr ⟨W.next,0,_,rfl,by rw[AW.add_next];omega,dI,λi hi=>by unfold H9;rw[Nat.zero_add,Nat.mul_one,List.getElem?_map,List.getElem?_eq_getElem hi];rfl⟩⟩
end
end Go.Eng
namespace Go.Eng
open Go
variable [PlanTab]
def zM(l:List (Int×Value×Nat)):List MapEntry:=l.map λp=>{key:=.int .i64 p.1,val:=p.2.1,born:=p.2.2}
def P9:List (Int×Value×Nat)->Int->Option Value
 |[],_=>none
 |p::l,k=>if k=p.1 then some p.2.1 else P9 l k
def BN:List (Int×Value×Nat)->Int->Nat->Option (Nat×Value)
 |[],_,_=>none
 |p::l,k,i=>if k=p.1 then some (i,p.2.1)else BN l k (i+1)
theorem R5(l:List (Int×Value×Nat))(k:Int):∀i,Instr.findNow (.int .i64) (.int .i64 k) (zM l) i=some (BN l k i):=by
 induction l with
 |nil=>intro i;rfl
 |cons p l ih=>
  intro i;show(match Instr.sameNow (.int .i64) (.int .i64 k) (.int .i64 p.1)with|some true=>some (some (i,p.2.1))|some false=>Instr.findNow (.int .i64) (.int .i64 k) (zM l) (i+1)|none=>none)=_;unfold BN;by_cases h:k=p.1
  ·have:Instr.sameNow (.int .i64) (.int .i64 k) (.int .i64 p.1)=some true:=by simp[Instr.sameNow,h]
   rw[this,if_pos h]
  ·have:Instr.sameNow (.int .i64) (.int .i64 k) (.int .i64 p.1)=some false:=by simp[Instr.sameNow,h]
   rw[this,if_neg h];exact ih (i+1)
theorem QY(l:List (Int×Value×Nat))(k:Int):∀i,P9 l k=(BN l k i).map (·.2):=by
 induction l with
 |nil=>intro i;rfl
 |cons p l ih=>
  intro i;unfold P9 BN;by_cases h:k=p.1
  ·rw[if_pos h,if_pos h];rfl
  ·rw[if_neg h,if_neg h];exact ih (i+1)
def nY(l:List (Int×Value×Nat)):List Int:=l.map (·.1)
theorem WJ{l:List (Int×Value×Nat)}{k:Int}(h:k∉nY l):P9 l k=none:=by
 induction l with
 |nil=>rfl
 |cons p l ih=>unfold nY at h;rw[List.map_cons,List.mem_cons,not_or]at h;unfold P9;rw[if_neg h.1];exact ih h.2
theorem GI{k:Int}{v:Value}:∀{l:List (Int×Value×Nat)} {i j:Nat},(nY l).Nodup->BN l k i=some (j,v)->i<=j/\(∃b,l[j-i]? =some (k,v,b)/\∀v' k',P9 (l.set (j-i) (k,v',b)) k'=if k'=k then some v' else P9 l k')/\
 (∀k',P9 (l.eraseIdx (j-i)) k'=if k'=k then none else P9 l k')/\(nY (l.eraseIdx (j-i))).Nodup/\(l.eraseIdx (j-i)).length+1=l.length/\∀v' b,nY (l.set (j-i) (k,v',b))=nY l
 |[],i,j,_,h=>by cases h
 |p::l,i,j,hn,h=>by
  unfold BN at h;have hn0:p.1∉nY l/\(nY l).Nodup:=List.nodup_cons.1 hn;by_cases hk:k=p.1
  ·rw[if_pos hk]at h;injection h with h;injection h with h1 h2;subst h1;rw[Nat.sub_self];refine⟨Nat.le_refl _,⟨p.2.2,by rw[hk,<-h2];rfl,λv' k'=>?_⟩,λk'=>?_,hn0.2,rfl,λv' b=>by rw[List.set_cons_zero];simp[nY,hk]⟩
   ·rw[List.set_cons_zero];unfold P9;rw[<-hk];by_cases hk':k'=k
    ·rw[if_pos hk',if_pos hk']
    ·rw[if_neg hk',if_neg hk',if_neg hk']
   ·show P9 l k'=_;by_cases hk':k'=k
    ·rw[if_pos hk',hk',hk];exact WJ hn0.1
    ·rw[if_neg hk'];conv=>rhs;unfold P9
     rw[if_neg (λe=>hk' (e.trans hk.symm))]
  ·rw[if_neg hk]at h;obtain⟨h1,⟨b,h2,h3⟩,h4,h5,h6,h7⟩:=GI hn0.2 h;have e:j-i=(j-(i+1))+1:=by omega
   rw[e];refine⟨by omega,⟨b,by rw[List.getElem?_cons_succ];exact h2,λv' k'=>?_⟩,λk'=>?_,?_,?_,λv' b=>?_⟩
   ·rw[List.set_cons_succ];unfold P9;by_cases hp:k'=p.1
    ·have:¬k'=k:=λx=>hk (x.symm.trans hp)
     rw[if_pos hp,if_neg this,if_pos hp]
    ·rw[if_neg hp,h3,if_neg hp]
   ·rw[List.eraseIdx_cons_succ];unfold P9;by_cases hp:k'=p.1
    ·have:¬k'=k:=λx=>hk (x.symm.trans hp)
     rw[if_pos hp,if_neg this,if_pos hp]
    ·rw[if_neg hp,h4,if_neg hp]
   ·rw[List.eraseIdx_cons_succ];refine List.nodup_cons.2 ⟨λhm=>hn0.1 ?_,h5⟩;unfold nY at hm|-;obtain⟨x,hx,hxe⟩:=List.mem_map.1 hm;exact List.mem_map.2 ⟨x,List.mem_of_mem_eraseIdx hx,hxe⟩
   ·rw[List.eraseIdx_cons_succ,List.length_cons,List.length_cons,h6]
   ·rw[List.set_cons_succ];show p.1::nY _=p.1::nY l;rw[h7]
theorem FJ{k:Int}:∀{l:List (Int×Value×Nat)} {i:Nat},BN l k i=none->k∉nY l/\∀v b k',P9 (l++[(k,v,b)]) k'=if k'=k then some v else P9 l k'
 |[],i,_=>⟨by simp[nY],λv b k'=>by simp[P9]⟩
 |p::l,i,h=>by
  unfold BN at h;by_cases hk:k=p.1
  ·rw[if_pos hk]at h;cases h
  ·rw[if_neg hk]at h;obtain⟨h1,h2⟩:=FJ h;refine⟨?_,λv b k'=>?_⟩
   ·unfold nY;rw[List.map_cons,List.mem_cons,not_or];exact⟨hk,h1⟩
   ·rw[List.cons_append];unfold P9;by_cases hp:k'=p.1
    ·have:¬k'=k:=λx=>hk (x.symm.trans hp)
     rw[if_pos hp,if_neg this,if_pos hp]
    ·rw[if_neg hp,h2,if_neg hp]
theorem VX{α β:Type}(f:α->β):∀(l:List α) (i:Nat),(l.map f).eraseIdx i=(l.eraseIdx i).map f
 |[],_=>by simp
 |a::l,0=>rfl
 |a::l,i+1=>by rw[List.map_cons,List.eraseIdx_cons_succ,List.eraseIdx_cons_succ,List.map_cons,VX f l i]
def MapV(W:AW)(r:Nat)(m:Int->Option Value)(n:Nat):Prop:=∃l c,W.get r=some (.map (zM l) c)/\(nY l).Nodup/\l.length=n/\∀k,P9 l k=m k
section
variable {P:Program} {W:AW} {r:Nat} {m:Int->Option Value} {n:Nat} {t kt e:TypeId}
theorem YL(l:List (Int×Value×Nat)):gW (zM l)=true:=by unfold gW zM;rw[List.all_map,List.all_eq_true];intro p _;rfl
theorem yB(hk:P.underlying kt=some (.int .i64))(empty:Bool)(k:Int):yM P empty kt (.int .i64 k)=true:=by
 unfold yM;have:bG P (Instr.checkKey empty 10000 kt (.int .i64 k))=some ():=by unfold Instr.checkKey;simp only[dX,fT hk,Option.bind_some];rfl
 rw[this];rfl
theorem uO(hk:P.underlying kt=some (.int .i64))(l:List (Int×Value×Nat))(k:Int):BL P kt (.int .i64 k) (zM l)=some (BN l k 0):=by unfold BL a4S;have hp:aX (.int .i64 k)=true/\gW (zM l)=true:=⟨rfl,YL l⟩;simp only[if_pos hp,hk,R5]
theorem FP(h:MapV W r m n)(ht:P.underlying t=some (.map kt e))(hk:P.underlying kt=some (.int .i64)){z:Value}(hz:kR P e=some z)(k:Int):CS P t (.map (some r)) (.int .i64 k) true W=some (.tuple #[(m k).getD z,.bool (m k).isSome],W):=by
 obtain⟨l,c,hg,hn,hl,hm⟩:=h;unfold CS rH;simp only[ht,hg,yB hk,if_true,uO hk];rw[<-hm k,QY l k 0];unfold GA;cases BN l k 0 with
 |none=>simp only[hz];rfl
 |some q=>rfl
theorem XR(h:MapV W r m n)(ht:P.underlying t=some (.map kt e))(hk:P.underlying kt=some (.int .i64))(k:Int)(v:Value):∃es c,oN P t (.map (some r)) (.int .i64 k) v W=some (undef,W.put r (.map es c))/\MapV (W.put r (.map es c)) r (λx=>if x=k then some v else m x) (if(m k).isSome then n else n+1):=by
 obtain⟨l,c,hg,hn,hl,hm⟩:=h;have hmk:m k=(BN l k 0).map (·.2):=by rw[<-hm k,QY l k 0]
 cases hf:BN l k 0 with
 |none=>
  obtain⟨h1,h2⟩:=FJ hf;rw[hf]at hmk;refine⟨zM (l++[(k,v,c)]),c+1,?_,l++[(k,v,c)],c+1,AW.get_put _ _ _,?_,?_,λx=>by rw[h2,hm]⟩
  ·unfold oN l7;simp only[ht,hg,yB hk,if_true,uO hk,hf,Option.map_none,Option.map_some];unfold zM;rw[List.map_append];rfl
  ·unfold nY at h1 hn|-;rw[List.map_append,List.nodup_append];refine⟨hn,by simp,λa ha b hb hab=>?_⟩;simp only[List.map_cons,List.map_nil,List.mem_singleton]at hb;subst hb;subst hab;exact h1 ha
  ·rw[hmk];simp[hl]
 |some q=>
  obtain⟨j,v0⟩:=q;obtain⟨_,⟨b,h2,h3⟩,-,-,-,h7⟩:=GI hn hf;rw[Nat.sub_zero]at h2 h3 h7;rw[hf]at hmk;refine⟨zM (l.set j (k,v,b)),c,?_,l.set j (k,v,b),c,AW.get_put _ _ _,by rw[h7];exact hn,by rw[hmk];simp[hl],λx=>by rw[h3,hm]⟩;have he:(zM l)[j]? =some {key:=.int .i64 k,val:=v0,born:=b}:=by unfold zM;rw[List.getElem?_map,h2];rfl
  have hs:Instr.sameBits 10000 (.int .i64 k) (.int .i64 k)=true:=by unfold Instr.sameBits;simp
  have hpl:aX (.int .i64 k)=true:=rfl;unfold oN l7;simp only[ht,hg,yB hk,if_true,uO hk,hf,Option.map_some,he,hs,hpl,and_self];unfold zM;rw[List.map_set]
theorem XM(h:MapV W r m n)(ht:P.underlying t=some (.map kt e))(hk:P.underlying kt=some (.int .i64))(ts:List TypeId)(k:Int):∃es c,rA P W (t::ts).toArray (.map (some r)) (.int .i64 k)=some (W.put r (.map es c))/\MapV (W.put r (.map es c)) r (λx=>if x=k then none else m x) (if(m k).isSome then n-1 else n):=by
 obtain⟨l,c,hg,hn,hl,hm⟩:=h;have hmk:m k=(BN l k 0).map (·.2):=by rw[<-hm k,QY l k 0]
 cases hf:BN l k 0 with
 |none=>
  obtain⟨h1,-⟩:=FJ hf;rw[hf]at hmk;refine⟨zM l,c,?_,l,c,AW.get_put _ _ _,hn,by rw[hmk];simp[hl],λx=>?_⟩
  ·unfold rA;simp only[ht,hg,yB hk,if_true,uO hk,hf]
  ·show P9 l x=if x=k then none else m x
   by_cases hx:x=k
   ·rw[if_pos hx,hx,WJ h1]
   ·rw[if_neg hx,hm]
 |some q=>obtain⟨j,v0⟩:=q;obtain⟨_,-,h4,h5,h6,-⟩:=GI hn hf;rw[Nat.sub_zero]at h4 h5 h6;rw[hf]at hmk;refine⟨zM (l.eraseIdx j),c,?_,l.eraseIdx j,c,AW.get_put _ _ _,h5,by rw[hmk];simp;omega,λx=>by rw[h4,hm]⟩;unfold rA;simp only[ht,hg,yB hk,if_true,uO hk,hf];unfold zM;rw[VX]
theorem mapV_new:MapV (W.add (.map [] 0)) W.next (λ_=>none) 0:=⟨[],0,AW.get_add _ _,by simp[nY],rfl,λk=>rfl⟩
theorem MapV.keep{W':AW}(h:MapV W r m n)(hg:W'.get r=W.get r):MapV W' r m n:=by obtain⟨l,c,h1,h2⟩:=h;exact⟨l,c,hg.trans h1,h2⟩
end
end Go.Eng
namespace Go.Mono
open Go
def rw'{α:Type}:Result α->World
 |.ok _ w=>w
 |.halt _ w=>w
theorem ZF{α:Type}:∀(a:Ask α) (w:World),w.drawn<=(w.ask a).2.drawn
 |.done a,w=>Nat.le_refl _
 |.ask what range k,w=>by
  unfold World.ask;simp only;split
  ·exact ZF (k 0) w
  ·exact Nat.le_trans (Nat.le_succ _) (ZF (k _) {w with drawn:=w.drawn+1})
theorem a5u(w:World)(c:Sys):w.drawn<=(w.sys c).2.drawn:=by
 unfold World.sys;have h:=ZF (Kernel.perform c w.os) w;split
 ·exact Nat.le_refl _
 ·rename_i r os w1 _ e;rw[e]at h;exact h
theorem JK{p:Program}{w w':World}{at_:Addr}{u:TypeId}{k:Addr}{v:Value}{atomic:Bool}{l:List Addr}(h:w.viewStore p at_ u k v atomic=.ok (w',l)):w'.drawn=w.drawn:=by
 unfold World.viewStore at h;simp only[bind,Except.bind,pure,Except.pure,throw,throwThe,MonadExceptOf.throw]at h;repeat' (split at h)
 all_goals first
  |(cases h;done)
  |(simp only[Except.ok.injEq,Prod.mk.injEq]at h;rw[<-h.1])
  |skip
theorem yC{p:Program}{w w':World}{a:Addr}{v:Value}{atomic:Bool}{l:List Addr}(h:w.farStore p a v atomic=.ok (w',l)):w'.drawn=w.drawn:=by
 unfold World.farStore at h;split at h
 ·split at h
  ·rename_i r e;injection h with h;subst h;exact JK e
  ·cases h
 ·cases h
theorem EZ(w:World)(a:Addr)(n:Nat):(w.freeze a n).drawn=w.drawn:=by unfold World.freeze;split<;>rfl
theorem a8S{α:Type}(p:Program):∀(s:Sem α) (w:World),w.drawn<=(rw' (s.run p w)).drawn:=by
 intro s;induction s with
 |pure a=>intro w;exact Nat.le_refl _
 |load m a k ih=>
  intro w;unfold Sem.run;split
  ·exact ih _ w
  ·split
   ·exact ih _ w
   ·exact Nat.le_refl _
 |store m a v k ih=>
  intro w;unfold Sem.run;split;all_goals first|exact Nat.le_refl _|(rename_i e;cases e)
  split
  ·split
   ·exact Nat.le_refl _
   ·exact ih (World.setCell _ _ _)
  ·split
   ·rename_i w1 _ e;have:=ih w1;rw[yC e]at this;exact this
   ·exact Nat.le_refl _
 |new o k ih=>intro w;exact ih _ {w with heap:=w.heap.push o}
 |shape r k ih=>intro w;exact ih _ w
 |freeze a n k ih=>intro w;have:=ih (w.freeze a n);rw[EZ]at this;exact this
 |frozen a k ih=>intro w;exact ih _ w
 |getObj r k ih=>
  intro w;unfold Sem.run;split
  ·exact Nat.le_refl _
  ·exact ih _ w
  ·exact Nat.le_refl _
 |setObj r o k ih=>
  intro w;unfold Sem.run;split
  ·exact Nat.le_refl _
  ·exact ih {w with heap:=w.heap.setIfInBounds r o}
  ·exact Nat.le_refl _
 |choose q k ih=>
  intro w;unfold Sem.run;split
  ·exact ih 0 w
  ·exact Nat.le_trans (Nat.le_succ _) (ih _ {w with drawn:=w.drawn+1})
 |sys c k ih=>intro w;exact Nat.le_trans (a5u w c) (ih _ (w.sys c).2)
 |program k ih=>intro w;exact ih _ w
 |mark m k ih=>intro w;exact ih w
 |halt h=>intro w;exact Nat.le_refl _
theorem a7n{α:Type}(p:Program):∀(s:Sem α) (w:World) (es:Array Event),w.drawn<=(rw' (s.runT p w es).1).drawn:=by
 intro s;induction s with
 |pure a=>intro w es;exact Nat.le_refl _
 |load m a k ih=>
  intro w es;unfold Sem.runT;split
  ·exact ih _ w _
  ·split
   ·exact ih _ w _
   ·exact Nat.le_refl _
 |store m a v k ih=>
  intro w es;unfold Sem.runT;split;all_goals first|exact Nat.le_refl _|(rename_i e;cases e)
  split
  ·split
   ·exact Nat.le_refl _
   ·exact ih (World.setCell _ _ _) _
  ·split
   ·rename_i w1 _ e;have:=ih w1;rw[yC e]at this;exact this _
   ·exact Nat.le_refl _
 |new o k ih=>intro w es;exact ih _ {w with heap:=w.heap.push o} _
 |shape r k ih=>intro w es;exact ih _ w _
 |freeze a n k ih=>intro w es;have:=ih (w.freeze a n) es;rw[EZ]at this;exact this
 |frozen a k ih=>intro w es;exact ih _ w _
 |getObj r k ih=>
  intro w es;unfold Sem.runT;split
  ·exact Nat.le_refl _
  ·exact ih _ w _
  ·exact Nat.le_refl _
 |setObj r o k ih=>
  intro w es;unfold Sem.runT;split
  ·exact Nat.le_refl _
  ·exact ih {w with heap:=w.heap.setIfInBounds r o} _
  ·exact Nat.le_refl _
 |choose q k ih=>
  intro w es;unfold Sem.runT;split
  ·exact ih 0 w _
  ·exact Nat.le_trans (Nat.le_succ _) (ih _ {w with drawn:=w.drawn+1} _)
 |sys c k ih=>intro w es;exact Nat.le_trans (a5u w c) (ih _ (w.sys c).2 _)
 |program k ih=>intro w es;exact ih _ w _
 |mark m k ih=>intro w es;exact ih w _
 |halt h=>intro w es;exact Nat.le_refl _
def GGe(n:Nat):GStep->Prop
 |.go _ w _|.comm _ _ _ _ w _|.spawn _ _ w _|.count _ w _|.timer _ _ w _|.alone _ _ w _|.newcoro _ _ _ w _|.coroswitch _ _ _ w _|.collect _ w _|.watch _ w _=>n<=w.drawn
 |.ended _ _ _=>True
theorem GGe.after{n:Nat}{es:Array Event}{g:GStep}(h:GGe n g):GGe n (g.after es):=by cases g<;>exact h
theorem a0C(n:Nat)(w:World)(fd:Nat)(t:ByteArray)(o:Outcome):GGe n (endWith w fd t o):=by
 unfold endWith;simp only;repeat' split
 all_goals trivial
theorem xO{n:Nat}{w:World}(h:n<=w.drawn)(p:Program)(fr:Frame)(v:Value):GGe n (endPrinting p fr v w):=by
 unfold endPrinting;simp only;split
 ·exact h
 ·trivial
theorem YI{α:Type}{n:Nat}{p:Program}{s:Sem α}{w:World}(h:n<=w.drawn):n<=(rw' (s.run p w)).drawn:=Nat.le_trans h (a8S p s w)
theorem RA{α:Type}{n:Nat}{p:Program}{s:Sem α}{w:World}{es:Array Event}(h:n<=w.drawn):n<=(rw' (s.runT p w es).1).drawn:=Nat.le_trans h (a7n p s w es)
theorem pV{α:Type}{n:Nat}{p:Program}{s:Sem α}{w w':World}{a:α}(h:n<=w.drawn)(e:s.run p w=.ok a w'):n<=w'.drawn:=by have:=YI (p:=p) (s:=s) h;rw[e]at this;exact this
theorem a6t{α:Type}{n:Nat}{p:Program}{s:Sem α}{w w':World}{a:Halt}(h:n<=w.drawn)(e:s.run p w=.halt a w'):n<=w'.drawn:=by have:=YI (p:=p) (s:=s) h;rw[e]at this;exact this
theorem ZB{α:Type}{n:Nat}{p:Program}{s:Sem α}{w:World}{es es':Array Event}{r:Result α}(h:n<=w.drawn)(e:s.runT p w es=(r,es')):n<=(rw' r).drawn:=by have:=RA (p:=p) (s:=s) (es:=es) h;rw[e]at this;exact this
theorem I5{n:Nat}{w:World}(h:n<=w.drawn)(p:Program)(fr:Frame)(callers:List Frame)(dying:Option Dying)(m:String):GGe n (endFatal p fr callers dying m w):=by
 unfold endFatal;simp only;split
 ·rename_i e;have:=pV h e;exact this
 ·trivial
 ·trivial
theorem ZO{n:Nat}{w:World}(h:n<=w.drawn)(p:Program)(fr:Frame)(d:Dying)(f:Fatal):GGe n (writeOn p fr d f w):=by
 unfold writeOn;simp only;split
 ·trivial
 ·split
  ·rename_i e;have:=ZB h e;exact this
  ·rename_i e;have:=ZB h e;exact this
  ·trivial
  ·trivial
theorem a8w{n:Nat}{w:World}(h:n<=w.drawn)(p:Program)(fr:Frame)(d:Dying):GGe n (die p fr d w):=by
 unfold die;split
 ·exact ZO h p fr d _
 ·split
  ·split
   ·exact h
   ·exact a0C _ _ _ _ _
  ·simp only;split
   ·exact h
   ·split
    ·rename_i e;have:=pV h e;exact this
    ·trivial
   ·refine GGe.after ?_;generalize hx:Sem.runT p _ w #[]=x;obtain⟨r,es⟩:=x;have:=ZB h hx;simp only at this|-;split
    ·exact this
    ·exact this
    ·trivial
    ·exact xO this p fr _
    ·trivial
   ·trivial
theorem xD{n:Nat}{w:World}(h:n<=w.drawn)(p:Program)(main:Bool)(fr:Frame)(callers:List Frame)(dying:Option Dying)(v:Value):GGe n (doReturn p main fr callers dying v w):=by
 unfold doReturn;repeat' split
 all_goals first|exact h|trivial
theorem GG{n:Nat}{c:Prop}[Decidable c]{a b:GStep}(ha:GGe n a)(hb:GGe n b):GGe n (if c then a else b):=by split<;>assumption
theorem JJ{n:Nat}{w:World}(h:n<=w.drawn)(p:Program)(fr:Frame)(callers:List Frame)(dying:Option Dying)(d:Deferred):GGe n (callDeferred p fr callers dying d w):=by
 unfold callDeferred;refine GG trivial ?_
 ·simp only;refine GGe.after ?_;generalize hx:Sem.runT p _ w #[]=x;obtain⟨r,es⟩:=x;have:=ZB h hx;simp only at this|-;split;all_goals first|exact this|trivial|exact I5 this _ _ _ _ _|skip
  split<;>exact this
theorem a1Q{n:Nat}{w:World}(h:n<=w.drawn)(p:Program)(main:Bool)(fr:Frame)(callers:List Frame)(dying:Option Dying):GGe n (unwind p main fr callers dying w):=by
 unfold unwind;split
 ·simp only;refine GGe.after ?_;generalize hx:Sem.runT p _ w #[]=x;obtain⟨r,es⟩:=x;have:=ZB h hx;simp only at this|-;split
  ·exact this
  ·trivial
 ·exact JJ h _ _ _ _ _
 ·split
  ·trivial
  ·split
   ·trivial
   ·split
    ·exact h
    ·split
     ·split
      ·exact h
      ·split
       ·rename_i e;have:=pV h e;exact this
       ·trivial
       ·trivial
     ·split
      ·exact xO h _ _ _
      ·trivial
  ·split
   ·exact xD h _ _ _ _ _ _
   ·simp only;refine GGe.after ?_;generalize hx:Sem.runT p _ w #[]=x;obtain⟨r,es⟩:=x;have:=ZB h hx;simp only at this|-;split
    ·exact xD this _ _ _ _ _ _
    ·trivial
    ·trivial
theorem a4D{n:Nat}{w:World}(h:n<=w.drawn)(p:Program)(fr:Frame)(callers:List Frame)(dying:Option Dying)(g:Nat):GGe n (early p fr callers dying g w):=by
 have hn:∀w':World,n<=w'.drawn->GGe n (match w'.heap[g]? with
  |some (.pending c elem)=>(.go {frame:=fr,callers,status:=.running,dying} {w' with heap:=w'.heap.setIfInBounds g (.cells c elem)}:GStep)
  |_=>.ended (.stuck "early: the variable does not wait" (fr.pos p)) w'):=by
  intro w' h';split
  ·exact h'
  ·trivial
 unfold early;simp only;split
 ·exact hn w h
 ·split
  ·trivial
  ·split
   ·exact hn w h
   ·split
    ·exact hn w h
    ·split
     ·trivial
     ·exact h
     ·trivial
     ·exact hn w h
     ·split
      ·exact h
      ·split
       ·exact hn w h
       ·split
        ·rename_i e;have:=pV h e;exact hn _ this
        ·rename_i e;have:=pV h e;exact this
        ·trivial
theorem EP{n:Nat}{w:World}(h:n<=w.drawn)(p:Program)(listen:Bool)(fr:Frame)(callers:List Frame)(dying:Option Dying)(s:Sem Next):GGe n (stepG.apply p listen fr callers dying s w):=by
 unfold stepG.apply;simp only;generalize hx:(if listen=true then s.runT p w #[]else(s.run p w,#[]))=x;obtain⟨r,es⟩:=x;have h1:n<=(rw' r).drawn:=by
  split at hx
  ·exact ZB h hx
  ·injection hx with e1 e2;subst e1;exact YI h
 simp only;refine GGe.after ?_;clear hx h;split;all_goals first|exact h1|trivial|exact I5 h1 _ _ _ _ _|exact a4D h1 _ _ _ _ _|skip
 all_goals first
  |(split<;>exact h1)
  |(refine GG ?_ ?_<;>exact h1)
theorem a6S{n:Nat}{w:World}(h:n<=w.drawn)(p:Program)(listen:Bool)(fr:Frame)(callers:List Frame)(dying:Option Dying):GGe n (stepG.oper p listen fr callers dying w):=by
 unfold stepG.oper;split
 ·trivial
 ·split<;>exact EP h _ _ _ _ _ _
theorem a3f{α:Type}{n:Nat}{p:Program}{s:Sem α}{w:World}{es:Array Event}{r:Result α}(h:n<=w.drawn)(e:(s.runT p w es).fst=r):n<=(rw' r).drawn:=by rw[<-e];exact RA h
theorem F5{n:Nat}{w:World}(h:n<=w.drawn)(p:Program)(main:Bool)(fr:Frame)(callers:List Frame)(dying:Option Dying)(s:Sem Value)(o:Outcome)(es:Array Event):
 GGe n (GStep.after es (match(s.runT p w #[]).fst with
  |.ok v w=>doReturn p main fr callers dying v w
  |.halt _ w=>.ended o w)):=by
 refine GGe.after ?_;have:=RA (p:=p) (s:=s) (es:=#[]) h;generalize(s.runT p w #[]).fst=r at this;split
 ·exact xD this _ _ _ _ _ _
 ·trivial
theorem a7o{n:Nat}{w:World}(h:n<=w.drawn)(p:Program)(main listen:Bool)(fr:Frame)(callers:List Frame)(dying:Option Dying):GGe n (stepG.exec p main listen fr callers dying w):=by
 unfold stepG.exec;simp only;split;all_goals first|exact h|trivial|exact EP h _ _ _ _ _ _|skip
 ·split
  ·exact GG h trivial
  ·exact F5 h _ _ _ _ _ _ _ _
 ·split
  ·exact GG h trivial
  ·exact F5 h _ _ _ _ _ _ _ _
 ·split
  ·exact h
  ·trivial
 ·cases exitTo _ _ with
  |none=>
   simp only[Option.elim];split
   ·exact GG h trivial
   ·exact F5 h _ _ _ _ _ _ _ _
  |some k=>exact h
 ·cases gotoIn _ _ with
  |none=>
   simp only[Option.elim];split
   ·exact GG h trivial
   ·exact F5 h _ _ _ _ _ _ _ _
  |some k=>exact h
 ·refine GGe.after ?_;generalize hr:(Sem.runT p _ w #[]).fst=r;have:=a3f h hr;split
  ·exact EP this _ _ _ _ _ _
  ·trivial
 ·refine GGe.after ?_;generalize hr:(Sem.runT p _ w #[]).fst=r;have:=a3f h hr;split
  ·exact this
  ·exact this
  ·trivial
 ·cases Extern.next _ with
  |none=>trivial
  |some e=>exact EP h _ _ _ _ _ _
 ·split
  ·exact h
  ·split
   ·rename_i e;exact pV h e
   ·trivial
 ·split
  ·exact a6S h _ _ _ _ _
  ·exact h
theorem a5N{n:Nat}{w:World}(h:n<=w.drawn)(p:Program)(main:Bool)(g:Goroutine)(listen:Bool):GGe n (stepG p main g w listen):=by
 unfold stepG;simp only;split
 ·exact a8w h _ _ _
 ·exact a7o h _ _ _ _ _ _
 ·exact a1Q h _ _ _ _ _
def SGe(n:Nat):Stepped->Prop
 |.next m=>n<=m.world.drawn
 |.ended _ _=>True
theorem ME{n:Nat}{w:World}(h:n<=w.drawn)(p:Program)(rest:Rest)(gs:Array Goroutine)(i:Nat)(g:Goroutine)(cases:Array CommCase)(blocking:Bool)(shape:CommShape):SGe n (communicate p rest gs i g cases blocking shape w).1:=by
 unfold communicate;simp only;split
 ·trivial
 ·split
  ·split
   ·split
    ·rename_i e;unfold waitingAt at e;split at e
     ·split at e
      ·injection e with e;subst e;exact h
      ·cases e
     ·injection e with e;subst e;exact h
    ·trivial
   ·exact h
  ·split
   ·trivial
   ·rename_i e;have:=pV h e;clear e;split
    ·split
     ·rename_i e;exact a6t this e
     ·trivial
    ·exact this
    ·exact this
    ·split
     ·exact this
     ·split
      ·rename_i e;have h2:=pV this e;exact h2
      ·trivial
    ·exact this
    ·exact this
    ·trivial
theorem R7{n:Nat}{w:World}(h:n<=w.drawn)(p:Program)(gs:Array Goroutine)(rest:Rest):SGe n (look p gs rest w):=by
 unfold look;simp only;split
 ·split
  ·trivial
  ·split
   ·trivial
   ·split
    ·rename_i e;have h2:=pV h e;exact h2
    ·trivial
    ·trivial
 ·trivial
theorem a5b{n:Nat}(p:Program)(m:Machine)(k:Nat)(h:n<=m.world.drawn):SGe n (serve p m k):=by
 unfold serve;split
 ·trivial
 ·exact h
 ·simp only;split
  ·trivial
  ·exact h
theorem X4(w:World)(c:Nat):(drain w c).2.drawn=w.drawn:=by unfold drain;split<;>rfl
theorem DD(m:Machine)(k:Nat)(t:Timer)(a b:Nat):(retime m k t a b).2.world.drawn=m.world.drawn:=by
 unfold retime;simp only;split
 ·exact X4 _ _
 ·rfl
theorem NW{m m':Machine}{op:TimerOp}{v:Value}(h:timerOp m op=.ok (v,m')):m'.world.drawn=m.world.drawn:=by
 unfold timerOp at h;split at h
 ·split at h
  ·injection h with h;injection h with _ h;subst h;rfl
  ·split at h
   ·split at h
    ·cases h
    ·injection h with h;injection h with _ h;subst h;rfl
   ·cases h
 ·unfold timerOp.named at h;split at h
  ·injection h with h;have h0:=congrArg (λx=>x.2.world.drawn) h;exact h0.symm.trans (DD _ _ _ _ _)
  ·cases h
 ·split at h
  ·rename_i m1 e;have h1:m1.world.drawn=m.world.drawn:=by
    unfold timerOp.opened at e;split at e
    ·split at e
     ·injection e with e;subst e;rfl
     ·cases e
    ·injection e with e;subst e;rfl
   unfold timerOp.named at h;split at h
   ·injection h with h;have h0:=congrArg (λx=>x.2.world.drawn) h;exact(h0.symm.trans (DD _ _ _ _ _)).trans h1
   ·cases h
  ·cases h
 ·injection h with h;injection h with _ h;subst h;rfl
theorem a6Q{n:Nat}{m:Machine}(h:n<=m.world.drawn)(p:Program)(i:Nat)(listen:Bool):SGe n (runT p m i listen).1:=by
 unfold runT;simp only;generalize hs:stepG p _ _ _ _=s;have hg:GGe n s:=by rw[<-hs];exact a5N h _ _ _ _
 clear hs;cases s with
 |ended o w es=>trivial
 |comm g cases blocking shape w es=>exact ME (w:=w) hg _ _ _ _ _ _ _ _
 |go g w es=>exact hg
 |spawn g child w es=>exact hg
 |count g w es=>
  simp only;split
  ·trivial
  ·exact hg
 |alone g on w es=>exact hg
 |collect g w es=>exact R7 (w:=w) hg _ _ _
 |watch g w es=>exact hg
 |newcoro g c d w es=>exact hg
 |coroswitch g c exit w es=>
  have hg':n<=w.drawn:=hg;simp only;split
  ·exact hg'
  ·exact hg'
  ·trivial
 |timer g op w es=>
  have hg':n<=w.drawn:=hg;simp only;split
  ·rename_i e;have:=NW e;show n<=_;rw[this];exact hg'
  ·exact hg'
  ·trivial
  ·trivial
def MGe(n:Nat):Move->Prop
 |.goroutine m _=>n<=m.world.drawn
 |.machine s _=>SGe n s
theorem NH{n:Nat}{m:Machine}(h:n<=m.world.drawn)(p:Program):MGe n (askOn p m):=by
 have hp:∀m':Machine,n<=m'.world.drawn->MGe n (match(choose (.sched (runnable m.gs m.world.os.mono).length)).run p m'.world with
  |.halt _ w=>.machine (.ended (.stuck "sched" "") w)
  |.ok k world=>
   if(runnable m.gs m.world.os.mono).length<=1 then .goroutine {m' with world} ((runnable m.gs m.world.os.mono).getD k 0)else
   match(choose (.extern "sched.slice" 65536)).run p world with
   |.halt _ w=>.machine (.ended (.stuck "sched.slice" "") w)
   |.ok j world=>.goroutine {m' with world,rest:={m'.rest with slice:=if j=0 then none else some ((runnable m.gs m.world.os.mono).getD k 0,j)}} ((runnable m.gs m.world.os.mono).getD k 0)):=by
  intro m' h';split
  ·trivial
  ·rename_i e;have h1:=pV h' e;split
   ·exact h1
   ·split
    ·trivial
    ·rename_i e2;have h2:=pV h1 e2;exact h2
 unfold askOn;simp only;split
 ·trivial
 ·rename_i k w1 e;have h1:n<=w1.drawn:=pV h e;split
  ·exact a5b p _ _ h1
  ·split
   ·split
    ·exact h1
    ·split
     ·exact h1
     ·split
      ·trivial
      ·trivial
   ·split
    ·exact hp {m with world:=w1} h1
    ·split
     ·trivial
     ·rename_i w2 e2;have h2:=pV h1 e2;exact hp {m with world:=w2} h2
     ·rename_i e2;have h2:=pV h1 e2;exact h2
     ·rename_i e2;have h2:=pV h1 e2;exact hp (Machine.advanceTo _ _) h2
theorem a4n{n:Nat}{m:Machine}(h:n<=m.world.drawn)(p:Program):MGe n (ask p m):=by
 unfold ask;split
 ·split
  ·trivial
  ·rename_i e;have h1:=pV h e;split
   ·rename_i m1 e2;have h2:=R7 h1 p m.gs m.rest;rw[e2]at h2;exact NH h2 p
   ·exact R7 h1 p m.gs m.rest
  ·rename_i e;have h1:=pV h e;exact NH h1 p
 ·exact NH h p
theorem a5X{n:Nat}{m:Machine}(h:n<=m.world.drawn)(p:Program):MGe n (move p m):=by
 unfold move;split
 ·split
  ·exact h
  ·trivial
 ·split
  ·split
   ·exact h
   ·refine a4n (m:=_) ?_ p;exact h
  ·exact a4n h p
theorem a7e{n:Nat}{p:Program}{m m':Machine}(h:n<=m.world.drawn)(e:step p m=.next m'):n<=m'.world.drawn:=by
 have hm:=a5X h p;have:SGe n (step p m):=by
  unfold step stepT;split
  ·rename_i m1 i e2;rw[e2]at hm;exact a6Q hm p i true
  ·rename_i s ops e2;rw[e2]at hm;exact hm
 rw[e]at this;exact this
theorem a09{n:Nat}{p:Program}:∀(k:Nat) {m m':Machine},n<=m.world.drawn->runN p k m=.next m'->n<=m'.world.drawn
 |0,m,m',h,e=>by injection e with e;subst e;exact h
 |k+1,m,m',h,e=>by
  unfold runN at e;split at e
  ·rename_i m1 e1;exact a09 k (a7e h e1) e
  ·rename_i e1;exact absurd e (e1 _)
theorem calls_drawn{P:Program}{f:FuncId}{args:Array Value}{w:World}{v:Value}{R:World->Prop}(h:Calls P f args w λe w'=>e=.returned v/\R w'):Calls P f args w λe w'=>e=.returned v/\R w'/\w.drawn<=w'.drawn:=by intro cs;obtain⟨e,w',fr,⟨rfl,hr⟩,hc,hl⟩:=h cs;refine⟨_,w',fr,⟨rfl,hr,?_⟩,hc,hl⟩;obtain⟨n,hn⟩:=hc;exact a09 n (m:=lone (Frame.enter P f args .normal) cs w) (Nat.le_refl _) hn
end Go.Mono
namespace Go.Eng
open Go
variable [PlanTab]
section
variable {P:Program} {W:AW}
theorem MH{call:Callee}{t:TypeId}{nm:String}{f:FuncId}(h:sN P t nm=some f)(v:Value)(args:List Value):dU P call (.iface t v) nm args W=call (.func (.func f) #[] #[]) (v::args) W:=by unfold dU;simp only[h]
theorem vI{t:TypeId}{z:Nat}(hz:o8 P t=some z)(h0:0<z){b o l h:Nat}{k:IntKind}(h1:h<=l):
 bM P t (.slice (some ⟨b,o,none⟩) l (bS+z)) none (some (.int k (h:Int))) none W=some (.slice (some ⟨b,o,none⟩) h (bS+z),W):=by
 obtain⟨e,he,hz⟩:=gL hz;have h2:((⟨b,o,none⟩:Addr).add (0*z))=⟨b,o,none⟩:=by rw[cO];simp
 unfold bM iD;simp only[he,hz,dE,iN,Nat.zero_le,if_true,true_and,if_pos h0,if_pos h1,Nat.sub_zero,h2]
theorem a6x{ts:Array TypeId}{z bytes:Nat}(hk:mD P ts z bytes=true){b o n c:Nat}{cs new:List Value}(hc:cellsAt W b=some cs)(hn:new=(cs.drop o).take (n*z))(hl:new.length=n*z)(h0:0<n)(h1:new.all one=true)
 {B m:Nat}{old:List Value}(ho:W.get B=some (.cells old))(hol:m*z<=old.length)
 (hb:m+n<1099511627776)(hb2:(2*(m+n)+192)*bytes<=281474976710656):
 bJ P W ts (.slice (some ⟨B,0,none⟩) m (bS+z)) (.slice (some ⟨b,o,none⟩) n c)=some (.slice (some ⟨W.next,0,none⟩) (m+n) (bS+z),(W.kill B).add (.cells (old.take (m*z)++new))):=by
 obtain⟨t,e,zv,k1,k2,k3,k4,k5,k6⟩:=uW hk;have hr:pX W b o (n*z)=some new:=by rw[j5,hc];simp only;rw[if_pos (by rw[<-hn];exact hl),hn]
 have hr1:bA W (.slice (some ⟨b,o,none⟩) n c) (n*z)=some new:=by unfold bA;simp only;rw[if_neg (by have:=Nat.mul_pos h0 k5;omega),if_neg (by omega)];exact hr
 have hr2:bA W (.slice (some ⟨B,0,none⟩) m (bS+z)) (m*z)=some (old.take (m*z)):=by
  unfold bA;simp only;rcases Nat.eq_zero_or_pos m with rfl|hm
  ·simp
  ·rw[if_neg (by have:=Nat.mul_pos hm k5;omega),if_neg (by omega),j5,bC ho];simp only[List.drop_zero];rw[if_pos (by rw[List.length_take];omega)]
 unfold bJ;simp only[k1,k2,k3,k4,if_true,if_pos (And.intro k5 (And.intro k6 (And.intro hb hb2))),if_neg (show¬n=0 by omega),hr1,hr2,h1,ho,AW.new_eq,AW.kill_next]
end
end Go.Eng
namespace Go.Eng
open Go
variable [PlanTab]
def vG(l:List (Int×Int×Nat)):List MapEntry:=l.map λp=>{key:=.int .i64 p.1,val:=.int .i64 p.2.1,born:=p.2.2}
def lk:List (Int×Int×Nat)->Int->Int
 |[],_=>0
 |p::l,k=>if k=p.1 then p.2.1 else lk l k
def fnd:List (Int×Int×Nat)->Int->Nat->Option (Nat×Int)
 |[],_,_=>none
 |p::l,k,i=>if k=p.1 then some (i,p.2.1)else fnd l k (i+1)
def aCW(W:AW)(r:Nat)(m:Int->Int):Prop:=∃l c,W.get r=some (.map (vG l) c)/\∀k,lk l k=m k
section
variable {P:Program} {W:AW} {r:Nat} {m:Int->Int} {t kt e:TypeId}
end
end Go.Eng
namespace Go.Eng
open Go
variable [PlanTab]
section
variable {P:Program} {W:AW} {α:Type}
def EL(lo:Nat)(W:AW)(z:Nat)(f:α->List Value)(v:Value)(l:List α):Prop:=
 (l=[]/\(v=.slice none 0 0\/∃B,v=.slice (some ⟨B,0,none⟩) 0 0))\/(l≠[]/\∃B c,lo<=B/\B<W.next/\v=.slice (some ⟨B,0,none⟩) l.length c/\(c=bS+z\/c=l.length)/\W.get B=some (.cells (l.flatMap f)))
def Rd(W:AW)(z:Nat)(f:α->List Value)(v:Value)(l:List α):Prop:=
 ∃a c,v=.slice a l.length c/\(l=[]\/∃b o cs,a=some ⟨b,o,none⟩/\b<W.next/\cellsAt W b=some cs/\(cs.drop o).take (l.length*z)=l.flatMap f)
theorem EL.nil(lo:Nat)(W:AW)(z:Nat)(f:α->List Value):EL lo W z f (.slice none 0 0) []:=.inl ⟨rfl,.inl rfl⟩
theorem EL.keep{lo z:Nat}{f:α->List Value}{v:Value}{l:List α}{W':AW}(h:EL lo W z f v l)(hn:W.next<=W'.next)(hg:∀b,lo<=b->b<W.next->W'.get b=W.get b):EL lo W' z f v l:=by
 rcases h with h|⟨h0,B,c,h1,h2,h3,hc,h4⟩
 ·exact .inl h
 ·exact .inr ⟨h0,B,c,h1,by omega,h3,hc,by rw[hg B h1 h2];exact h4⟩
theorem EL.mono{lo z:Nat}{f:α->List Value}{v:Value}{l:List α}{W':AW}(h:EL lo W z f v l)(hle:Le W W'):EL lo W' z f v l:=h.keep hle.next λb _ hb=>hle.get b hb
theorem EL.low{lo lo' z:Nat}{f:α->List Value}{v:Value}{l:List α}(h:EL lo W z f v l)(hl:lo'<=lo):EL lo' W z f v l:=by
 rcases h with h|⟨h0,B,c,h1,h⟩
 ·exact .inl h
 ·exact .inr ⟨h0,B,c,by omega,h⟩
theorem EL.slice{lo z:Nat}{f:α->List Value}{v:Value}{l:List α}(h:EL lo W z f v l):∃a c,v=.slice a l.length c:=by rcases h with⟨rfl,rfl|⟨B,rfl⟩⟩|⟨_,B,c,_,_,rfl,_⟩<;>exact⟨_,_,rfl⟩
theorem EL.row{lo z:Nat}{f:α->List Value}{v:Value}{l:List α}{at_:List Value->Nat->α->Prop}(hf:∀a,(f a).length=z)(h:EL lo W z f v l)(hat:∀a pre post,at_ (pre++(f a++post)) pre.length a):Row W z at_ v l:=by
 rcases h with⟨rfl,rfl|⟨B,rfl⟩⟩|⟨h0,B,c,i1,i2,rfl,hc,i4⟩
 ·exact⟨none,0,rfl,.inl rfl⟩
 ·exact⟨_,0,rfl,.inl rfl⟩
 ·refine⟨_,_,rfl,.inr ⟨B,0,_,rfl,i2,bC i4,λi hi=>?_⟩⟩;have e:l.flatMap f=(l.take i).flatMap f++(f l[i]++(l.drop (i+1)).flatMap f):=by rw[<-List.flatMap_cons,<-List.drop_eq_getElem_cons hi,<-List.flatMap_append,List.take_append_drop]
  have e2:((l.take i).flatMap f).length=0+i*z:=by rw[aR hf,List.length_take];rw[Nat.min_eq_left (by omega),Nat.zero_add]
  rw[e,<-e2];exact hat _ _ _
theorem Rd.keep{z:Nat}{f:α->List Value}{v:Value}{l:List α}{W':AW}(h:Rd W z f v l)(hle:Le W W'):Rd W' z f v l:=by
 obtain⟨a,c,rfl,h⟩:=h;refine⟨a,c,rfl,?_⟩;rcases h with h|⟨b,o,cs,h1,h2,h3,h4⟩
 ·exact .inl h
 ·exact .inr ⟨b,o,cs,h1,Nat.lt_of_lt_of_le h2 hle.next,by unfold cellsAt at h3|-;rw[hle.get b h2];exact h3,h4⟩
section
variable {t:TypeId} {z lo:Nat} {f:α->List Value} {v:Value} {l:List α} {kk:IntKind} {k:Nat}
theorem PT(hf:∀a,(f a).length=z)(l:List α)(k:Nat):(l.flatMap f).take (k*z)=(l.take k).flatMap f:=by
 rcases Nat.lt_or_ge l.length k with h|h
 ·rw[List.take_of_length_le (by rw[aR hf];exact Nat.mul_le_mul_right z (by omega)),List.take_of_length_le (by omega)]
 ·have e:l.flatMap f=(l.take k).flatMap f++(l.drop k).flatMap f:=by rw[<-List.flatMap_append,List.take_append_drop]
  have e2:((l.take k).flatMap f).length=k*z:=by rw[aR hf,List.length_take,Nat.min_eq_left h]
  rw[e,<-e2,List.take_left]
theorem OQ(hf:∀a,(f a).length=z)(l:List α)(k:Nat):(l.flatMap f).drop (k*z)=(l.drop k).flatMap f:=by
 rcases Nat.lt_or_ge l.length k with h|h
 ·rw[List.drop_of_length_le (by rw[aR hf];exact Nat.mul_le_mul_right z (by omega)),List.drop_of_length_le (by omega)];rfl
 ·have e:l.flatMap f=(l.take k).flatMap f++(l.drop k).flatMap f:=by rw[<-List.flatMap_append,List.take_append_drop]
  have e2:((l.take k).flatMap f).length=k*z:=by rw[aR hf,List.length_take,Nat.min_eq_left h]
  rw[e,<-e2,List.drop_left]
theorem EL.to(hz:o8 P t=some z)(h0:0<z)(hf:∀a,(f a).length=z)(h:EL lo W z f v l)(hk:k<=l.length)(hl:l.length<1099511627776):
 ∃v',(∀W':AW,bM P t v none (some (.int kk (k:Int))) none W'=some (v',W'))/\Rd W z f v' (l.take k):=by
 have hlen:(l.take k).length=k:=by rw[List.length_take];omega
 have hB:l.length<bS:=by unfold bS;omega
 rcases h with⟨rfl,rfl|⟨B,rfl⟩⟩|⟨h1,B,c,i1,i2,rfl,hc,i4⟩
 ·have:k=0:=by simpa using hk
  subst this;exact⟨_,λ_=>OJ hz,none,0,rfl,.inl rfl⟩
 ·have:k=0:=by simpa using hk
  subst this;exact⟨_,λ_=>uG hz (Nat.le_refl _) (by unfold bS;omega),_,0,rfl,.inl rfl⟩
 ·have hr:l.take k=[]\/∃b o cs,(some ⟨B,0,none⟩:Option Addr)=some ⟨b,o,none⟩/\b<W.next/\cellsAt W b=some cs/\(cs.drop o).take ((l.take k).length*z)=(l.take k).flatMap f:=
   .inr ⟨B,0,_,rfl,i2,bC i4,by rw[List.drop_zero,hlen,PT hf]⟩
  rcases hc with rfl|rfl
  ·exact⟨_,λ_=>vI hz h0 hk,_,bS+z,by rw[hlen],hr⟩
  ·exact⟨_,λ_=>uG hz hk hB,_,l.length,by rw[hlen],hr⟩
theorem HZ{t:TypeId}{z:Nat}(hz:o8 P t=some z)(h0:0<z){B l c k:Nat}{kk:IntKind}(hk:k<=l)(hl:l<bS)(hc:c=bS+z\/c=l):
 ∃a c',(∀W:AW,bM P t (.slice (some ⟨B,0,none⟩) l c) (some (.int kk (k:Int))) none none W=some (.slice a (l-k) c',W))/\(k<l->a=some ⟨B,k*z,none⟩):=by
 obtain⟨e,he,hz⟩:=gL hz;have h2:((⟨B,0,none⟩:Addr).add (k*z))=⟨B,k*z,none⟩:=by rw[cO];simp
 unfold bM iD;rcases hc with rfl|rfl
 ·refine⟨some ⟨B,k*z,none⟩,bS+z,λW=>?_,λ_=>rfl⟩;simp only[he,hz,dE,iN,if_pos hk,true_and,if_pos h0,Nat.le_refl,if_true,h2]
 ·have hb:¬(c=bS+z/\0<z):=λx=>by omega
  refine⟨some (if c=k then⟨B,0,none⟩else⟨B,k*z,none⟩),c-k,λW=>?_,λh=>by rw[if_neg (by omega)]⟩;simp only[he,hz,dE,iN,if_pos hk,if_neg hb,if_pos (And.intro hl (Nat.le_refl c)),h2]
theorem EL.from(hz:o8 P t=some z)(h0:0<z)(hf:∀a,(f a).length=z)(h:EL lo W z f v l)(hk:k<=l.length)(hl:l.length<1099511627776):
 ∃v',(∀W':AW,bM P t v (some (.int kk (k:Int))) none none W'=some (v',W'))/\Rd W z f v' (l.drop k):=by
 have hlen:(l.drop k).length=l.length-k:=by rw[List.length_drop]
 have hB:l.length<bS:=by unfold bS;omega
 rcases h with⟨rfl,rfl|⟨B,rfl⟩⟩|⟨h1,B,c,i1,i2,rfl,hc,i4⟩
 ·have:k=0:=by simpa using hk
  subst this;refine⟨.slice none 0 0,λW'=>?_,none,0,rfl,.inl rfl⟩;obtain⟨e,he,hz⟩:=gL hz;unfold bM iD;simp only[he,hz,dE,iN,Nat.le_refl,and_self,if_true,Nat.sub_zero]
 ·have:k=0:=by simpa using hk
  subst this;obtain⟨a,c',e1,-⟩:=HZ (P:=P) (B:=B) (kk:=kk) hz h0 (Nat.le_refl 0) (by unfold bS;omega) (.inr rfl);exact⟨_,e1,a,c',rfl,.inl rfl⟩
 ·obtain⟨a,c',e1,e2⟩:=HZ (P:=P) (B:=B) (kk:=kk) hz h0 hk hB hc;refine⟨_,e1,a,c',by rw[hlen],?_⟩;rcases Nat.lt_or_ge k l.length with hk'|hk'
  ·refine .inr ⟨B,k*z,_,e2 hk',i2,bC i4,?_⟩;rw[OQ hf,<-aR hf,List.take_length]
  ·exact .inl (List.drop_of_length_le hk')
end
end
def isSl(v:Value):Prop:=(∃b l c,v=.slice (some ⟨b,0,none⟩) l c)\/∃l c,v=.slice none l c
theorem EL.isSl{α:Type}{lo z:Nat}{W:AW}{f:α->List Value}{v:Value}{l:List α}(h:EL lo W z f v l):isSl v:=by
 rcases h with⟨rfl,rfl|⟨B,rfl⟩⟩|⟨_,B,c,_,_,rfl,_⟩
 ·exact .inr ⟨_,_,rfl⟩
 ·exact .inl ⟨_,_,_,rfl⟩
 ·exact .inl ⟨_,_,_,rfl⟩
theorem isSl.one{v:Value}(h:isSl v):one v=true:=by rcases h with⟨b,l,c,rfl⟩|⟨l,c,rfl⟩<;>rfl
theorem isSl.cells{v:Value}(h:isSl v):v.cells=#[v]:=by rcases h with⟨b,l,c,rfl⟩|⟨l,c,rfl⟩<;>rfl
theorem isSl.vs{v:Value}(h:isSl v):XQ v v=true:=by
 rcases h with⟨b,l,c,rfl⟩|⟨l,c,rfl⟩
 ·exact zI _ _ _ _
 ·exact XT _ _
theorem isSl.vsame{v:Value}(h:isSl v):vsame v v=true:=by
 rcases h with⟨b,l,c,rfl⟩|⟨l,c,rfl⟩
 ·exact HY _ _ _ _
 ·exact YO _ _
def LstA{α:Type}(W:AW)(z:Nat)(f:α->List Value)(v:Value)(l:List α)(bo:Option Nat):Prop:=
 (l=[]/\v=.slice none 0 0/\bo=none)\/(l≠[]/\∃B,bo=some B/\B<W.next/\v=.slice (some ⟨B,0,none⟩) l.length (bS+z)/\W.get B=some (.cells (l.flatMap f)))
theorem LstA.keep{α:Type}{W W':AW}{z:Nat}{f:α->List Value}{v:Value}{l:List α}{bo:Option Nat}(h:LstA W z f v l bo)(hn:W.next<=W'.next)(hg:∀B,bo=some B->W'.get B=W.get B):LstA W' z f v l bo:=by
 rcases h with h|⟨h0,B,h1,h2,h3,h4⟩
 ·exact .inl h
 ·exact .inr ⟨h0,B,h1,by omega,h3,(hg B h1).trans h4⟩
theorem LstA.lt{α:Type}{W:AW}{z:Nat}{f:α->List Value}{v:Value}{l:List α}{bo:Option Nat}(h:LstA W z f v l bo){B:Nat}(hB:bo=some B):B<W.next:=by
 rcases h with⟨-,-,h⟩|⟨h0,B',h1,h2,-⟩
 ·rw[h]at hB;cases hB
 ·rw[h1]at hB;injection hB with hB;omega
theorem LstA.push{α:Type}{P:Program}{W:AW}{ts:Array TypeId}{z bytes:Nat}{f:α->List Value}{v:Value}{l:List α}{bo:Option Nat}{a:α}(hk:mD P ts z bytes=true)(hf:∀a,(f a).length=z)(h1:∀a,(f a).all one=true)
 (h:LstA W z f v l bo){b c:Nat}(hc:cellsAt W b=some (f a))(hb:l.length+1<1099511627776)(hb2:(2*(l.length+1)+192)*bytes<=281474976710656):
 ∃v' W',bJ P W ts v (.slice (some ⟨b,0,none⟩) 1 c)=some (v',W')/\LstA W' z f v' (l++[a]) (some W.next)/\W'.next=W.next+1/\∀b,b<W.next->bo≠some b->W'.get b=W.get b:=by
 have hn:f a=((f a).drop 0).take (1*z):=by rw[List.drop_zero,Nat.one_mul,<-hf a,List.take_length]
 have hl:(f a).length=1*z:=by rw[hf];omega
 rcases h with⟨rfl,rfl,rfl⟩|⟨h0,B,rfl,i2,rfl,i4⟩
 ·refine⟨_,_,CE (b:=b) (o:=0) (c:=c) hk hc hn hl (by omega) (h1 a) (by omega) (by simpa using hb2),.inr ⟨by simp,W.next,rfl,by rw[AW.add_next];omega,by simp,by rw[AW.get_add];simp⟩,AW.add_next _ _,λd hd _=>AW.get_add_ne _ _ (by omega)⟩
 ·have hpos:0<l.length:=List.length_pos_iff.2 h0;refine⟨_,_,SV (b:=b) (o:=0) (c:=c) hk hc hn hl (by omega) (h1 a) i4 (aR hf l) (by omega) hb2 hpos,.inr ⟨by simp,W.next,rfl,by rw[AW.add_next,AW.kill_next];omega,by simp[AW.kill_next],?_⟩,by rw[AW.add_next,AW.kill_next],λd hd hne=>?_⟩
  ·have:=(W.kill B).get_add (.cells (l.flatMap f++f a));rw[AW.kill_next]at this;rw[this,List.flatMap_append];simp
  ·rw[AW.get_add_ne _ _ (by rw[AW.kill_next];omega),AW.get_kill_ne _ (λe=>hne (by rw[e]))]
section
variable {P:Program} {W:AW} {α:Type} {t:TypeId} {z lo:Nat} {f:α->List Value} {v:Value} {l:List α} {kk:IntKind} {k:Nat}
def RL(lo:Nat)(W:AW)(z:Nat)(f:α->List Value)(v:Value)(l:List α):Prop:=
 EL lo W z f v l\/(l≠[]/\∃B c,lo<=B/\B<W.next/\v=.slice (some ⟨B,0,none⟩) l.length c/\l.length<=c/\c<bS/\cellsAt W B=some (l.flatMap f))\/(l=[]/\((∃c,v=.slice none 0 c)\/∃B c,v=.slice (some ⟨B,0,none⟩) 0 c/\c<bS))
theorem RL.keep{W':AW}(h:RL lo W z f v l)(hn:W.next<=W'.next)(hg:∀b,lo<=b->b<W.next->W'.get b=W.get b):RL lo W' z f v l:=by
 rcases h with h|⟨h0,B,c,h1,h2,h3,h4,h5,h6⟩|h
 ·exact .inl (h.keep hn hg)
 ·exact .inr (.inl ⟨h0,B,c,h1,by omega,h3,h4,h5,by unfold cellsAt at h6|-;rw[hg B h1 h2];exact h6⟩)
 ·exact .inr (.inr h)
theorem RL.mono{W':AW}(h:RL lo W z f v l)(hle:Le W W'):RL lo W' z f v l:=h.keep hle.next λb _ hb=>hle.get b hb
theorem RL.low{lo':Nat}(h:RL lo W z f v l)(hl:lo'<=lo):RL lo' W z f v l:=by
 rcases h with h|⟨h0,B,c,h1,h⟩|h
 ·exact .inl (h.low hl)
 ·exact .inr (.inl ⟨h0,B,c,by omega,h⟩)
 ·exact .inr (.inr h)
theorem RL.isSl(h:RL lo W z f v l):isSl v:=by
 rcases h with h|⟨_,B,c,_,_,rfl,_⟩|⟨_,⟨c,rfl⟩|⟨B,c,rfl,_⟩⟩
 ·exact h.isSl
 ·exact .inl ⟨_,_,_,rfl⟩
 ·exact .inr ⟨_,_,rfl⟩
 ·exact .inl ⟨_,_,_,rfl⟩
theorem a7m{cs:List Value}{at_:List Value->Nat->α->Prop}(hf:∀a,(f a).length=z)(hat:∀a pre post,at_ (pre++(f a++post)) pre.length a)(e:cs=l.flatMap f){i:Nat}(hi:i<l.length):at_ cs (0+i*z) l[i]:=by
 have e1:l.flatMap f=(l.take i).flatMap f++(f l[i]++(l.drop (i+1)).flatMap f):=by rw[<-List.flatMap_cons,<-List.drop_eq_getElem_cons hi,<-List.flatMap_append,List.take_append_drop]
 have e2:((l.take i).flatMap f).length=0+i*z:=by rw[aR hf,List.length_take];rw[Nat.min_eq_left (by omega),Nat.zero_add]
 rw[e,e1,<-e2];exact hat _ _ _
theorem RL.row{at_:List Value->Nat->α->Prop}(hf:∀a,(f a).length=z)(h:RL lo W z f v l)(hat:∀a pre post,at_ (pre++(f a++post)) pre.length a):Row W z at_ v l:=by
 rcases h with h|⟨h0,B,c,_,h2,rfl,_,_,h6⟩|⟨rfl,⟨c,rfl⟩|⟨B,c,rfl,_⟩⟩
 ·exact h.row hf hat
 ·exact⟨_,_,rfl,.inr ⟨B,0,_,rfl,h2,h6,λi hi=>a7m hf hat rfl hi⟩⟩
 ·exact⟨none,c,rfl,.inl rfl⟩
 ·exact⟨_,c,rfl,.inl rfl⟩
theorem RL.to(hz:o8 P t=some z)(h0:0<z)(hf:∀a,(f a).length=z)(h:RL lo W z f v l)(hk:k<=l.length)(hl:l.length<1099511627776):
 ∃v',(∀W':AW,bM P t v none (some (.int kk (k:Int))) none W'=some (v',W'))/\Rd W z f v' (l.take k):=by
 rcases h with h|⟨h0',B,c,_,h2,rfl,h4,h5,h6⟩|⟨rfl,h⟩
 ·exact h.to hz h0 hf hk hl
 ·have hlen:(l.take k).length=k:=by rw[List.length_take];omega
  refine⟨_,λ_=>uG hz (by omega) h5,_,c,by rw[hlen],.inr ⟨B,0,_,rfl,h2,h6,?_⟩⟩;rw[List.drop_zero,hlen,PT hf]
 ·have hk0:k=0:=by simpa using hk
  subst hk0;rcases h with⟨c,rfl⟩|⟨B,c,rfl,hc⟩
  ·refine⟨.slice none 0 c,λW'=>?_,none,c,rfl,.inl rfl⟩;obtain⟨e,he,hz⟩:=gL hz;unfold bM iD;simp only[he,hz,dE,iN,Nat.le_refl,Nat.zero_le,and_self,if_true,Nat.sub_zero]
  ·exact⟨_,λ_=>uG hz (Nat.zero_le _) hc,_,c,rfl,.inl rfl⟩
theorem RL.from(hz:o8 P t=some z)(h0:0<z)(hf:∀a,(f a).length=z)(h:RL lo W z f v l)(hk:k<=l.length)(hl:l.length<1099511627776):
 ∃v',(∀W':AW,bM P t v (some (.int kk (k:Int))) none none W'=some (v',W'))/\Rd W z f v' (l.drop k):=by
 rcases h with h|⟨h0',B,c,_,h2,rfl,h4,h5,h6⟩|⟨rfl,h⟩
 ·exact h.from hz h0 hf hk hl
 ·have hlen:(l.drop k).length=l.length-k:=by rw[List.length_drop]
  obtain⟨e,he,hz'⟩:=gL hz;have h2':((⟨B,0,none⟩:Addr).add (k*z))=⟨B,k*z,none⟩:=by rw[cO];simp
  have hb:¬(c=bS+z/\0<z):=λx=>by omega
  refine⟨.slice (some (if c=k then⟨B,0,none⟩else⟨B,k*z,none⟩)) (l.length-k) (c-k),λW'=>?_,_,c-k,by rw[hlen],?_⟩
  ·unfold bM iD;simp only[he,hz',dE,iN,if_pos hk,if_neg hb,if_pos (And.intro h5 h4),h2']
  ·rcases Nat.lt_or_ge k l.length with hk'|hk'
   ·refine .inr ⟨B,k*z,_,by rw[if_neg (by omega)],h2,h6,?_⟩;rw[OQ hf,<-aR hf,List.take_length]
   ·exact .inl (List.drop_of_length_le hk')
 ·have hk0:k=0:=by simpa using hk
  subst hk0;obtain⟨e,he,hz'⟩:=gL hz;rcases h with⟨c,rfl⟩|⟨B,c,rfl,hc⟩
  ·refine⟨.slice none 0 c,λW'=>?_,none,c,rfl,.inl rfl⟩;unfold bM iD;simp only[he,hz',dE,iN,Nat.le_refl,Nat.zero_le,and_self,if_true,Nat.sub_zero,List.length_nil]
  ·have hb:¬(c=bS+z/\0<z):=λx=>by omega
   have h2':((⟨B,0,none⟩:Addr).add (0*z))=⟨B,0,none⟩:=by rw[cO];simp
   refine⟨.slice (some ⟨B,0,none⟩) 0 c,λW'=>?_,_,c,rfl,.inl rfl⟩;unfold bM iD;simp only[he,hz',dE,iN,Nat.le_refl,Nat.zero_le,if_true,if_neg hb,and_true,if_pos hc,Nat.sub_zero,List.length_nil,h2',ite_self]
end
theorem a7i{W W':AW}(v:Value):gc W (v,W')=(v,W')\/(gc W (v,W')=(v,W)/\Le W W'/\aX v=true):=by
 unfold gc;split
 ·rename_i h;have:=h.1;simp only[Bool.and_eq_true]at this;exact .inr ⟨rfl,h.2,this.1⟩
 ·exact .inl rfl
def aC5{α:Type}(l:List α)(x:α)(n:Nat):List α:=l.take n++(x::l.drop n)
end Go.Eng
namespace Go.Eng
open Go Go.RowKit
variable [PlanTab]
def a5M(P:Program)(bR:Nat):Nat->List Field->Bool
 |off,[]=>off==bR
 |off,f::fs=>f.offset==off&&a5M P bR (off+P.cellsOf f.type) fs
def Z5(P:Program):Nat->TypeId->Bool
 |0,_=>false
 |n+1,t=>match P.underlying t with
  |some .bool=>true
  |some (.int _)=>true
  |some .string=>true
  |some (.struct fs)=>a5M P (P.cellsOf t) 0 fs.toList&&fs.toList.all λf=>Z5 P n f.type
  |some (.slice e)=>decide (0<P.cellsOf e)&&Z5 P n e
  |_=>false
def fldR(g:TypeId->List Value->Prop):List TypeId->List Value->Prop
 |[],cs=>cs=[]
 |t::ts,cs=>∃c1 c2,cs=c1++c2/\g t c1/\fldR g ts c2
theorem fldR.imp{g g':TypeId->List Value->Prop}(h:∀t cs,g t cs->g' t cs):∀{ts:List TypeId} {cs:List Value},fldR g ts cs->fldR g' ts cs
 |[],_,hc=>hc
 |_::_,_,⟨c1,c2,e,h1,h2⟩=>⟨c1,c2,e,h _ _ h1,fldR.imp h h2⟩
def DR(P:Program)(W:AW):Nat->TypeId->List Value->Prop
 |0,_,_=>False
 |n+1,t,cs=>match P.underlying t with
  |some .bool=>∃b,cs=[.bool b]
  |some (.int k)=>∃m,cs=[.int k m]/\k.min<=m/\m<=k.max
  |some .string=>∃s:ByteArray,cs=[.string s]/\s.size<9223372036854775808
  |some (.struct fs)=>fldR (DR P W n) (fs.toList.map (·.type)) cs
  |some (.slice e)=>∃a len cap,cs=[.slice a len cap]/\len<=cap/\cap<bS/\(a=none\/∃b,a=some ⟨b,0,none⟩)/\(len=0\/∃(b:Nat) (l:List (List Value)),a=some ⟨b,0,none⟩/\b<W.next/\cellsAt W b=some l.flatten/\l.length=len/\∀c∈l,c.length=P.cellsOf e/\DR P W n e c)
  |_=>False
theorem DR.mono{P:Program}{W W':AW}(hle:Le W W'):∀{n:Nat} {t:TypeId} {cs:List Value},DR P W n t cs->DR P W' n t cs:=by
 intro n;induction n with
 |zero=>intro t cs h;exact h.elim
 |succ n ih=>
  intro t cs h;unfold DR at h|-;split at h
  ·exact h
  ·exact h
  ·exact h
  ·exact fldR.imp (λt cs h=>ih h) h
  ·obtain⟨a,len,cap,e1,e2,e3,e3',h⟩:=h;refine⟨a,len,cap,e1,e2,e3,e3',?_⟩;rcases h with h|⟨b,l,e4,e5,e6,e7,h⟩
   ·exact .inl h
   ·exact .inr ⟨b,l,e4,Nat.lt_of_lt_of_le e5 hle.next,(hle.cellsAt e5).trans e6,e7,λc hc=>⟨(h c hc).1,ih (h c hc).2⟩⟩
  ·exact h
structure Opened (σ:bQ) (W:AW) (w:World):Prop where
 rel:WRel σ W w.heap
 ro:AllRo σ W
 some_:∃b g,σ b=some g
theorem Opened.add{σ:bQ}{W:AW}{w:World}(h:Opened σ W w){B s:Nat}{cs:List Value}{c:Array Value}{t:TypeId}{fr:Nat×Nat}(hB:w.heap[B]? =some (.cells c t fr))
 (hc:∀(i:Nat) (v:Value),cs[i]? =some v->∃v',c[s+i]? =some v'/\VR σ v v'):
 Opened (bB σ W.next ⟨B,s,s+cs.length⟩) (W.add (.ro cs)) w/\Sub σ (bB σ W.next ⟨B,s,s+cs.length⟩):=by
 have hfr:=h.rel.fresh;have hs:Sub σ (bB σ W.next ⟨B,s,s+cs.length⟩):=dA hfr;have hlt:B<w.heap.size:=(Array.getElem?_eq_some_iff.1 hB).1;have hne:∀{x:Nat},x≠W.next->(W.add (.ro cs)).get x=W.get x:=λhx=>W.get_add_ne _ (Ne.symm hx)
 have hinv:∀x g,bB σ W.next ⟨B,s,s+cs.length⟩ x=some g->(x=W.next/\g=⟨B,s,s+cs.length⟩)\/(x≠W.next/\σ x=some g):=λx g hc=>by
  unfold bB at hc;split at hc
  ·rename_i hx;injection hc with hc;exact .inl ⟨hx,hc.symm⟩
  ·rename_i hx;exact .inr ⟨hx,hc⟩
 have hro:AllRo (bB σ W.next ⟨B,s,s+cs.length⟩) (W.add (.ro cs)):=by
  intro x g hx;rcases hinv x g hx with⟨rfl,rfl⟩|⟨h1,h2⟩
  ·exact⟨cs,AW.get_add _ _⟩
  ·obtain⟨cs',hcs⟩:=h.ro x g h2;exact⟨cs',by rw[hne h1];exact hcs⟩
 refine⟨⟨⟨?_,?_,?_,?_⟩,hro,?_⟩,hs⟩
 ·intro x hx;rw[AW.add_next]at hx;rw[hne (by omega)];exact h.rel.free x (by omega)
 ·intro x g hx;rw[AW.add_next];rcases hinv x g hx with⟨rfl,rfl⟩|⟨_,h2⟩
  ·exact⟨by omega,hlt⟩
  ·have:=h.rel.dom x g h2;exact⟨by omega,this.2⟩
 ·intro x o g hx hk;rcases hinv x g hk with⟨rfl,rfl⟩|⟨h1,h2⟩
  ·rw[AW.get_add]at hx;injection hx with hx;subst hx;exact⟨c,t,fr,hB,Nat.le_refl _,λi v hv=>let⟨v',a,b⟩:=hc i v hv;⟨v',a,b.mono hs⟩⟩
  ·rw[hne h1]at hx;exact(h.rel.obj x o g hx h2).mono hs
 ·intro b1 b2 o1 o2 g1 g2 hbb h1 h2 k1 k2 hr;obtain⟨c1,e1⟩:=hro b1 g1 k1;obtain⟨c2,e2⟩:=hro b2 g2 k2;rw[h1]at e1;rw[h2]at e2;injection e1 with e1;injection e2 with e2;subst e1;subst e2;simp[rw_]at hr
 ·obtain⟨b,g,hb⟩:=h.some_;exact⟨b,g,hs b g hb⟩
theorem QM{w:World}{base:Nat}{a:Addr}{n:Nat}{cs:List Value}(h:w.cells? base a n=some cs)(hn:0<n):∃c t fr,w.heap[a.block]? =some (.cells c t fr)/\a.spot=none/\cs.length=n/\∀i,i<n->c[a.off+i]? =cs[i]? :=by
 unfold World.cells? at h;split at h;case isFalse=>cases h
 have hl:=mapM_some_length h;rw[List.length_range]at hl;have hg:∀i,i<n->w.cell? (a.add i)=cs[i]? :=λi hi=>mapM_some_get h i i (by simp[hi])
 have h0:=hg 0 hn;have e0:a.add 0=a:=by simp[Addr.add]
 rw[e0,List.getElem?_eq_getElem (by omega)]at h0;unfold World.cell? at h0;split at h0;case h_2=>cases h0
 rename_i c t fr hh;split at h0;case isTrue=>cases h0
 rename_i hsp;refine⟨c,t,fr,hh,by simpa using hsp,hl,λi hi=>?_⟩;rw[<-hg i hi];unfold World.cell?;have eb:(a.add i).block=a.block:=by unfold Addr.add;split<;>rfl
 have eo:(a.add i).off=a.off+i:=by unfold Addr.add;split<;>simp_all
 have es:(a.add i).spot=none:=by unfold Addr.add;split<;>simp_all
 rw[eb,hh];simp only[es,eo,Option.isSome_none,Bool.false_eq_true,if_false]
section
variable {H:Type} {enc:TypeId×Value->H} {P:Program} {w:World}
def a2Y(P:Program)(w:World)(n:Nat)(t:TypeId)(cs':List Value):Prop:=∀σ W,Opened σ W w->∃σ2 W2 cs,Opened σ2 W2 w/\Sub σ σ2/\Le W W2/\LR σ2 cs cs'/\DR P W2 n t cs
theorem EI{n:Nat}{bR:Nat}{cs':List Value}(hl:cs'.length=bR):∀{fs:List Field} {off:Nat},a5M P bR off fs=true->(∀f∈fs,a2Y P w n f.type ((cs'.drop f.offset).take (P.cellsOf f.type)))->
 ∀σ W,Opened σ W w->∃σ2 W2 cs,Opened σ2 W2 w/\Sub σ σ2/\Le W W2/\LR σ2 cs (cs'.drop off)/\fldR (DR P W2 n) (fs.map (·.type)) cs
 |[],off,h,_,σ,W,ho=>by unfold a5M at h;have:=beq_iff_eq.1 h;refine⟨σ,W,[],ho,.refl _,.refl _,?_,rfl⟩;rw[List.drop_of_length_le (by omega)];exact .nil
 |f::fs,off,h,hf,σ,W,ho=>by
  unfold a5M at h;simp only[Bool.and_eq_true]at h;have hoff:=beq_iff_eq.1 h.1;obtain⟨σ1,W1,c1,o1,s1,l1,r1,a1⟩:=hf f (by simp) σ W ho;obtain⟨σ2,W2,c2,o2,s2,l2,r2,a2⟩:=EI hl h.2 (λg hg=>hf g (by simp[hg])) σ1 W1 o1;refine⟨σ2,W2,c1++c2,o2,s1.trans s2,l1.trans l2,?_,c1,c2,rfl,a1.mono l2,a2⟩;rw[hoff]at r1;have e:cs'.drop off=(cs'.drop off).take (P.cellsOf f.type)++cs'.drop (off+P.cellsOf f.type):=by rw[<-List.drop_drop,List.take_append_drop]
  rw[e];exact(r1.mono s2).append r2
theorem L9{n z:Nat}{e:TypeId}:∀{LL:List (List Value)},(∀c∈LL,c.length=z/\a2Y P w n e c)->
 ∀σ W,Opened σ W w->∃(σ2:bQ) (W2:AW) (l:List (List Value)),Opened σ2 W2 w/\Sub σ σ2/\Le W W2/\LR σ2 l.flatten LL.flatten/\l.length=LL.length/\∀c∈l,c.length=z/\DR P W2 n e c
 |[],_,σ,W,ho=>⟨σ,W,[],ho,.refl _,.refl _,.nil,rfl,by simp⟩
 |c0::LL,h,σ,W,ho=>by
  obtain⟨σ1,W1,c1,o1,s1,l1,r1,a1⟩:=(h c0 (by simp)).2 σ W ho;obtain⟨σ2,W2,l,o2,s2,l2,r2,e2,a2⟩:=L9 (LL:=LL) (λc hc=>h c (by simp[hc])) σ1 W1 o1;refine⟨σ2,W2,c1::l,o2,s1.trans s2,l1.trans l2,?_,by simp[e2],?_⟩
  ·rw[List.flatten_cons,List.flatten_cons];exact(r1.mono s2).append r2
  ·intro c hc;rcases List.mem_cons.1 hc with rfl|hc
   ·exact⟨by rw[r1.1];exact(h c0 (by simp)).1,a1.mono l2⟩
   ·exact a2 c hc
theorem XI(L:List Value)(o z:Nat):∀n,((List.range n).map λi=>(L.drop (o+i*z)).take z).flatten=(L.drop o).take (n*z)
 |0=>by simp
 |n+1=>by rw[List.range_succ,List.map_append,List.flatten_append,XI L o z n,Nat.succ_mul,List.take_add,List.drop_drop];simp
theorem BG:∀{n m:Nat} {t:TypeId} {cs':List Value} {x:DataW H×List MemPlace},Z5 P n t=true->DataW.trod enc P w 0 (λ_=>true) true m t cs'=some x->a2Y P w n t cs':=by
 intro n;induction n with
 |zero=>intro m t cs' x h;cases h
 |succ n ih=>
  intro m t cs' x h hx σ W ho;unfold Z5 at h;split at h
  ·rename_i ht;obtain⟨b,rfl,_⟩:=DataW.trod_bool ht hx;exact⟨σ,W,[.bool b],ho,.refl _,.refl _,.cons (.bool b) .nil,by unfold DR;rw[ht];exact⟨b,rfl⟩⟩
  ·rename_i k ht;obtain⟨z,rfl,_,hwf⟩:=DataW.trod_int ht hx;simp only[Lit.wf,Bool.and_eq_true,decide_eq_true_eq]at hwf;exact⟨σ,W,[.int k z],ho,.refl _,.refl _,.cons (.int k z) .nil,by unfold DR;rw[ht];exact⟨z,rfl,hwf⟩⟩
  ·rename_i ht;obtain⟨s,rfl,_,hs⟩:=DataW.trod_string ht hx;exact⟨σ,W,[.string s],ho,.refl _,.refl _,.cons (.string s) .nil,by unfold DR;rw[ht];exact⟨s,rfl,by unfold maxLen at hs;omega⟩⟩
  ·rename_i fs ht;simp only[Bool.and_eq_true,List.all_eq_true]at h;obtain⟨xs,m',_,_,hl,hlen,hf⟩:=DataW.trod_struct ht hx;have:=EI (P:=P) (w:=w) (n:=n) hl h.1 (λf hfm=>by
    obtain⟨i,hi,rfl⟩:=List.getElem_of_mem hfm;have hi2:i<fs.size:=by simpa using hi
    have h1:=hf i fs[i] (by rw[Array.getElem?_eq_getElem hi2]);rw[List.getElem?_eq_getElem (by omega)]at h1;have e:fs.toList[i]=fs[i]:=by simp
    rw[e];exact ih (by rw[<-e];exact h.2 _ hfm) h1) σ W ho;obtain⟨σ2,W2,cs,o2,s2,l2,r2,a2⟩:=this;rw[List.drop_zero]at r2;exact⟨σ2,W2,cs,o2,s2,l2,r2,by unfold DR;rw[ht];exact a2⟩
  ·rename_i e ht;simp only[Bool.and_eq_true,decide_eq_true_eq]at h;obtain⟨hz,hse⟩:=h;have mk:∀{W2:AW} {a:Option Addr} {len cap:Nat},len<=cap->cap<bS->(a=none\/∃b,a=some ⟨b,0,none⟩)->(len=0\/∃(b:Nat) (l:List (List Value)),a=some ⟨b,0,none⟩/\b<W2.next/\cellsAt W2 b=some l.flatten/\l.length=len/\∀c∈l,c.length=P.cellsOf e/\DR P W2 n e c)->DR P W2 (n+1) t [.slice a len cap]:=λh1 h2 h2' h3=>by unfold DR;rw[ht];exact⟨_,_,_,rfl,h1,h2,h2',h3⟩
   rcases DataW.trod_slice ht hx with⟨rfl,_⟩|⟨a,len,cap,elems,rest,m',_,rfl,_,_,hlc,hcap,hel,hle,hsp,_⟩
   ·exact⟨σ,W,[.slice none 0 0],ho,.refl _,.refl _,.cons (.snil 0 0) .nil,mk (Nat.le_refl _) (by unfold bS;omega) (.inl rfl) (.inl rfl)⟩
   obtain⟨hrl,hre⟩:=hsp rfl;have hcap2:cap<bS:=by unfold maxLen at hcap;unfold bS;omega
   by_cases hc0:cap=0
   ·obtain rfl:len=0:=by omega
    subst hc0;obtain⟨b,g,hg⟩:=ho.some_;exact⟨σ,W,[.slice (some ⟨b,0,none⟩) 0 0],ho,.refl _,.refl _,.cons (.sliceE ⟨b,0,none⟩ a 0 g hg (.inl rfl)) .nil,mk (Nat.le_refl _) (by unfold bS;omega) (.inr ⟨b,rfl⟩) (.inl rfl)⟩
   ·
    have hall:∀i,i<cap->∃ci,w.cells? 0 (a.add (i*P.cellsOf e)) (P.cellsOf e)=some ci/\∃x,DataW.trod enc P w 0 (λ_=>true) true m' e ci=some x:=by
     intro i hi;by_cases hil:i<len
     ·have h1:=hle i hil;rw[List.getElem?_eq_getElem (by omega)]at h1;obtain⟨ci,h2,h3⟩:=Option.bind_eq_some_iff.1 h1;exact⟨ci,h2,_,h3⟩
     ·have h1:=hre (i-len) (by omega);rw[List.getElem?_eq_getElem (by omega),show len+(i-len)=i by omega]at h1;obtain⟨ci,h2,h3⟩:=Option.bind_eq_some_iff.1 h1;exact⟨ci,h2,_,h3⟩
    obtain⟨c0,hc0',_⟩:=hall 0 (by omega);have ea0:a.add (0*P.cellsOf e)=a:=by simp[Addr.add]
    rw[ea0]at hc0';obtain⟨c,tt,fr,hB,hspot,_,_⟩:=QM hc0' hz;have hci:∀i,i<cap->∃x,((c.toList.drop (a.off+i*P.cellsOf e)).take (P.cellsOf e)).length=P.cellsOf e/\DataW.trod enc P w 0 (λ_=>true) true m' e ((c.toList.drop (a.off+i*P.cellsOf e)).take (P.cellsOf e))=some x:=by
     intro i hi;obtain⟨ci,h1,x,h2⟩:=hall i hi;obtain⟨c2,t2,fr2,hB2,_,hl2,hg2⟩:=QM h1 hz;have eb:(a.add (i*P.cellsOf e)).block=a.block:=by unfold Addr.add;split<;>rfl
     have eo:(a.add (i*P.cellsOf e)).off=a.off+i*P.cellsOf e:=by unfold Addr.add;split<;>simp_all
     rw[eb,hB]at hB2;injection hB2 with hB2;injection hB2 with hB2;subst hB2;rw[eo]at hg2;have ec:(c.toList.drop (a.off+i*P.cellsOf e)).take (P.cellsOf e)=ci:=by
      apply List.ext_getElem?;intro j;by_cases hj:j<P.cellsOf e
      ·rw[List.getElem?_take,if_pos hj,List.getElem?_drop,Array.getElem?_toList];exact hg2 j hj
      ·rw[List.getElem?_take,if_neg hj,List.getElem?_eq_none (by omega)]
     rw[ec];exact⟨x,hl2,h2⟩
    obtain⟨σ1,W1,l,o1,s1,l1,r1,e1,a1⟩:=L9 (P:=P) (w:=w) (n:=n) (z:=P.cellsOf e) (e:=e) (LL:=(List.range len).map λi=>(c.toList.drop (a.off+i*P.cellsOf e)).take (P.cellsOf e)) (λci hm=>by
     obtain⟨i,hi,rfl⟩:=List.mem_map.1 hm;rw[List.mem_range]at hi;obtain⟨x,h1,h2⟩:=hci i (by omega);exact⟨h1,ih hse h2⟩) σ W ho;rw[XI]at r1;rw[List.length_map,List.length_range]at e1;obtain⟨o2,s2⟩:=o1.add (s:=a.off) (cs:=l.flatten) hB (λi v hv=>by
     obtain⟨v',hv',hr⟩:=r1.get hv;refine⟨v',?_,hr⟩;rw[List.getElem?_take]at hv';split at hv'
     ·rw[List.getElem?_drop,Array.getElem?_toList]at hv';exact hv'
     ·cases hv');have lw:Le W1 (W1.add (.ro l.flatten)):=(Le.refl W1).add _;have ev:(⟨a.block,a.off+0,none⟩:Addr)=a:=by
     obtain⟨b,o,s⟩:=a;simp only at hspot;subst hspot;rfl
    have hv:VR (bB σ1 W1.next ⟨a.block,a.off,a.off+l.flatten.length⟩) (.slice (some ⟨W1.next,0,none⟩) len cap) (.slice (some ⟨a.block,a.off+0,none⟩) len cap):=
     .slice ⟨W1.next,0,none⟩ len cap cap ⟨a.block,a.off,a.off+l.flatten.length⟩ cZ rfl (.known cap hcap2)
    rw[ev]at hv;refine⟨_,_,[.slice (some ⟨W1.next,0,none⟩) len cap],o2,s1.trans s2,l1.trans lw,.cons hv .nil,mk hlc hcap2 (.inr ⟨W1.next,rfl⟩) (.inr ⟨W1.next,l,rfl,by rw[AW.add_next];omega,a0l (W1.get_add _),e1,λci hm=>⟨(a1 ci hm).1,(a1 ci hm).2.mono lw⟩⟩)⟩
  ·cases h
end
end Go.Eng
namespace Go.Eng
open Go Go.RowKit Go.ChangeShapes Go.WideShapes
variable [PlanTab]
section
variable {P:Program} {W:AW} {α:Type}
theorem DR.int{n:Nat}{t:TypeId}{cs:List Value}{k:IntKind}(h:DR P W (n+1) t cs)(ht:P.underlying t=some (.int k)):∃m,cs=[.int k m]:=by unfold DR at h;rw[ht]at h;obtain⟨m,h,_⟩:=h;exact⟨m,h⟩
theorem DR.intB{n:Nat}{t:TypeId}{cs:List Value}{k:IntKind}(h:DR P W (n+1) t cs)(ht:P.underlying t=some (.int k)):∃m,cs=[.int k m]/\k.min<=m/\m<=k.max:=by unfold DR at h;rw[ht]at h;exact h
theorem DR.str{n:Nat}{t:TypeId}{cs:List Value}(h:DR P W (n+1) t cs)(ht:P.underlying t=some .string):∃s:ByteArray,cs=[.string s]/\s.size<9223372036854775808:=by unfold DR at h;rw[ht]at h;exact h
theorem DR.struct{n:Nat}{t:TypeId}{cs:List Value}{fs:Array Field}(h:DR P W (n+1) t cs)(ht:P.underlying t=some (.struct fs)):fldR (DR P W n) (fs.toList.map (·.type)) cs:=by unfold DR at h;rw[ht]at h;exact h
theorem DR.slice{n:Nat}{t e:TypeId}{cs:List Value}(h:DR P W (n+1) t cs)(ht:P.underlying t=some (.slice e)):
 ∃a len cap,cs=[.slice a len cap]/\len<=cap/\cap<bS/\(len=0\/∃(b:Nat) (l:List (List Value)),a=some ⟨b,0,none⟩/\b<W.next/\cellsAt W b=some l.flatten/\l.length=len/\∀c∈l,c.length=P.cellsOf e/\DR P W n e c):=by
 unfold DR at h;rw[ht]at h;obtain⟨a,len,cap,h1,h2,h3,_,h4⟩:=h;exact⟨a,len,cap,h1,h2,h3,h4⟩
theorem WR{z:Nat}{at_:List Value->Nat->α->Prop}:∀{l:List (List Value)},(∀c∈l,c.length=z/\∃x:α,∀pre post,at_ (pre++(c++post)) pre.length x)->∀pre:List Value,
 ∃xs:List α,xs.length=l.length/\∀i (h:i<xs.length),at_ (pre++l.flatten) (pre.length+i*z) xs[i]
 |[],_,_=>⟨[],rfl,λi h=>by simp at h⟩
 |c::l,hc,pre=>by
  obtain⟨hz,x,hx⟩:=hc c (by simp);obtain⟨xs,h1,h2⟩:=WR (l:=l) (λd hd=>hc d (by simp[hd])) (pre++c);refine⟨x::xs,by simp[h1],λi h=>?_⟩;rw[List.flatten_cons];match i with
  |0=>simpa using hx pre l.flatten
  |i+1=>have:=h2 i (by simpa using h);rw[List.length_append,hz,List.append_assoc]at this;rw[List.getElem_cons_succ,Nat.succ_mul,Nat.add_comm (i*z) z,<-Nat.add_assoc];exact this
def a90{α:Type}(W:AW)(z:Nat)(at_:List Value->Nat->α->Prop)(v:Value)(l:List α):Prop:=Row W z at_ v l/\(∃a c,v=.slice a l.length c/\l.length<=c/\c<bS/\(l≠[]->∃b o,a=some ⟨b,o,none⟩))
theorem DR.row{n:Nat}{t e:TypeId}{cs:List Value}(h:DR P W (n+1) t cs)(ht:P.underlying t=some (.slice e)){at_:List Value->Nat->α->Prop}
 (hat:∀c,c.length=P.cellsOf e->DR P W n e c->∃x:α,∀pre post,at_ (pre++(c++post)) pre.length x):∃v l,cs=[v]/\a90 W (P.cellsOf e) at_ v l:=by
 obtain⟨a,len,cap,rfl,h1,h2,h3⟩:=h.slice ht;rcases h3 with rfl|⟨b,l,rfl,h4,h5,rfl,h6⟩
 ·exact⟨_,[],rfl,⟨a,cap,rfl,.inl rfl⟩,a,cap,rfl,h1,h2,λh=>absurd rfl h⟩
 ·obtain⟨xs,e1,e2⟩:=WR (z:=P.cellsOf e) (at_:=at_) (l:=l) (λc hc=>⟨(h6 c hc).1,hat c (h6 c hc).1 (h6 c hc).2⟩) [];refine⟨_,xs,rfl,⟨_,cap,by rw[e1],.inr ⟨b,0,l.flatten,rfl,h4,h5,λi hi=>?_⟩⟩,_,cap,by rw[e1],by omega,h2,λ_=>⟨b,0,rfl⟩⟩;have:=e2 i hi;simpa using this
theorem DR.ints{n:Nat}{t e:TypeId}{cs:List Value}{k:IntKind}(h:DR P W (n+2) t cs)(ht:P.underlying t=some (.slice e))(he:P.underlying e=some (.int k))(hz:P.cellsOf e=1):∃v l,cs=[v]/\a90 W 1 (H9 k) v l:=by have:=h.row ht (at_:=H9 k) (λc _ hc=>by obtain⟨m,rfl⟩:=hc.int he;refine⟨m,λpre post=>?_⟩;unfold H9;rw[List.getElem?_append_right (by omega)];simp);rwa [hz]at this
theorem fldR.nil{g:TypeId->List Value->Prop}{cs:List Value}(h:fldR g [] cs):cs=[]:=h
theorem fldR.cons{g:TypeId->List Value->Prop}{t:TypeId}{ts:List TypeId}{cs:List Value}(h:fldR g (t::ts) cs):∃c1 c2,cs=c1++c2/\g t c1/\fldR g ts c2:=h
end
section
variable {H:Type} {enc:TypeId×Value->H} {P:Program} {w w':World} {base:Nat} {spare:Nat->Bool} {held:Bool}
theorem Quiet.same{p:MemPlace}(hq:Quiet w w')(hp:p.block<w.heap.size):w.sameAt w' p:=by
 cases p with
 |cell b off=>exact World.cell?_of_block (a:=⟨b,off,none⟩) (hq.block b hp)
 |map b=>exact hq.block b hp
theorem Quiet.trodAll(hq:Quiet w w'):∀{ts:List TypeId} {vs:List Value} {ds:List (DataW H)} {ps:List MemPlace},DataW.TrodAll enc P w base spare held ts vs ds ps->DataW.TrodAll enc P w' base spare held ts vs ds ps
 |[],[],[],_,h=>h
 |_::_,_::_,_::_,_,⟨p,q,⟨n,h1⟩,h2,e⟩=>⟨p,q,⟨n,DataW.trod_carry n _ _ _ h1 (λx hx=>hq.same (DataW.trod_lt n _ _ _ h1 x hx))⟩,hq.trodAll h2,e⟩
theorem a1V{f:Func}{s:ChangeSpec}{args:Array Value}{ds gs:List (DataW H)}{before:List MemPlace}{T:TypeId->Prop}(K:Kids P T)(hz:∀t e,T t->P.underlying t=some (.slice e)->0<P.cellsOf e)(hT:∀t∈f.params.toList,T t)
 (hW:DataW.Whole enc P f.params.toList s.vars false w args.toList ds gs before)(hq:Quiet w w')(hv:s.vars=[])(hfn:s.fn H ds={results:=[.lit (.bool true)],args:=ds}){t:TypeId}(hr:f.resultTypes=#[t])(ht:P.underlying t=some .bool):
 s.post enc P f false true false false w args (.bool true) w':=by
 have hW':=hW;obtain⟨p,q,hA,hV,rfl,_,_⟩:=hW;rw[hv]at hV;obtain⟨rfl,rfl⟩:=trodVars_none hV;have hlt:=hA.lt;refine⟨ds,[],p++[],[],p,[],hW',?_,?_,?_,hq.grown.frame _,λh=>by cases h⟩
 ·rw[hr,List.append_nil,hfn];exact trodAll_cons_mk (shut_bool ht _) trodAll_mk0
 ·rw[List.append_nil,hfn];exact hq.trodAll (hA.respare K hz hT (λx hx=>by simpa using hlt x hx))
 ·rw[hv,List.append_nil,hfn];exact rfl
end
end Go.Eng
namespace Go.Eng
open Go Go.RowKit
variable [PlanTab]
noncomputable def TS(F:Nat)(val:List Value->AW->Option Value):Callee:=λf args W=>match f with
 |.func (.func g) fs cs=>(match Nat.beq g F&&(fs.isEmpty&&cs.isEmpty)with
  |true=>(match val args W with
   |some v=>some (v,W)
   |none=>none)
  |false=>none)
 |_=>none
theorem a2e{P:Program}{ng:List Nat}{F:Nat}{fn:Func}{body:Code}(hfn:P.funcs[F]? =some fn)(hname:(fn.name== "runtime.NumGoroutine")=false)(hb:fn.body=some body){val:List Value->AW->Option Value}
 (hall:∀args W v,val args W=some v->aX v=true/\∀σ (w:World) args',WRel σ W w.heap->LR σ args args'->Calls P F args'.toArray w λe w'=>e=.returned v/\Quiet w w'):aW P ng (TS F val):=by
 intro f args W v W' h σ w f' args' hW hG hf hargs;unfold TS at h;split at h;case h_2=>cases h
 rename_i g fs cs;split at h;case h_2=>cases h
 rename_i hgf;simp only[Bool.and_eq_true,Nat.beq_eq,Array.isEmpty_iff]at hgf;obtain⟨rfl,rfl,rfl⟩:=hgf;split at h;case h_2=>cases h
 rename_i u hu;injection h with h;injection h with h1 h2;subst h1;subst h2;obtain⟨fn',fs',cs',hfr,hfs,hcs,rfl⟩:=hf.func_inv;cases hfr;obtain rfl:fs'=#[]:=by have h1:fs'.toList.length=0:=hfs.1.symm;exact Array.toList_eq_nil_iff.1 (List.length_eq_zero_iff.1 h1)
 obtain rfl:cs'=#[]:=by have h1:cs'.toList.length=0:=hcs.1.symm;exact Array.toList_eq_nil_iff.1 (List.length_eq_zero_iff.1 h1)
 obtain⟨hpl,hc⟩:=hall _ _ _ hu;refine⟨dO hfn hname hb _ w,?_⟩;have e1:(#[]:Array Value)++args'.toArray++#[]=args'.toArray:=by simp
 rw[e1];refine CallsIn.mono (show CallsIn Fence.wide 0 P g _ w _ from(callsIn_wide (n:=0)).2 (hc σ w args' hW hargs)) ?_;rintro e w' ⟨rfl,hq⟩;exact⟨_,rfl,σ,jK hpl,hq.rel hW,hq.ext σ W⟩
noncomputable def aAz(v:Value):Option ByteArray:=match v with
 |.string s=>some s
 |_=>none
noncomputable def a8s:List Value->Option (List ByteArray):=List.rec (motive:=λ_=>Option (List ByteArray)) (some []) (λv _ ih=>match aAz v with
 |some b=>ih.map (λl=>b::l)
 |none=>none)
def a8e(xs:List ByteArray)(sep:ByteArray):List UInt8:=Lib.join (xs.map (·.data.toList)) sep.data.toList
noncomputable def aBz(args:List Value)(W:AW):Option Value:=match args with
 |[.slice (some a) n c,.string sep]=>(match bA W (.slice (some a) n c) n with
  |some cs=>(match a8s cs with
   |some xs=>if 0<n/\n<=1099511627776/\n<=c/\(a8e xs sep).length<=1099511627776 then some (.string ⟨(a8e xs sep).toArray⟩)else none
   |none=>none)
  |none=>none)
 |_=>none
noncomputable def aCN(F:Nat)(T:TypeId):Callee:=λf args W=>match f with
 |.func (.func g) fs cs=>(match Nat.beq g F&&(fs.isEmpty&&cs.isEmpty)with
  |true=>(match args with
   |[.pointer (some ⟨b,0,none⟩)]=>(match W.get b with
    |some (.tc t [p,s])=>if t=T then(match p with
     |.pointer none=>some (.tuple #[],W.put b (.tc T [.pointer (some ⟨b,0,none⟩),s]))
     |.pointer (some ⟨b2,0,none⟩)=>if b2=b then some (.tuple #[],W)else none
     |_=>none)else none
    |_=>none)
   |_=>none)
  |false=>none)
 |_=>none
end Go.Eng
