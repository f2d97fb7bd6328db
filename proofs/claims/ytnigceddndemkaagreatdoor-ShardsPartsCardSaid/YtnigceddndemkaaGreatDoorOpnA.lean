/- Operations told by values, and their laws. -/
import Derived.Test.YtnigceddndemkaaGreatDoorEngB
import Derived.RowKit
import Derived.Sort.Grow
import Derived.CallsIn
import Derived.ChangeArms
import Derived.ReadAgain
import Derived.OpenShut
import Derived.RowKit3
import Derived.Lib.Join
import Derived.Lib.Builder
import Derived.Below
set_option linter.unusedVariables false
set_option linter.unusedSimpArgs false
set_option linter.unusedSectionVars false
namespace Go.Eng
open Go
variable [PlanTab]
noncomputable def lM(P:Program)(ok:Bool)(s:Sem Next):Option Value:=
 if ok then match xY (bB P s)with
  |some v=>if aU v then some v else none
  |none=>none
 else none
noncomputable def mU(v:Value)(W:AW):Option (Value×AW):=some (v,W)
noncomputable def eF(c a b:Value)(W:AW):Option (Value×AW):=match c with
 |.bool true=>some (a,W)
 |.bool false=>some (b,W)
 |_=>none
noncomputable def dP(P:Program)(t:TypeId)(W:AW):Option (Value×AW):=match kK P t with
 |some z=>some (.pointer (some ⟨W.next,0,none⟩),W.add (nP t z.cells.toList))
 |none=>none
noncomputable def eH(x:Value)(W:AW):Option (Value×AW):=some (.pointer (some ⟨W.next,0,none⟩),W.add (.cells x.cells.toList))
noncomputable def a4M(P:Program)(t:TypeId)(vs:List (Nat×Value)):Option Value:=
 match kK P t,P.underlying t with
 |some z,some (.struct fs)=>match qZ P fs.toList with
  |some pl=>(CL (pl.toArray[·]?) z.cells vs).map .agg
  |none=>none
 |some z,some (.array _ e)=>match lC P e with
  |some n=>(CL (λi=>some (i*n,n)) z.cells vs).map .agg
  |none=>none
 |_,_=>none
noncomputable def iO(P:Program)(t:TypeId)(vs:List (Nat×Value))(W:AW):Option (Value×AW):=(a4M P t vs).map λv=>(v,W)
noncomputable def aX(P:Program)(t:TypeId)(len:Nat)(vs:List (Nat×Value))(W:AW):Option (Value×AW):=
 match P.underlying t with
 |some (.slice e)=>match lC P e,kK P e with
  |some n,some z=>
   if len*n<=16777216/\len<bQ/\(Nat.beq z.cells.size n&&z.cells.toList.all bS)=true then
    match CL (λi=>some (i*n,n)) (AL z.cells.toList len).toArray vs with
    |some c=>some (Value.slice (some ⟨W.next,0,none⟩) len len,W.add (.cells c.toList))
    |none=>none
   else none
  |_,_=>none
 |_=>none
noncomputable def PH(P:Program)(t:TypeId)(a:Value)(W:AW):Option (Value×AW):=(nU P W t a).map λv=>(v,W)
noncomputable def BU(W:AW)(b off:Nat)(vs:List Value):Option AW:=match W.get b with
 |some (.cells cs)=>(match FL cs off vs with
  |some l=>some (W.put b (.cells l))
  |none=>none)
 |_=>none
theorem F4(W:AW)(b off:Nat)(vs:List Value):BU W b off vs=match W.get b with
 |some (.cells cs)=>if off+vs.length<=cs.length/\vs.all one=true then some (W.put b (.cells (iB cs off vs)))else none
 |_=>none:=by
 unfold BU;split
 ·rename_i cs hcs;rw[AO];by_cases h:off+vs.length<=cs.length/\vs.all one=true
  ·rw[if_pos h,if_pos h]
  ·rw[if_neg h,if_neg h]
 ·rfl
theorem XM{W W':AW}{b off:Nat}{vs:List Value}(h:BU W b off vs=some W'):nT W b off vs=some W':=by
 unfold BU at h;unfold nT;split at h
 ·rename_i cs hcs;rw[hcs];exact h
 ·cases h
noncomputable def zF(P:Program)(W:AW)(t:TypeId)(x v:Value):Option AW:=
 match x with
 |.pointer (some a)=>match lC P t with
  |some n=>if v.cells.size=n then BU W a.block a.off v.cells.toList else none
  |none=>none
 |_=>none
theorem UI{P:Program}{W W':AW}{t:TypeId}{x v:Value}(h:zF P W t x v=some W'):xD P W t x v=some W':=by
 unfold zF at h;unfold xD;split at h
 ·split at h
  ·rename_i n hn;simp only[hn];split at h
   ·rename_i hc;rw[if_pos hc];exact XM h
   ·cases h
  ·cases h
 ·cases h
noncomputable def a4C(P:Program)(t:TypeId)(a x:Value)(W:AW):Option (Value×AW):=(zF P W t a x).map λW'=>(undef,W')
noncomputable def aH(x:Value)(W:AW):Option (Value×AW):=match x with
 |.pointer (some a)=>some (.pointer (some a),W)
 |.func (.func f) a b=>some (.func (.func f) a b,W)
 |.func (.yield l) a b=>some (.func (.yield l) a b,W)
 |.iface t v=>some (.iface t v,W)
 |_=>none
def opd:Bool->Operand
 |true=>.const undef
 |false=>.tmp 0
noncomputable def kE:Operand->Bool:=Operand.rec (λ_=>false) (λ_=>true) (λ_=>false) (λ_=>false)
theorem IW(op:BinOp)(t:TypeId)(x y:Operand)(a b:Value):eqGuard op t x y a b=eqGuard op t (opd (kE x)) (opd (kE y)) a b:=by cases x<;>cases y<;>rfl
noncomputable def aD(P:Program)(op:BinOp)(t:TypeId)(a b:Bool)(vx vy:Value)(W:AW):Option (Value×AW):=
 match iV P W op t vx vy with
 |some v=>some (v,W)
 |none=>(lM P (aU vx&&(aU vy&&true)) (do pure (.value (<-(do eqGuard op t (opd a) (opd b) vx vy;binOp op t vx vy))))).map λv=>(v,W)
noncomputable def RN(P:Program)(op:UnOp)(x:Value)(W:AW):Option (Value×AW):=
 (lM P (aU x&&true) (do pure (.value (<-Op.unary op x)))).map λv=>(v,W)
noncomputable def a05(P:Program)(s d:TypeId)(x:Value)(W:AW):Option (Value×AW):=
 (EU P W s d x (lM P (aU x&&true) (do pure (.value (<-convert s d x))))).map λv=>(v,W)
noncomputable def uW(P:Program)(t:TypeId)(x:Value)(W:AW):Option (Value×AW):=match P.underlying t with
 |some (.interface _)=>none
 |some _=>some (.iface t x,W)
 |none=>none
noncomputable def rP(fn:Fn)(first captured:Array Value)(W:AW):Option (Value×AW):=match fn with
 |.func f=>some (.func (.func f) first captured,W)
 |_=>none
noncomputable def rZ(P:Program)(t:TypeId)(r:Option Value)(W:AW):Option (Value×AW):=match r with
 |none=>some (Value.map (some W.next),W.add (.map [] 0))
 |some h=>match P.underlying t,h with
  |some (.map _ _),.int _ _=>some (Value.map (some W.next),W.add (.map [] 0))
  |_,_=>none
noncomputable def p8(P:Program)(t:TypeId)(l c:Value)(W:AW):Option (Value×AW):=
 match P.underlying t with
 |some (.slice e)=>match lC P e,kK P e,(P.info? e).map (·.bytes),l,c with
  |some n,some z,some bytes,.int _ (.ofNat l),.int _ (.ofNat c)=>
   if l<=c/\c<9223372036854775808/\c*bytes<=281474976710656/\(jD z (c*n)).toList.all bS=true then
    some (Value.slice (some ⟨W.next,0,none⟩) l c,W.add (.cells (jD z (c*n)).toList))
   else none
  |_,_,_,_,_=>none
 |_=>none
noncomputable def bL(P:Program)(t:TypeId)(x:Value)(lo hi mx:Option Value)(W:AW):Option (Value×AW):=
 match fU P t x lo hi mx with
 |some v=>some (v,W)
 |none=>(lM P ((x::(lo.toList++(hi.toList++mx.toList))).all aU) (do pure (.value (<-Instr.sliceAt t x lo hi mx)))).map λv=>(v,W)
noncomputable def TP(P:Program)(s:TypeId)(x:Value)(f:Nat)(W:AW):Option (Value×AW):=match P.underlying s,x with
 |some (.struct fs),.pointer (some a)=>match fs[f]? with
  |some fl=>match lC P fl.type with
   |some (_+1)=>some (.pointer (some (a.add fl.offset)),W)
   |_=>none
  |none=>none
 |_,_=>none
noncomputable def a4y(P:Program)(t:TypeId)(x:Value)(f:Nat)(W:AW):Option (Value×AW):=match P.underlying t,x with
 |some (.struct fs),.agg cs=>match fs[f]? with
  |some fl=>(zJ P fl.type cs fl.offset).map λv=>(v,W)
  |none=>none
 |_,_=>none
noncomputable def UV(P:Program)(t:TypeId)(x i:Value)(W:AW):Option (Value×AW):=match P.underlying t,x,gI i with
 |some (.slice e),.slice (some a) len _,some n=>match lC P e with
  |some z=>if n<len then some (.pointer (some (a.add (n*z))),W)else none
  |none=>none
 |some (.array len e),.pointer (some a),some n=>match lC P e with
  |some z=>if n<len then some (.pointer (some (a.add (n*z))),W)else none
  |none=>none
 |_,_,_=>none
noncomputable def iJ(P:Program)(t:TypeId)(x i:Value)(W:AW):Option (Value×AW):=match P.underlying t,x,gI i with
 |some (.array len e),.agg cs,some n=>match lC P e with
  |some z=>if n<len then(zJ P e cs (n*z)).map λv=>(v,W)else none
  |none=>none
 |_,_,_=>(lM P (aU x&&(aU i&&true)) (do pure (.value (<-Instr.index t x i)))).map λv=>(v,W)
noncomputable def EE(P:Program)(t:TypeId)(m k:Value)(ok:Bool)(W:AW):Option (Value×AW):=(nZ P W t m k ok).map λv=>(v,W)
noncomputable def lZ(P:Program)(t:TypeId)(m k v:Value)(W:AW):Option (Value×AW):=(jJ P W t m k v).map λW'=>(undef,W')
noncomputable def bG(x:Value)(i:Nat)(W:AW):Option (Value×AW):=match x with
 |.tuple vs=>(vs[i]?).map λv=>(v,W)
 |_=>none
noncomputable def NF(P:Program)(x:Value)(t:TypeId)(ok:Bool)(W:AW):Option (Value×AW):=match P.underlying t,x with
 |some (.interface _),_=>none
 |some _,.iface u v=>if u=t then some (if ok then .tuple #[v,.bool true]else v,W)else none
 |_,_=>none
noncomputable def BV(P:Program)(t:TypeId)(x:Value)(W:AW):Option (Value×AW):=match P.underlying t,x with
 |some .string,.string s=>some (Value.pointer (some ⟨W.next,0,none⟩),W.add (.siter s 0))
 |_,_=>none
noncomputable def a01(it:Value)(W:AW):Option (Value×AW):=match it with
 |.pointer (some ⟨b,0,_⟩)=>match W.get b with
  |some (.siter s pos)=>if pos<s.size then some (.tuple #[.bool true,goInt pos,.int .i32 (Utf8.decode s pos).1],W.put b (.siter s (pos+(Utf8.decode s pos).2)))else some (.tuple #[.bool false],W)
  |_=>none
 |_=>none
noncomputable def aF(P:Program)(b:Builtin)(ts:Array TypeId)(ty:TypeId)(cf:Array Bool)(args:List Value)(W:AW):Option (Value×AW):=
 match b,args with
 |.len,[.slice _ n _]=>match(ts[0]?).bind P.underlying with
  |some (.slice _)=>some (goInt n,W)
  |_=>none
 |.len,[.map none]=>match(ts[0]?).bind P.underlying with
  |some (.map _ _)=>some (goInt 0,W)
  |_=>none
 |.len,[.map (some r)]=>match(ts[0]?).bind P.underlying,W.get r with
  |some (.map _ _),some (.map es _)=>some (goInt es.length,W)
  |_,_=>none
 |.append,[s,x]=>yF P W ts s x
 |.copy,[d,x]=>WH P W ts d x
 |.clear,[x]=>(xI P W ts x).map λW'=>(.tuple #[],W')
 |.delete,[m,k]=>(EI P W ts m k).map λW'=>(.tuple #[],W')
 |.unsafeSliceData,[x]=>(rU x).map λv=>(v,W)
 |.unsafeString,[p,n]=>mP P W ts p n
 |_,_=>(lM P (args.all aU) (builtin b ts ty cf args.toArray)).map λv=>(v,W)
noncomputable def kP(P:Program)(call:Callee)(r:Value)(name:String)(args:List Value)(W:AW):Option (Value×AW):=match r with
 |.iface t v=>match oN P t name with
  |some f=>call (.func (.func f) #[] #[]) (v::args) W
  |none=>none
 |_=>none
noncomputable def a3I(x:Operand)(P:Program)(call:Callee)(o:Oper)(R:PlanTab.Fr)(W:AW):Option (Value×AW):=mU (aC R x) W
noncomputable def a5C(c a b:Operand)(P:Program)(call:Callee)(o:Oper)(R:PlanTab.Fr)(W:AW):Option (Value×AW):=eF (aC R c) (aC R a) (aC R b) W
noncomputable def a5l(t:TypeId)(P:Program)(call:Callee)(o:Oper)(R:PlanTab.Fr)(W:AW):Option (Value×AW):=dP P t W
noncomputable def a8x(t:TypeId)(x:Operand)(P:Program)(call:Callee)(o:Oper)(R:PlanTab.Fr)(W:AW):Option (Value×AW):=eH (aC R x) W
noncomputable def a5c(t:TypeId)(ps:Array (Nat×Operand))(P:Program)(call:Callee)(o:Oper)(R:PlanTab.Fr)(W:AW):Option (Value×AW):=iO P t (oJ R ps) W
noncomputable def QR(t:TypeId)(n:Nat)(ps:Array (Nat×Operand))(P:Program)(call:Callee)(o:Oper)(R:PlanTab.Fr)(W:AW):Option (Value×AW):=aX P t n (oJ R ps) W
noncomputable def a2y(_t:TypeId)(_m _k _v:Operand)(P:Program)(call:Callee)(o:Oper)(R:PlanTab.Fr)(W:AW):Option (Value×AW):=none
noncomputable def a6A(t:TypeId)(a:Operand)(P:Program)(call:Callee)(o:Oper)(R:PlanTab.Fr)(W:AW):Option (Value×AW):=PH P t (aC R a) W
noncomputable def a4D(t:TypeId)(a x:Operand)(P:Program)(call:Callee)(o:Oper)(R:PlanTab.Fr)(W:AW):Option (Value×AW):=a4C P t (aC R a) (aC R x) W
noncomputable def a5M(_g:Nat)(P:Program)(call:Callee)(o:Oper)(R:PlanTab.Fr)(W:AW):Option (Value×AW):=none
noncomputable def YD(x:Operand)(P:Program)(call:Callee)(o:Oper)(R:PlanTab.Fr)(W:AW):Option (Value×AW):=aH (aC R x) W
noncomputable def a4Q(op:BinOp)(t:TypeId)(x y:Operand)(yt:TypeId)(P:Program)(call:Callee)(o:Oper)(R:PlanTab.Fr)(W:AW):Option (Value×AW):=aD P op t (kE x) (kE y) (aC R x) (aC R y) W
noncomputable def a7h(op:UnOp)(t:TypeId)(x:Operand)(P:Program)(call:Callee)(o:Oper)(R:PlanTab.Fr)(W:AW):Option (Value×AW):=RN P op (aC R x) W
noncomputable def a0T(s d:TypeId)(x:Operand)(P:Program)(call:Callee)(o:Oper)(R:PlanTab.Fr)(W:AW):Option (Value×AW):=a05 P s d (aC R x) W
noncomputable def kTO(_d:TypeId)(_x:Operand)(P:Program)(call:Callee)(o:Oper)(R:PlanTab.Fr)(W:AW):Option (Value×AW):=none
noncomputable def F9(t:TypeId)(x:Operand)(P:Program)(call:Callee)(o:Oper)(R:PlanTab.Fr)(W:AW):Option (Value×AW):=uW P t (aC R x) W
noncomputable def XG(fn:Fn)(first captured:Array Operand)(P:Program)(call:Callee)(o:Oper)(R:PlanTab.Fr)(W:AW):Option (Value×AW):=rP fn (first.map (aC R)) (captured.map (aC R)) W
noncomputable def a0b(t:TypeId)(r:Option Operand)(P:Program)(call:Callee)(o:Oper)(R:PlanTab.Fr)(W:AW):Option (Value×AW):=rZ P t (r.map (aC R)) W
noncomputable def UB(t:TypeId)(l c:Operand)(P:Program)(call:Callee)(o:Oper)(R:PlanTab.Fr)(W:AW):Option (Value×AW):=p8 P t (aC R l) (aC R c) W
noncomputable def a4j(t:TypeId)(x:Operand)(lo hi mx:Option Operand)(P:Program)(call:Callee)(o:Oper)(R:PlanTab.Fr)(W:AW):Option (Value×AW):=bL P t (aC R x) (lo.map (aC R)) (hi.map (aC R)) (mx.map (aC R)) W
noncomputable def TJ(s:TypeId)(x:Operand)(f:Nat)(P:Program)(call:Callee)(o:Oper)(R:PlanTab.Fr)(W:AW):Option (Value×AW):=TP P s (aC R x) f W
noncomputable def a4F(t:TypeId)(x:Operand)(f:Nat)(P:Program)(call:Callee)(o:Oper)(R:PlanTab.Fr)(W:AW):Option (Value×AW):=a4y P t (aC R x) f W
noncomputable def U8(t:TypeId)(x i:Operand)(P:Program)(call:Callee)(o:Oper)(R:PlanTab.Fr)(W:AW):Option (Value×AW):=UV P t (aC R x) (aC R i) W
noncomputable def a4a(t:TypeId)(x i:Operand)(P:Program)(call:Callee)(o:Oper)(R:PlanTab.Fr)(W:AW):Option (Value×AW):=iJ P t (aC R x) (aC R i) W
noncomputable def a3i(t:TypeId)(m k:Operand)(ok:Bool)(P:Program)(call:Callee)(o:Oper)(R:PlanTab.Fr)(W:AW):Option (Value×AW):=EE P t (aC R m) (aC R k) ok W
noncomputable def TC(t:TypeId)(m k v:Operand)(P:Program)(call:Callee)(o:Oper)(R:PlanTab.Fr)(W:AW):Option (Value×AW):=lZ P t (aC R m) (aC R k) (aC R v) W
noncomputable def a8c(_t:TypeId)(_m _k:Operand)(P:Program)(call:Callee)(o:Oper)(R:PlanTab.Fr)(W:AW):Option (Value×AW):=none
noncomputable def a6N(_t:TypeId)(_m _s _v:Operand)(P:Program)(call:Callee)(o:Oper)(R:PlanTab.Fr)(W:AW):Option (Value×AW):=none
noncomputable def a4P(t:TypeId)(x:Operand)(P:Program)(call:Callee)(o:Oper)(R:PlanTab.Fr)(W:AW):Option (Value×AW):=BV P t (aC R x) W
noncomputable def a6J(it:Operand)(s:Bool)(P:Program)(call:Callee)(o:Oper)(R:PlanTab.Fr)(W:AW):Option (Value×AW):=match s with
 |true=>a01 (aC R it) W
 |false=>none
noncomputable def kO(_it:Operand)(P:Program)(call:Callee)(o:Oper)(R:PlanTab.Fr)(W:AW):Option (Value×AW):=none
noncomputable def PT(x:Operand)(_t a:TypeId)(ok:Bool)(P:Program)(call:Callee)(o:Oper)(R:PlanTab.Fr)(W:AW):Option (Value×AW):=NF P (aC R x) a ok W
noncomputable def a1i(x:Operand)(i:Nat)(P:Program)(call:Callee)(o:Oper)(R:PlanTab.Fr)(W:AW):Option (Value×AW):=bG (aC R x) i W
noncomputable def a6I(c:Call)(P:Program)(call:Callee)(o:Oper)(R:PlanTab.Fr)(W:AW):Option (Value×AW):=
 match c.callee with
 |.builtin b=>aF P b c.argTypes o.type (c.args.map kE) (c.args.toList.map (aC R)) W
 |.value f=>call (aC R f) (c.args.toList.map (aC R)) W
 |.invoke r name=>kP P call (aC R r) name (c.args.toList.map (aC R)) W
noncomputable def kC(_c:Call)(P:Program)(call:Callee)(o:Oper)(R:PlanTab.Fr)(W:AW):Option (Value×AW):=none
noncomputable def kOO(_c _x:Operand)(P:Program)(call:Callee)(o:Oper)(R:PlanTab.Fr)(W:AW):Option (Value×AW):=none
noncomputable def a6g(_t:TypeId)(_c:Operand)(_ok:Bool)(P:Program)(call:Callee)(o:Oper)(R:PlanTab.Fr)(W:AW):Option (Value×AW):=none
noncomputable def a2k(_cs:Array SelectCase)(_bl:Bool)(P:Program)(call:Callee)(o:Oper)(R:PlanTab.Fr)(W:AW):Option (Value×AW):=none
noncomputable def a7V:Op->Program->Callee->Oper->PlanTab.Fr->AW->Option (Value×AW):=
 Op.rec (motive:=λ_=>Program->Callee->Oper->PlanTab.Fr->AW->Option (Value×AW)) a3I a3I a5C a5l a8x a5c QR a2y a6A a4D a5M a5M YD a4Q a7h a0T kTO F9 XG a0b kTO UB a4j TJ a4F U8 a4a a3i TC a8c a6N a4P a6J kO PT a1i a6I kC kC kO kOO a6g a2k
noncomputable def kOp(P:Program)(call:Callee)(o:Oper)(R:PlanTab.Fr)(W:AW):Option (Value×AW):=a7V o.op P call o R W
theorem vI{P:Program}{R:PlanTab.Fr}{o:Oper}(hs:vR o.op=true):iP P R o=lM P (o.op.operands.toList.all λx=>aU (aC R x)) (execOp (aC R) o):=by unfold iP lM;rw[hs,Bool.true_and];rfl
theorem all_map{α β:Type}(f:α->β)(p:β->Bool)(l:List α):(l.map f).all p=l.all λx=>p (f x):=by rw[List.all_map];rfl
theorem QF(P:Program)(call:Callee)(dst:Option Tmp)(b:Builtin)(args:Array Operand)(ts:Array TypeId)(ty:TypeId)(pos:String)(after:Array Edge)(guard:Option (Nat×Bool))(R:PlanTab.Fr)(W:AW):
 aF P b ts ty (args.map kE) (args.toList.map (aC R)) W=iU P ⟨dst,.call ⟨.builtin b,args,ts⟩,ty,pos,after,guard⟩ b ts (args.toList.map (aC R)) R W:=by
 have hf:lM P ((args.toList.map (aC R)).all aU) (builtin b ts ty (args.map kE) (args.toList.map (aC R)).toArray)=iP P R ⟨dst,.call ⟨.builtin b,args,ts⟩,ty,pos,after,guard⟩:=by
  rw[vI rfl];have h1:((args.toList.map (aC R)).all aU)=((Op.call {callee:=Callee.builtin b,args:=args,argTypes:=ts}).operands.toList.all λx=>aU (aC R x)):=by
   rw[all_map];have:(Op.call {callee:=.builtin b,args:=args,argTypes:=ts}).operands=args:=by simp[Op.operands,Call.operands]
   rw[this]
  have h2:builtin b ts ty (args.map kE) (args.toList.map (aC R)).toArray=execOp (aC R) ⟨dst,.call ⟨.builtin b,args,ts⟩,ty,pos,after,guard⟩:=by
   have h4:args.map kE=args.map (λ|.const _=>true|_=>false):=by congr 1;funext x;cases x<;>rfl
   have h3:(args.toList.map (aC R)).toArray=args.map (aC R):=by apply Array.toList_inj.1;simp
   rw[h4,h3];symm;simp[execOp,resolve,invoke];rfl
  rw[h1,h2]
 unfold aF iU;rw[hf];rfl
def VM:Op->Bool
 |.store .. =>true
 |_=>false
theorem a5g(P:Program)(call:Callee)(o:Oper)(R:PlanTab.Fr)(W:AW)(hs:VM o.op=false):kOp P call o R W=qG P call o R W:=by
 rw[vW];obtain⟨dst,op,type,pos,after,guard⟩:=o;cases op with
 |store t a x=>cases hs
 |pick c a b=>rfl
 |alloc t=>show dP P t W=_;(simp only[gH,J5,dP,AW.new_eq];try rfl)
 |box t x=>show eH (aC R x) W=_;simp only[gH,J5,eH,AW.new_eq]
 |buildSlice t len ps=>show aX P t len (oJ R ps) W=_;(simp only[gH,J5,aX,jR,AW.new_eq];try rfl)
 |binOp op t x y yt=>show aD P op t (kE x) (kE y) (aC R x) (aC R y) W=_;simp only[gH,J5,aD];rw[vI rfl,<-IW];rfl
 |unOp op t x=>show RN P op (aC R x) W=_;simp only[gH,J5,RN];rw[vI rfl];rfl
 |convert s d x=>show a05 P s d (aC R x) W=_;simp only[gH,J5,a05];rw[vI rfl];rfl
 |makeFunc fn a b=>cases fn<;>rfl
 |makeMap t r=>
  cases r with
  |none=>show rZ P t none W=_;(simp only[gH,J5,rZ,AW.new_eq];try rfl)
  |some r=>show rZ P t (some (aC R r)) W=_;(simp only[gH,J5,rZ,AW.new_eq];try rfl)
 |makeSlice t l c=>show p8 P t (aC R l) (aC R c) W=_;(simp only[gH,J5,p8,mK,AW.new_eq];try rfl)
 |slice t x lo hi mx=>
  show bL P t (aC R x) (lo.map (aC R)) (hi.map (aC R)) (mx.map (aC R)) W=_;simp only[gH,J5,bL];rw[vI rfl];have:(aC R x::((lo.map (aC R)).toList++((hi.map (aC R)).toList++(mx.map (aC R)).toList))).all aU=((Op.slice t x lo hi mx).operands.toList.all λx=>aU (aC R x)):=by cases lo<;>cases hi<;>cases mx<;>simp[Op.operands]
  rw[this];rfl
 |index t x i=>show iJ P t (aC R x) (aC R i) W=_;simp only[gH,J5,iJ];rw[vI rfl];rfl
 |range t x=>show BV P t (aC R x) W=_;(simp only[gH,J5,BV,AW.new_eq];try rfl)
 |next it s=>cases s<;>rfl
 |call c=>
  obtain⟨callee,args,ts⟩:=c;cases callee with
  |builtin b=>exact QF P call dst b args ts type pos after guard R W
  |value f=>rfl
  |invoke r name=>rfl
 |_=>rfl
theorem RS{P:Program}{call:Callee}{o:Oper}{R:PlanTab.Fr}{W:AW}{r:Value×AW}(h:kOp P call o R W=some r):qG P call o R W=some r:=by
 cases hs:VM o.op with
 |false=>rw[<-a5g P call o R W hs];exact h
 |true=>
  rw[vW];obtain⟨dst,op,type,pos,after,guard⟩:=o;cases op<;>(try cases hs);rename_i t a x;have h':(zF P W t (aC R a) (aC R x)).map (λW'=>(undef,W'))=some r:=h;simp only[gH,J5];cases hc:zF P W t (aC R a) (aC R x)with
  |none=>rw[hc]at h';cases h'
  |some W'=>rw[hc]at h';rw[UI hc];exact h'
noncomputable def aR(x:Value)(W:AW):Option (Value×AW):=(match x with
 |.pointer (some a)=>(match cellsAt W a.block with
  |some cs=>a2S cs a.off
  |none=>none)
 |_=>none).map λv=>(v,W)
noncomputable def jV(n:Nat)(x:Value)(W:AW):Option (Value×AW):=(match x with
 |.pointer (some a)=>(mW W a.block a.off n).map λ(l:List Value)=>Value.agg l.toArray
 |_=>none).map λv=>(v,W)
noncomputable def mY(n:Nat)(x v:Value)(W:AW):Option (Value×AW):=(match x with
 |.pointer (some a)=>if v.cells.size=n then BU W a.block a.off v.cells.toList else none
 |_=>none).map λW'=>(undef,W')
noncomputable def cB(off:Nat)(x:Value)(W:AW):Option (Value×AW):=match x with
 |.pointer (some a)=>some (.pointer (some (a.add off)),W)
 |_=>none
noncomputable def fdC(off:Nat)(x:Value)(W:AW):Option (Value×AW):=match x with
 |.agg cs=>(cs[off]?).map λv=>(v,W)
 |_=>none
noncomputable def fdA(off n:Nat)(x:Value)(W:AW):Option (Value×AW):=match x with
 |.agg cs=>(some (Value.agg (cs.extract off (off+n)))).map λv=>(v,W)
 |_=>none
noncomputable def jS(z:Nat)(x i:Value)(W:AW):Option (Value×AW):=match x,gI i with
 |.slice (some a) len _,some n=>if n<len then some (.pointer (some (a.add (n*z))),W)else none
 |_,_=>none
noncomputable def ixA(len z:Nat)(x i:Value)(W:AW):Option (Value×AW):=match x,gI i with
 |.pointer (some a),some n=>if n<len then some (.pointer (some (a.add (n*z))),W)else none
 |_,_=>none
end Go.Eng
namespace Go.Eng
open Go
variable [PlanTab]
theorem a5F:∃f:(∀(α ρ:Type),Option α->(α->Option ρ)->Option ρ),f=λ_ _ x g=>x.bind g:=⟨_,rfl⟩
noncomputable def aB{α ρ:Type}(x:Option α)(g:α->Option ρ):Option ρ:=Classical.choose a5F α ρ x g
theorem EO{α ρ:Type}(x:Option α)(g:α->Option ρ):aB x g=x.bind g:=by unfold aB;rw[Classical.choose_spec a5F]
abbrev KT(ρ:Type):=X->PlanTab.Fr->AW->Option ρ
abbrev LT:=X×PlanTab.Fr×AW
noncomputable def bJ(v:Value)(w:Bool):Bool:=match v with|.bool b=>b==w|_=>false
noncomputable def R5(ops:Array Oper)(R:PlanTab.Fr)(o:Oper):Bool:=match o.guard with
 |none=>true
 |some (j,w)=>match(ops[j]?).bind (·.dst)with
  |some t=>bJ (dC R t) w
  |none=>false
theorem PX(ops:Array Oper)(R:PlanTab.Fr)(o:Oper):R5 ops R o=gL ops R o:=by
 unfold R5 gL;cases o.guard with
 |none=>rfl
 |some p=>obtain⟨j,w⟩:=p;simp only;cases(ops[j]?).bind (·.dst)<;>rfl
noncomputable def bF{ρ:Type}(c:Bool)(a b:ρ):ρ:=Bool.rec (motive:=λ_=>ρ) b a c
noncomputable def sV(P:Program)(call:Callee)(ops:Array Oper)(o:Oper)(R:PlanTab.Fr)(W:AW):Option (Value×AW):=
 bF (R5 ops R o) (kOp P call o R W) (some (undef,W))
noncomputable def mvO:Op->Option Operand:=Op.rec (motive:=λ_=>Option Operand) some some (λ_ _ _=>none) (λ_=>none) (λ_ _=>none) (λ_ _=>none) (λ_ _ _=>none) (λ_ _ _ _=>none) (λ_ _=>none) (λ_ _ _=>none) (λ_=>none) (λ_=>none) (λ_=>none) (λ_ _ _ _ _=>none) (λ_ _ _=>none) (λ_ _ _=>none) (λ_ _=>none) (λ_ _=>none) (λ_ _ _=>none) (λ_ _=>none) (λ_ _=>none) (λ_ _ _=>none) (λ_ _ _ _ _=>none) (λ_ _ _=>none) (λ_ _ _=>none) (λ_ _ _=>none) (λ_ _ _=>none) (λ_ _ _ _=>none) (λ_ _ _ _=>none) (λ_ _ _=>none) (λ_ _ _ _=>none) (λ_ _=>none) (λ_ _=>none) (λ_=>none) (λ_ _ _ _=>none) (λ_ _=>none) (λ_=>none) (λ_=>none) (λ_=>none) (λ_=>none) (λ_ _=>none) (λ_ _ _=>none) (λ_ _=>none)
noncomputable def mvG(o:Oper):Option Operand:=Option.rec (motive:=λ_=>Option Operand) (mvO o.op) (λ_=>none) o.guard
noncomputable def R6(P:Program)(call:Callee)(ops:Array Oper){ρ:Type}(K:PlanTab.Fr->AW->Option ρ)(l:List Oper):PlanTab.Fr->AW->Option ρ:=
 List.rec (motive:=λ_=>PlanTab.Fr->AW->Option ρ) (λR W=>K R W) (λo _ ih R W=>Option.rec (motive:=λ_=>Option ρ) (aB (sV P call ops o R W) λr=>ih (dQ R o.dst r.1) r.2) (λx=>ih (dQ R o.dst (aC R x)) W) (mvG o)) l
noncomputable def agV(w:Bool)(r:Option (Value×AW))(v:Value):Bool:=bF w (match r with|some (u,_)=>vsame u v|none=>false) true
noncomputable def agN(w:Bool)(r:Option (Value×AW)):Bool:=bF w r.isSome true
noncomputable def BH(P:Program)(call:Callee)(ops:Array Oper)(R:PlanTab.Fr)(W:AW)(j:Nat):Bool:=match ops[j]? with
 |none=>false
 |some o=>match o.dst with
  |some t=>agV (R5 ops R o) (kOp P call o R W) (dC R t)
  |none=>agN (R5 ops R o) (kOp P call o R W)
noncomputable def O6(P:Program)(call:Callee)(ops:Array Oper){ρ:Type}(K:PlanTab.Fr->AW->Option ρ)(l:List (Nat×List Nat)):PlanTab.Fr->AW->Option ρ:=
 List.rec (motive:=λ_=>PlanTab.Fr->AW->Option ρ) (λR W=>K R W) (λp _ ih R W=>match ops[p.1]? with
  |none=>none
  |some o=>Option.rec (motive:=λ_=>Option ρ) (aB (sV P call ops o R W) λr=>bF (p.2.all (BH P call ops (dQ R o.dst r.1) r.2)) (ih (dQ R o.dst r.1) r.2) none) (λx=>ih (dQ R o.dst (aC R x)) W) (List.rec (motive:=λ_=>Option Operand) (mvG o) (λ_ _ _=>none) p.2)) l
noncomputable def bD(R:PlanTab.Fr)(l:List (Nat×Value)):PlanTab.Fr:=List.rec (motive:=λ_=>PlanTab.Fr->PlanTab.Fr) (λR=>R) (λp _ ih R=>ih (dQ R (some p.1) p.2)) l R
noncomputable def uX{ρ:Type}(x:X)(a b:Option ρ):Option ρ:=X.rec (motive:=λ_=>Option ρ) a (λ_=>b) b x
noncomputable def dY{ρ:Type}(id:Nat)(x:X)(a b:Option ρ):Option ρ:=X.rec (motive:=λ_=>Option ρ) b (λi=>bF (Nat.beq i id) a b) b x
noncomputable def a6c{ρ:Type}(x:X)(a:Option ρ):Option ρ:=X.rec (motive:=λ_=>Option ρ) a (λ_=>none) a x
noncomputable def dD{ρ:Type}(v:Value)(a b:Option ρ):Option ρ:=match v with|.bool c=>bF c a b|_=>none
abbrev CT:=∀ρ:Type,PlanTab.Fr->AW->KT ρ->Option ρ
noncomputable def a9A{ρ:Type}(R:PlanTab.Fr)(W:AW)(K:KT ρ):Option ρ:=K .normal R W
noncomputable def pR:KT LT:=λx R W=>some (x,R,W)
noncomputable def a5o:CT:=λ_ R W K=>K .normal R W
noncomputable def EM(P:Program)(call:Callee)(id:Nat)(ops:Array Oper)(draw:Bool):CT:=λ_ R W K=>match draw with
 |false=>R6 P call ops (K .normal) ops.toList R W
 |true=>match PlanTab.D id ops with
  |none=>R6 P call ops (K .normal) ops.toList R W
  |some pl=>O6 P call ops (K .normal) pl R W
noncomputable def a5X(_ _:Code)(ia ib:CT):CT:=λρ R W K=>ia ρ R W λx R' W'=>X.rec (motive:=λ_=>Option ρ) (ib ρ R' W' K) (λ_=>K x R' W') (K x R' W') x
noncomputable def a4E(c:Operand)(_ _:Code)(ia ib:CT):CT:=λρ R W K=>dD (aC R c) (ia ρ R W K) (ib ρ R W K)
noncomputable def a2I(id:Nat)(_:Code)(ib:CT):CT:=λρ R W K=>ib ρ R W λx R' W'=>X.rec (motive:=λ_=>Option ρ) (K x R' W') (λi=>Bool.rec (motive:=λ_=>Option ρ) (K x R' W') (K .normal R' W') (Nat.beq i id)) (K x R' W') x
noncomputable def a5T(i:Nat):List Nat->List Nat:=List.rec [i] λx l ih=>Bool.rec (x::ih) (x::l) (Nat.beq x i)
noncomputable def U6(a b:List Nat):List Nat:=List.rec b (λx _ ih=>a5T x ih) a
noncomputable def a7n(i:Nat)(a:List Nat):List Nat:=List.rec [] (λx _ ih=>Bool.rec (x::ih) ih (Nat.beq x i)) a
noncomputable def YY:Code->List Nat×Bool:=
 Code.rec (motive:=λ_=>List Nat×Bool) ([],false) (λ_ _ _=>([],false)) (λ_ _ a b=>(U6 a.1 b.1,a.2||b.2)) (λ_ _ _ a b=>(U6 a.1 b.1,a.2||b.2)) (λi _ b=>(a7n i b.1,b.2)) (λ_ b=>b)
  (λ_ _ _ _ a b=>(U6 a.1 b.1,a.2||b.2)) (λi=>([i],false)) (λ_ b=>b) (λ_=>([],false)) (λ_=>([],false)) ([],true) (λ_=>([],false))
noncomputable def jY{ρ:Type}(x:X)(a:Option ρ):Option ρ:=X.rec (motive:=λ_=>Option ρ) none (λ_=>none) a x
noncomputable def uT{ρ:Type}(x:X)(k:X->Option ρ)(ret:Bool)(l:List Nat):Option ρ:=
 List.rec (motive:=λ_=>Option ρ) (bF ret (jY x (k .ret)) none) (λi _ ih=>dY i x (k (.exit i)) ih) l
theorem mF{ρ:Type}{x:X}{k:X->Option ρ}{ret:Bool}{r:ρ}:∀{l:List Nat},uT x k ret l=some r->k x=some r
 |[],h=>by
  cases ret with
  |false=>cases h
  |true=>cases x<;>first|exact h|cases h
 |i::l,h=>by
  cases x with
  |normal=>exact mF (l:=l) h
  |ret=>exact mF (l:=l) h
  |exit j=>
   have h':bF (Nat.beq j i) (k (.exit i)) (uT (.exit j) k ret l)=some r:=h;cases hb:Nat.beq j i with
   |true=>rw[hb]at h';have:=Nat.eq_of_beq_eq_true hb;subst this;exact h'
   |false=>rw[hb]at h';exact mF (l:=l) h'
theorem a3K:∃f:(PlanTab.Fr->AW->Option LT)->Nat->PlanTab.Fr->AW->Option LT,f=jC:=⟨jC,rfl⟩
noncomputable def cO:(PlanTab.Fr->AW->Option LT)->PlanTab.Fr->AW->Option LT:=λf=>Classical.choose a3K f 1000000
theorem PP(f:PlanTab.Fr->AW->Option LT):cO f=jC f 1000000:=by unfold cO;rw[Classical.choose_spec a3K]
noncomputable def a3P(b:Code)(ib:CT):CT:=λ_ R W K=>aB (cO (λR W=>ib LT R W pR) R W) λr=>uT r.1 (λx=>K x r.2.1 r.2.2) (YY b).2 (YY b).1
noncomputable def lW(call:Callee)(f:Value)(obj:AObj)(W:AW):Option (X×AW):=match f with
 |.func (.func i) fs cs=>match call (.func (.func i) fs cs) [.func (.yield W.next) #[] #[]] (W.add obj)with
  |some (_,W2)=>match W2.get W.next with
   |some (.loop st pend _ _ _ _ _)=>(match st with
    |.busy=>none
    |_=>match pend with
     |none=>some (.normal,W2.kill W.next)
     |some (.exit i)=>some (.exit i,W2.kill W.next)
     |some .ret=>some (.ret,W2.kill W.next)
     |_=>none)
   |_=>none
  |none=>none
 |_=>none
noncomputable def LU(call:Callee)(top:Bool)(nt:Nat)(f:Operand)(ps:Array Tmp)(as bd:Code)(_ _:CT):CT:=λ_ R W K=>match top with
 |false=>none
 |true=>aB (lW call (aC R f) (.loop .ready none R nt ps as bd) W) λr=>uX r.1 (K .normal R r.2) (uT r.1 (λx=>K x R r.2) (YY bd).2 (YY bd).1)
noncomputable def a4z(id:Nat):CT:=λ_ R W K=>K (.exit id) R W
noncomputable def a5N:CT:=λ_ R W K=>K .ret R W
noncomputable def a2V(_:Nat):CT:=λ_ R W K=>K .normal R W
noncomputable def a5f(_:Nat):CT:=λ_ _ _ _=>none
noncomputable def a2U(_:Code)(_:CT):CT:=λ_ _ _ _=>none
noncomputable def a0m(_:String):CT:=λ_ _ _ _=>none
noncomputable def gY(P:Program)(call:Callee)(top:Bool)(nt:Nat):Code->CT:=
 Code.rec (motive:=λ_=>CT) a5o (EM P call) a5X a4E a2I a3P (LU call top nt) a4z a2U a2V a5f a5N a0m
section
variable {P:Program} {call:Callee}
theorem FX{ops:Array Oper}{o:Oper}{R:PlanTab.Fr}{W:AW}{r:Value×AW}(h:sV P call ops o R W=some r):jP P call ops o R W=some (dQ R o.dst r.1,r.2):=by
 unfold sV at h;unfold jP;rw[PX]at h;cases hw:gL ops R o with
 |true=>rw[hw]at h;rw[if_pos rfl];have h':kOp P call o R W=some r:=h;rw[RS h']
 |false=>rw[hw]at h;rw[if_neg (by simp)];have h':some (undef,W)=some r:=h;injection h' with h';subst h';rfl
theorem a1G{op:Op}{x:Operand}(h:mvO op=some x):op=.move x\/op=.assign x:=by cases op<;>first|(injection h with h;subst h;first|exact .inl rfl|exact .inr rfl)|cases h
theorem V7{ops:Array Oper}{o:Oper}{R:PlanTab.Fr}{W:AW}{x:Operand}(h:mvG o=some x):jP P call ops o R W=some (dQ R o.dst (aC R x),W):=by
 have hk:sV P call ops o R W=some (aC R x,W):=by
  obtain⟨dst,op,type,pos,after,guard⟩:=o;cases guard with
  |some g=>cases h
  |none=>rcases a1G h with rfl|rfl<;>rfl
 rw[FX hk]
theorem VB{ops:Array Oper}{ρ:Type}{K:PlanTab.Fr->AW->Option ρ}{r:ρ}:∀(l:List Oper) (R:PlanTab.Fr) (W:AW),R6 P call ops K l R W=some r->(pJ P call ops l R W).bind (λq=>K q.1 q.2)=some r:=by
 intro l;induction l with
 |nil=>intro R W h;exact h
 |cons o l ih=>
  intro R W h;cases hm:mvG o with
  |some x=>have h':Option.rec (motive:=λ_=>Option ρ) (aB (sV P call ops o R W) λr=>R6 P call ops K l (dQ R o.dst r.1) r.2) (λx=>R6 P call ops K l (dQ R o.dst (aC R x)) W) (mvG o)=some r:=h;rw[hm]at h';rw[pJ,V7 hm];exact ih _ _ h'
  |none=>
  have h0:Option.rec (motive:=λ_=>Option ρ) (aB (sV P call ops o R W) λr=>R6 P call ops K l (dQ R o.dst r.1) r.2) (λx=>R6 P call ops K l (dQ R o.dst (aC R x)) W) (mvG o)=some r:=h;rw[hm]at h0;have h':aB (sV P call ops o R W) (λr=>R6 P call ops K l (dQ R o.dst r.1) r.2)=some r:=h0;rw[EO]at h';cases hk:sV P call ops o R W with
  |none=>rw[hk]at h';cases h'
  |some q=>rw[hk]at h';rw[pJ,FX hk];exact ih _ _ h'
theorem XA{ops:Array Oper}{R:PlanTab.Fr}{W:AW}(j:Nat)(h:BH P call ops R W j=true):pY P call ops R W j=true:=by
 unfold BH at h;unfold pY;cases ho:ops[j]? with
 |none=>rw[ho]at h;cases h
 |some o=>
  rw[ho]at h;simp only at h|-;rw[PX]at h;cases hd:o.dst with
  |none=>
   rw[hd]at h;simp only[agN]at h;simp only;cases hw:gL ops R o with
   |false=>rfl
   |true=>rw[hw]at h;have h':(kOp P call o R W).isSome=true:=h;obtain⟨q,hq⟩:=Option.isSome_iff_exists.1 h';rw[RS hq];rfl
  |some t=>
   rw[hd]at h;simp only[agV]at h;simp only;cases hw:gL ops R o with
   |false=>rfl
   |true=>
    rw[hw]at h;have h':(match kOp P call o R W with|some (u,_)=>vsame u (dC R t)|none=>false)=true:=h;cases hq:kOp P call o R W with
    |none=>rw[hq]at h';cases h'
    |some q=>rw[hq]at h';rw[RS hq];exact h'
theorem a0S{ops:Array Oper}{ρ:Type}{K:PlanTab.Fr->AW->Option ρ}{r:ρ}:∀(l:List (Nat×List Nat)) (R:PlanTab.Fr) (W:AW),O6 P call ops K l R W=some r->(jF P call ops l R W).bind (λq=>K q.1 q.2)=some r:=by
 intro l;induction l with
 |nil=>intro R W h;exact h
 |cons p l ih=>
  intro R W h;obtain⟨i,re⟩:=p
  have h0:(match ops[i]? with
   |none=>none
   |some o=>Option.rec (motive:=λ_=>Option ρ) (aB (sV P call ops o R W) λr=>bF (re.all (BH P call ops (dQ R o.dst r.1) r.2)) (O6 P call ops K l (dQ R o.dst r.1) r.2) none) (λx=>O6 P call ops K l (dQ R o.dst (aC R x)) W) (List.rec (motive:=λ_=>Option Operand) (mvG o) (λ_ _ _=>none) re))=some r:=h;rw[jF];cases ho:ops[i]? with
  |none=>rw[ho]at h0;cases h0
  |some o=>
   rw[ho]at h0;simp only at h0|-;cases hm:(List.rec (motive:=λ_=>Option Operand) (mvG o) (λ_ _ _=>none) re:Option Operand)with
   |some x=>
    rw[hm]at h0;cases re with
    |cons _ _=>cases hm
    |nil=>rw[V7 hm];exact ih _ _ h0
   |none=>
   rw[hm]at h0;have h':aB (sV P call ops o R W) (λr=>bF (re.all (BH P call ops (dQ R o.dst r.1) r.2)) (O6 P call ops K l (dQ R o.dst r.1) r.2) none)=some r:=h0;rw[EO]at h';cases hk:sV P call ops o R W with
   |none=>rw[hk]at h';cases h'
   |some q=>
    rw[hk]at h';rw[FX hk];simp only[Option.bind_some]at h'|-;cases ha:re.all (BH P call ops (dQ R o.dst q.1) q.2)with
    |false=>rw[ha]at h';cases h'
    |true=>
     rw[ha]at h';have:re.all (pY P call ops (dQ R o.dst q.1) q.2)=true:=by rw[List.all_eq_true]at ha|-;exactλj hj=>XA j (ha j hj)
     rw[if_pos this];exact ih _ _ h'
theorem EZ{f g:PlanTab.Fr->AW->Option LT}(h:∀R W r,f R W=some r->g R W=some r):∀(n:Nat) (R:PlanTab.Fr) (W:AW) (r:LT),jC f n R W=some r->jC g n R W=some r:=by
 intro n;induction n with
 |zero=>intro R W r hr;cases hr
 |succ n ih=>
  intro R W r hr;unfold jC at hr|-;cases hf:f R W with
  |none=>rw[hf]at hr;cases hr
  |some q=>
   rw[h _ _ _ hf];rw[hf]at hr;obtain⟨x,R',W'⟩:=q;cases x with
   |normal=>exact ih _ _ _ hr
   |exit i=>exact hr
   |ret=>exact hr
theorem QQ{top:Bool}{nt:Nat}:∀(c:Code) (ρ:Type) (R:PlanTab.Fr) (W:AW) (K:KT ρ) (r:ρ),gY P call top nt c ρ R W K=some r->(aY P call top nt c R W).bind (λr=>K r.1 r.2.1 r.2.2)=some r:=by
 intro c;induction c with
 |skip=>intro ρ R W K r h;exact h
 |label l=>intro ρ R W K r h;exact h
 |exit id=>intro ρ R W K r h;exact h
 |ret=>intro ρ R W K r h;exact h
 |goto l=>intro ρ R W K r h;exact h
 |scope b _=>intro ρ R W K r h;cases h
 |refuse s=>intro ρ R W K r h;cases h
 |region id ops draw=>
  intro ρ R W K r h;have h:EM P call id ops draw ρ R W K=some r:=h;unfold EM at h;unfold aY;cases draw with
  |false=>
   simp only at h|-;have:=VB _ _ _ h;cases ha:pJ P call ops ops.toList R W with
   |none=>rw[ha]at this;cases this
   |some q=>rw[ha]at this;exact this
  |true=>
   simp only at h|-;cases hd:PlanTab.D id ops with
   |none=>
    rw[hd]at h;simp only at h|-;have:=VB _ _ _ h;cases ha:pJ P call ops ops.toList R W with
    |none=>rw[ha]at this;cases this
    |some q=>rw[ha]at this;exact this
   |some pl=>
    rw[hd]at h;simp only at h|-;have:=a0S _ _ _ h;cases ha:jF P call ops pl R W with
    |none=>rw[ha]at this;cases this
    |some q=>rw[ha]at this;exact this
 |seq a b iha ihb=>
  intro ρ R W K r h;have h1:=iha ρ R W _ r h;rw[aY];cases ha:aY P call top nt a R W with
  |none=>rw[ha]at h1;cases h1
  |some q=>
   rw[ha]at h1;obtain⟨x,R',W'⟩:=q;cases x with
   |normal=>exact ihb _ _ _ _ _ h1
   |exit i=>exact h1
   |ret=>exact h1
 |cond c a b iha ihb=>
  intro ρ R W K r h;have h':dD (aC R c) (gY P call top nt a ρ R W K) (gY P call top nt b ρ R W K)=some r:=h;rw[aY];cases hc:aC R c with
  |bool d=>
   rw[hc]at h';cases d with
   |true=>exact iha _ _ _ _ _ h'
   |false=>exact ihb _ _ _ _ _ h'
  |_=>rw[hc]at h';cases h'
 |block id b ih=>
  intro ρ R W K r h;have h1:=ih ρ R W _ r h;rw[aY];cases ha:aY P call top nt b R W with
  |none=>rw[ha]at h1;cases h1
  |some q=>
   rw[ha]at h1;obtain⟨x,R',W'⟩:=q;cases x with
   |normal=>exact h1
   |ret=>exact h1
   |exit i=>
    have h2:bF (Nat.beq i id) (K .normal R' W') (K (.exit i) R' W')=some r:=h1;by_cases hi:i=id
    ·subst hi;rw[Nat.beq_refl]at h2;simp only[if_true,Option.bind_some];exact h2
    ·have:Nat.beq i id=false:=by
      cases hb:Nat.beq i id with
      |true=>exact absurd (Nat.eq_of_beq_eq_true hb) hi
      |false=>rfl
     rw[this]at h2;simp only[if_neg hi,Option.bind_some];exact h2
 |loop b ih=>
  intro ρ R W K r h;have h':aB (cO (λR W=>gY P call top nt b LT R W pR) R W) (λq=>uT q.1 (λx=>K x q.2.1 q.2.2) (YY b).2 (YY b).1)=some r:=h;rw[EO,PP]at h';cases hl:jC (λR W=>gY P call top nt b LT R W pR) 1000000 R W with
  |none=>rw[hl]at h';cases h'
  |some q=>
   rw[hl]at h';have:=EZ (g:=aY P call top nt b) (λR W q hq=>by
    have:=ih LT R W pR q hq;cases ha:aY P call top nt b R W with
    |none=>rw[ha]at this;cases this
    |some q'=>rw[ha]at this;exact this) _ _ _ _ hl;rw[aY,this];exact mF (show uT q.1 (λx=>K x q.2.1 q.2.2) (YY b).2 (YY b).1=some r from h')
 |rangeFunc f ps as bd _ _=>
  intro ρ R W K r h;have h':LU call top nt f ps as bd (gY P call top nt as) (gY P call top nt bd) ρ R W K=some r:=h;unfold LU at h';cases top with
  |false=>cases h'
  |true=>
   simp only[EO]at h';have h2:(lW call (aC R f) (.loop .ready none R nt ps as bd) W).bind (λq=>K q.1 R q.2)=some r:=by
    cases ho:lW call (aC R f) (.loop .ready none R nt ps as bd) W with
    |none=>rw[ho]at h';cases h'
    |some q=>
     rw[ho]at h';obtain⟨x,W'⟩:=q;cases x with
     |normal=>exact h'
     |exit i=>exact mF (show uT (.exit i) (λx=>K x R W') (YY bd).2 (YY bd).1=some r from h')
     |ret=>exact mF (show uT .ret (λx=>K x R W') (YY bd).2 (YY bd).1=some r from h')
   rw[<-h2];unfold aY lW;simp only;cases aC R f with
   |func fn fs cs=>
    cases fn with
    |func i=>
     simp only[AW.new_eq];cases call (.func (.func i) fs cs) [.func (.yield W.next) #[] #[]] (W.add (.loop .ready none R nt ps as bd))with
     |none=>rfl
     |some r=>
      obtain⟨v,W2⟩:=r;simp only;cases W2.get W.next with
      |none=>rfl
      |some obj=>
       cases obj with
       |loop st pend tm n p a b=>
        cases st<;>simp only<;>(cases pend with
         |none=>rfl
         |some c=>cases c<;>rfl)
       |_=>rfl
    |_=>rfl
   |_=>rfl
theorem KZ{top:Bool}{nt:Nat}{c:Code}{R:PlanTab.Fr}{W:AW}{r:LT}(h:gY P call top nt c LT R W pR=some r):aY P call top nt c R W=some r:=by
 have:=QQ c LT R W pR r h;cases ha:aY P call top nt c R W with
 |none=>rw[ha]at this;cases this
 |some q=>rw[ha]at this;exact this
end
noncomputable def yM(P:Program)(W:AW):List (Value×Option TypeId)->Option (List Value)
 |[]=>some []
 |(v,none)::l=>match yM P W l with
  |some vs=>some (v::vs)
  |none=>none
 |(a,some t)::l=>match nU P W t a with
  |some v=>match yM P W l with
   |some vs=>some (v::vs)
   |none=>none
  |none=>none
noncomputable def aK(P:Program)(l:List (Value×Option TypeId))(W:AW):Option (Value×AW):=match yM P W l with
 |some [v]=>some (v,W)
 |some vs=>some (.tuple vs.toArray,W)
 |none=>none
noncomputable def rv(R:PlanTab.Fr):ResultVar->Value×Option TypeId:=ResultVar.rec (λt=>(dC R t,none)) (λa t=>(dC R a,some t))
theorem IL(P:Program)(W:AW)(R:PlanTab.Fr):∀l:List ResultVar,J6 P W R l=yM P W (l.map (rv R))
 |[]=>rfl
 |.tmp t::l=>by show(match J6 P W R l with|some vs=>some (dC R t::vs)|none=>none)=(match yM P W (l.map (rv R))with|some vs=>some (dC R t::vs)|none=>none);rw[IL P W R l]
 |.cell a t::l=>by show(match nU P W t (dC R a)with|some v=>(match J6 P W R l with|some vs=>some (v::vs)|none=>none)|none=>none)=(match nU P W t (dC R a)with|some v=>(match yM P W (l.map (rv R))with|some vs=>some (v::vs)|none=>none)|none=>none);rw[IL P W R l]
noncomputable def a3b(P:Program)(call:Callee)(nt:Nat)(c:Code)(rs:Array ResultVar)(vals:List Value)(W:AW):Option (Value×AW):=
 gY P call true nt c (Value×AW) (eZ 0 vals PlanTab.blank) W λx R W'=>X.rec (motive:=λ_=>Option (Value×AW)) (aK P (rs.toList.map (rv R)) W') (λ_=>none) (aK P (rs.toList.map (rv R)) W') x
theorem XV{P:Program}{bad:List Nat}{spec call:Callee}{i:Nat}{fn:Func}{c:Code}(hb:LA i bad=false)(hf:P.funcs[i]? =some fn)(hc:fn.body=some c){fs cs:Array Value}{args:List Value}
 (hn:Nat.ble (fs.toList.length+(args.length+cs.toList.length)) fn.ntmps=true){W:AW}{r:Value×AW}(h:a3b P call fn.ntmps c fn.results (fs.toList++(args++cs.toList)) W=some r):
 fO P bad spec call (.func (.func i) fs cs) args W=some r:=by
 unfold a3b at h;have h1:=QQ _ _ _ _ _ _ h;unfold fO;simp only[hb,hf,hc,hn];cases ha:aY P call true fn.ntmps c (eZ 0 (fs.toList++(args++cs.toList)) PlanTab.blank) W with
 |none=>rw[ha]at h1;cases h1
 |some q=>
  rw[ha]at h1;obtain⟨x,R,W'⟩:=q;simp only[Option.bind_some]at h1;rw[<-h1];unfold qN aK;simp only[IL];cases x with
  |exit id=>rfl
  |normal=>simp only[a6c];rcases yM P W' (fn.results.toList.map (rv R))with _|_|⟨v,_|⟨u,l⟩⟩<;>rfl
  |ret=>simp only[a6c];rcases yM P W' (fn.results.toList.map (rv R))with _|_|⟨v,_|⟨u,l⟩⟩<;>rfl
noncomputable def L6(P:Program)(call:Callee)(l:Nat)(nt:Nat)(as bd:Code)(R:PlanTab.Fr)(W:AW):Option (Value×AW):=
 (gY P call false nt as LT R W pR).bind λr1=>uX r1.1 (match r1.2.2.get l with
  |some (.loop .ready pd9 R9 nt9 ps9 as9 bd9)=>(gY P call false nt bd LT r1.2.1 (r1.2.2.put l (.loop .busy pd9 R9 nt9 ps9 as9 bd9)) pR).bind λr2=>(match r2.2.2.get l with
   |some (.loop _ _ R8 nt8 ps8 as8 bd8)=>(match r2.1 with
    |.normal=>some (.bool true,r2.2.2.put l (.loop .ready none R8 nt8 ps8 as8 bd8))
    |x=>some (.bool false,r2.2.2.put l (.loop .done x.jump R8 nt8 ps8 as8 bd8)))
   |_=>none)
  |_=>none) none
theorem QW{P:Program}{bad:List Nat}{spec call:Callee}{l nt:Nat}{R:PlanTab.Fr}{ps:Array Tmp}{as bd:Code}{W:AW}(hl:W.get l=some (.loop .ready none R nt ps as bd)){fs cs:Array Value}{args:List Value}(hn:fs.toList.length+args.length=ps.size)
 {r:Value×AW}(h:L6 P call l nt as bd (nC ps.toList (fs.toList++args) R) W=some r):
 fO P bad spec call (.func (.yield l) fs cs) args W=some r:=by
 unfold L6 at h;have hb:Nat.beq (fs.toList.length+args.length) ps.size=true:=by rw[hn];exact Nat.beq_refl _
 unfold fO;simp only[hl,hb];cases h1:gY P call false nt as LT (nC ps.toList (fs.toList++args) R) W pR with
 |none=>rw[h1]at h;cases h
 |some q=>
  rw[h1]at h;rw[KZ h1];obtain⟨x,R1,W1⟩:=q;simp only[Option.bind_some]at h;cases x with
  |exit id=>cases h
  |ret=>cases h
  |normal=>
   simp only[uX]at h|-;cases hg:W1.get l with
   |none=>rw[hg]at h;cases h
   |some obj=>
    rw[hg]at h;cases obj with
    |loop st pd9 R9 nt9 ps9 as9 bd9=>
     cases st with
     |ready=>
      simp only at h|-;cases h2:gY P call false nt bd LT R1 (W1.put l (.loop .busy pd9 R9 nt9 ps9 as9 bd9)) pR with
      |none=>rw[h2]at h;cases h
      |some q2=>
       rw[h2]at h;rw[KZ h2];obtain⟨x2,R2,W2⟩:=q2;simp only[Option.bind_some]at h|-;cases hg2:W2.get l with
       |none=>rw[hg2]at h;cases h
       |some obj2=>
        rw[hg2]at h;cases obj2 with
        |loop st8 pd8 R8 nt8 ps8 as8 bd8=>cases x2<;>exact h
        |_=>cases h
     |_=>cases h
    |_=>cases h
end Go.Eng
namespace Go.Eng
open Go
noncomputable def XT(R:Nat->Value)(t:Nat)(v:Value):Nat->Value:=λu=>Bool.rec (motive:=λ_=>Value) (R u) v (Nat.beq u t)
noncomputable def a5n:Nat->Value:=λ_=>undef
theorem XW(R:Nat->Value)(t:Nat)(v:Value):XT R t v t=v:=by unfold XT;rw[Nat.beq_refl]
theorem a2b(R:Nat->Value)(t u:Nat)(v:Value)(h:t≠u):XT R t v u=R u:=by
 unfold XT;have:Nat.beq u t=false:=by
  cases hb:Nat.beq u t with
  |true=>exact absurd (Nat.eq_of_beq_eq_true hb).symm h
  |false=>rfl
 rw[this]
@[reducible] noncomputable def funTab (D:Nat->Array Oper->Option (List (Nat×List Nat))) (ng:List Nat) (ex:TypeId->Bool:=λ_=>false):PlanTab where
 D:=D
 ex:=ex
 ng:=ng
 Fr:=Nat->Value
 fget:=λR t=>R t
 fset:=XT
 blank:=a5n
 get_set:=XW
 get_set_ne:=a2b
 get_blank:=λ_=>rfl
noncomputable def frm(R:Nat->Value)(l:List (Nat×Value)):Nat->Value:=l.foldl (λR p=>XT R p.1 p.2) R
noncomputable def a7z(g:Nat):Value:=.pointer (some ⟨g,0,none⟩)
noncomputable def fQ(f:FuncId):Value:=.func (.func f) #[] #[]
def a5h(l:List Nat):ByteArray:=⟨(l.map UInt8.ofNat).toArray⟩
noncomputable def FM(l:List Nat):Value:=.string (a5h l)
def UU(P:Program)(i:Nat):Code:=match P.funcs[i]? with
 |some fn=>(match fn.body with
  |some c=>c
  |none=>.skip)
 |none=>.skip
def a0N(P:Program)(i:Nat):Array ResultVar:=match P.funcs[i]? with
 |some fn=>fn.results
 |none=>#[]
def WI:List Nat->Code->Code
 |[],c=>c
 |n::p,c=>match c with
  |.seq a b=>WI p (if n=0 then a else b)
  |.cond _ a b=>WI p (if n=0 then a else b)
  |.rangeFunc _ _ a b=>WI p (if n=0 then a else b)
  |.block _ b=>WI p b
  |.loop b=>WI p b
  |.scope b=>WI p b
  |_=>.skip
end Go.Eng
namespace Go.Eng
open Go
variable [PlanTab]
def CLe(c d:Callee):Prop:=∀f a W r,c f a W=some r->d f a W=some r
theorem CLe.refl(c:Callee):CLe c c:=λ_ _ _ _ h=>h
theorem CLe.trans{a b c:Callee}(h:CLe a b)(k:CLe b c):CLe a c:=λf x W r e=>k _ _ _ _ (h _ _ _ _ e)
section
variable {P:Program}
theorem O9(P:Program)(o:Oper)(R:PlanTab.Fr)(W:AW):(∀c d:Callee,qG P c o R W=qG P d o R W)\/∃f a,∀c:Callee,qG P c o R W=c f a W:=by
 simp only[vW];obtain⟨dst,op,type,pos,after,guard⟩:=o;cases op with
 |call k=>
  obtain⟨callee,args,ts⟩:=k;cases callee with
  |builtin b=>exact .inl λ_ _=>rfl
  |value f=>exact .inr ⟨_,_,λ_=>rfl⟩
  |invoke r name=>
   simp only[gH];cases aC R r with
   |iface t v=>
    simp only;cases oN P t name with
    |none=>exact .inl λ_ _=>rfl
    |some f=>exact .inr ⟨_,_,λ_=>rfl⟩
   |_=>exact .inl λ_ _=>rfl
 |_=>exact .inl λ_ _=>rfl
theorem VI{c d:Callee}(h:CLe c d){o:Oper}{R:PlanTab.Fr}{W:AW}{r:Value×AW}(e:qG P c o R W=some r):qG P d o R W=some r:=by
 rcases O9 P o R W with hd|⟨f,a,hd⟩
 ·rw[<-e];exact hd _ _
 ·rw[hd]at e|-;exact h _ _ _ _ e
theorem zQ{c d:Callee}(h:CLe c d){ops:Array Oper}{o:Oper}{R:PlanTab.Fr}{W:AW}{r:PlanTab.Fr×AW}(e:jP P c ops o R W=some r):jP P d ops o R W=some r:=by
 unfold jP at e|-;split
 ·rename_i hw;rw[if_pos hw]at e;cases ho:qG P c o R W with
  |none=>rw[ho]at e;cases e
  |some q=>rw[ho]at e;rw[VI h ho];exact e
 ·rename_i hw;rw[if_neg hw]at e;exact e
theorem L9{c d:Callee}(h:CLe c d){ops:Array Oper}:∀{l:List Oper} {R:PlanTab.Fr} {W:AW} {r:PlanTab.Fr×AW},pJ P c ops l R W=some r->pJ P d ops l R W=some r:=by
 intro l;induction l with
 |nil=>intro R W r e;exact e
 |cons o l ih=>
  intro R W r e;rw[pJ]at e|-;cases hs:jP P c ops o R W with
  |none=>rw[hs]at e;cases e
  |some q=>rw[hs]at e;rw[zQ h hs];exact ih e
theorem yD{c d:Callee}(h:CLe c d){ops:Array Oper}{R:PlanTab.Fr}{W:AW}{j:Nat}(e:pY P c ops R W j=true):pY P d ops R W j=true:=by
 unfold pY at e|-;cases hj:ops[j]? with
 |none=>rw[hj]at e;cases e
 |some o=>
  rw[hj]at e;simp only at e|-;split
  ·rename_i hw;rw[if_pos hw]at e;cases ho:qG P c o R W with
   |none=>rw[ho]at e;cases e
   |some q=>rw[ho]at e;rw[VI h ho];exact e
  ·rfl
theorem QM{c d:Callee}(h:CLe c d){ops:Array Oper}:∀{l:List (Nat×List Nat)} {R:PlanTab.Fr} {W:AW} {r:PlanTab.Fr×AW},jF P c ops l R W=some r->jF P d ops l R W=some r:=by
 intro l;induction l with
 |nil=>intro R W r e;exact e
 |cons p l ih=>
  intro R W r e;obtain⟨i,re⟩:=p;rw[jF]at e|-;cases hi:ops[i]? with
  |none=>rw[hi]at e;cases e
  |some o=>
   rw[hi]at e;simp only at e|-;cases hs:jP P c ops o R W with
   |none=>rw[hs]at e;cases e
   |some q=>
    rw[hs]at e;rw[zQ h hs];simp only at e|-;split at e
    ·rename_i hr;rw[if_pos (List.all_eq_true.2 λj hj=>yD h (List.all_eq_true.1 hr j hj))];exact ih e
    ·cases e
theorem kS{c d:Callee}(h:CLe c d){top:Bool}{nt:Nat}:∀(k:Code) {R:PlanTab.Fr} {W:AW} {r:LT},aY P c top nt k R W=some r->aY P d top nt k R W=some r:=by
 intro k;induction k with
 |skip=>intro R W r e;exact e
 |label l=>intro R W r e;exact e
 |exit id=>intro R W r e;exact e
 |ret=>intro R W r e;exact e
 |goto l=>intro R W r e;exact e
 |scope b _=>intro R W r e;exact e
 |refuse s=>intro R W r e;exact e
 |region id ops draw=>
  intro R W r e;unfold aY at e|-;cases draw with
  |false=>
   simp only at e|-;cases hs:pJ P c ops ops.toList R W with
   |none=>rw[hs]at e;cases e
   |some q=>rw[hs]at e;rw[L9 h hs];exact e
  |true=>
   simp only at e|-;cases hD:PlanTab.D id ops with
   |none=>
    rw[hD]at e;simp only at e|-;cases hs:pJ P c ops ops.toList R W with
    |none=>rw[hs]at e;cases e
    |some q=>rw[hs]at e;rw[L9 h hs];exact e
   |some pl=>
    rw[hD]at e;simp only at e|-;cases hs:jF P c ops pl R W with
    |none=>rw[hs]at e;cases e
    |some q=>rw[hs]at e;rw[QM h hs];exact e
 |seq a b iha ihb=>
  intro R W r e;rw[aY]at e|-;cases ha:aY P c top nt a R W with
  |none=>rw[ha]at e;cases e
  |some q=>
   rw[ha]at e;rw[iha ha];obtain⟨x,R',W'⟩:=q;cases x with
   |normal=>exact ihb e
   |exit i=>exact e
   |ret=>exact e
 |cond o a b iha ihb=>
  intro R W r e;rw[aY]at e|-;cases ho:aC R o with
  |bool t=>rw[ho]at e;cases t with
   |true=>exact iha e
   |false=>exact ihb e
  |_=>rw[ho]at e;cases e
 |block id b ih=>
  intro R W r e;rw[aY]at e|-;cases hb:aY P c top nt b R W with
  |none=>rw[hb]at e;cases e
  |some q=>rw[hb]at e;rw[ih hb];exact e
 |loop b ih=>intro R W r e;rw[aY]at e|-;exact EZ (λR W q hq=>ih hq) _ _ _ _ e
 |rangeFunc f ps as bd _ _=>
  intro R W r e;unfold aY at e|-;cases top with
  |false=>cases e
  |true=>
   simp only at e|-;cases hf:aC R f with
   |func fn fs cs=>
    rw[hf]at e;cases fn with
    |func i=>
     simp only[AW.new_eq]at e|-;cases hc:c (.func (.func i) fs cs) [.func (.yield W.next) #[] #[]] (W.add (.loop .ready none R nt ps as bd))with
     |none=>rw[hc]at e;cases e
     |some q=>rw[hc]at e;rw[h _ _ _ _ hc];exact e
    |_=>cases e
   |_=>rw[hf]at e;cases e
theorem PV{bad:List Nat}{spec c d:Callee}(h:CLe c d):CLe (fO P bad spec c) (fO P bad spec d):=by
 intro f a W r e;unfold fO at e|-;cases f with
 |func fn fs cs=>
  cases fn with
  |func i=>
   simp only at e|-;cases hb:LA i bad with
   |true=>rw[hb]at e;exact e
   |false=>
    rw[hb]at e;simp only at e|-;cases hf:P.funcs[i]? with
    |none=>rw[hf]at e;cases e
    |some fn=>
     rw[hf]at e;simp only at e|-;cases hc:fn.body with
     |none=>rw[hc]at e;cases e
     |some k=>
      rw[hc]at e;simp only at e|-;cases hl:Nat.ble (fs.toList.length+(a.length+cs.toList.length)) fn.ntmps with
      |false=>rw[hl]at e;cases e
      |true=>
       rw[hl]at e;simp only at e|-;cases hk:aY P c true fn.ntmps k (eZ 0 (fs.toList++(a++cs.toList)) PlanTab.blank) W with
       |none=>rw[hk]at e;cases e
       |some q=>rw[hk]at e;rw[kS h k hk];exact e
  |yield l=>
   simp only at e|-;split at e;case h_2=>cases e
   rename_i R nt ps as bd hl;cases hn:Nat.beq (fs.toList.length+a.length) ps.size with
   |false=>rw[hn]at e;cases e
   |true=>
    rw[hn]at e;simp only at e|-;cases h1:aY P c false nt as (nC ps.toList (fs.toList++a) R) W with
    |none=>rw[h1]at e;cases e
    |some q=>
     rw[h1]at e;rw[kS h as h1];obtain⟨x,R1,W1⟩:=q;cases x with
     |normal=>
      simp only at e|-;split at e;case h_2=>cases e
      rename_i pd9 R9 nt9 ps9 as9 bd9 hg;cases h2:aY P c false nt bd R1 (W1.put l (.loop .busy pd9 R9 nt9 ps9 as9 bd9))with
      |none=>rw[h2]at e;cases e
      |some q2=>rw[h2]at e;rw[kS h bd h2];exact e
     |exit i=>cases e
     |ret=>cases e
  |_=>cases e
 |_=>cases e
section
variable {c:Nat->Callee} {o:Callee}
structure Lim (c:Nat->Callee) (o:Callee):Prop where
 up:∀n,CLe (c n) (c (n+1))
 of:∀f a W r,o f a W=some r->∃n,c n f a W=some r
theorem Lim.le(h:Lim c o){m n:Nat}(hmn:m<=n):CLe (c m) (c n):=by
 induction hmn with
 |refl=>exact .refl _
 |step _ ih=>exact ih.trans (h.up _)
theorem QV(h:Lim c o){op:Oper}{R:PlanTab.Fr}{W:AW}{r:Value×AW}(e:qG P o op R W=some r):∃n,qG P (c n) op R W=some r:=by
 rcases O9 P op R W with hd|⟨f,a,hd⟩
 ·exact⟨0,by rw[<-e];exact hd _ _⟩
 ·rw[hd]at e;obtain⟨n,hn⟩:=h.of _ _ _ _ e;exact⟨n,by rw[hd];exact hn⟩
theorem KS(h:Lim c o){ops:Array Oper}{op:Oper}{R:PlanTab.Fr}{W:AW}{r:PlanTab.Fr×AW}(e:jP P o ops op R W=some r):∃n,jP P (c n) ops op R W=some r:=by
 unfold jP at e|-;split at e
 ·rename_i hw;cases ho:qG P o op R W with
  |none=>rw[ho]at e;cases e
  |some q=>rw[ho]at e;obtain⟨n,hn⟩:=QV h ho;exact⟨n,by rw[if_pos hw,hn];exact e⟩
 ·rename_i hw;exact⟨0,by rw[if_neg hw];exact e⟩
theorem PS(h:Lim c o){ops:Array Oper}:∀{l:List Oper} {R:PlanTab.Fr} {W:AW} {r:PlanTab.Fr×AW},pJ P o ops l R W=some r->∃n,pJ P (c n) ops l R W=some r:=by
 intro l;induction l with
 |nil=>intro R W r e;exact⟨0,e⟩
 |cons op l ih=>
  intro R W r e;rw[pJ]at e;cases hs:jP P o ops op R W with
  |none=>rw[hs]at e;cases e
  |some q=>rw[hs]at e;obtain⟨n,hn⟩:=KS h hs;obtain⟨m,hm⟩:=ih e;refine⟨max n m,?_⟩;rw[pJ,zQ (h.le (Nat.le_max_left n m)) hn];exact L9 (h.le (Nat.le_max_right n m)) hm
theorem WV(h:Lim c o){ops:Array Oper}{R:PlanTab.Fr}{W:AW}{j:Nat}(e:pY P o ops R W j=true):∃n,pY P (c n) ops R W j=true:=by
 unfold pY at e|-;cases hj:ops[j]? with
 |none=>rw[hj]at e;cases e
 |some op=>
  rw[hj]at e;simp only at e|-;split at e
  ·rename_i hw;cases ho:qG P o op R W with
   |none=>rw[ho]at e;cases e
   |some q=>rw[ho]at e;obtain⟨n,hn⟩:=QV h ho;exact⟨n,by rw[if_pos hw,hn];exact e⟩
  ·rename_i hw;exact⟨0,by rw[if_neg hw]⟩
theorem J8(h:Lim c o){ops:Array Oper}{R:PlanTab.Fr}{W:AW}:∀{l:List Nat},l.all (pY P o ops R W)=true->∃n,l.all (pY P (c n) ops R W)=true:=by
 intro l;induction l with
 |nil=>intro _;exact⟨0,rfl⟩
 |cons j l ih=>intro e;simp only[List.all_cons,Bool.and_eq_true]at e;obtain⟨n,hn⟩:=WV h e.1;obtain⟨m,hm⟩:=ih e.2;refine⟨max n m,?_⟩;simp only[List.all_cons,Bool.and_eq_true];exact⟨yD (h.le (Nat.le_max_left n m)) hn,List.all_eq_true.2 λj hj=>yD (h.le (Nat.le_max_right n m)) (List.all_eq_true.1 hm j hj)⟩
theorem WR(h:Lim c o){ops:Array Oper}:∀{l:List (Nat×List Nat)} {R:PlanTab.Fr} {W:AW} {r:PlanTab.Fr×AW},jF P o ops l R W=some r->∃n,jF P (c n) ops l R W=some r:=by
 intro l;induction l with
 |nil=>intro R W r e;exact⟨0,e⟩
 |cons p l ih=>
  intro R W r e;obtain⟨i,re⟩:=p;rw[jF]at e;cases hi:ops[i]? with
  |none=>rw[hi]at e;cases e
  |some op=>
   rw[hi]at e;simp only at e;cases hs:jP P o ops op R W with
   |none=>rw[hs]at e;cases e
   |some q=>
    rw[hs]at e;simp only at e;split at e
    ·rename_i hr;obtain⟨n,hn⟩:=KS h hs;obtain⟨m,hm⟩:=J8 h hr;obtain⟨k,hk⟩:=ih e;refine⟨max n (max m k),?_⟩;rw[jF,hi];simp only;rw[zQ (h.le (Nat.le_max_left n _)) hn];simp only;rw[if_pos (List.all_eq_true.2 λj hj=>yD (h.le (by omega)) (List.all_eq_true.1 hm j hj))];exact QM (h.le (by omega)) hk
    ·cases e
theorem XR(h:Lim c o){top:Bool}{nt:Nat}{k:Code}(ih:∀{R:PlanTab.Fr} {W:AW} {r:LT},aY P o top nt k R W=some r->∃n,aY P (c n) top nt k R W=some r):
 ∀(m:Nat) {R:PlanTab.Fr} {W:AW} {r:LT},jC (aY P o top nt k) m R W=some r->∃n,jC (aY P (c n) top nt k) m R W=some r:=by
 intro m;induction m with
 |zero=>intro R W r e;cases e
 |succ m ihm=>
  intro R W r e;unfold jC at e;cases hb:aY P o top nt k R W with
  |none=>rw[hb]at e;cases e
  |some q=>
   rw[hb]at e;obtain⟨n,hn⟩:=ih hb;obtain⟨x,R',W'⟩:=q;cases x with
   |normal=>obtain⟨j,hj⟩:=ihm e;refine⟨max n j,?_⟩;unfold jC;rw[kS (h.le (Nat.le_max_left n j)) k hn];exact EZ (λR W q hq=>kS (h.le (Nat.le_max_right n j)) k hq) _ _ _ _ hj
   |exit i=>exact⟨n,by unfold jC;rw[hn];exact e⟩
   |ret=>exact⟨n,by unfold jC;rw[hn];exact e⟩
theorem BR(h:Lim c o){top:Bool}{nt:Nat}:∀(k:Code) {R:PlanTab.Fr} {W:AW} {r:LT},aY P o top nt k R W=some r->∃n,aY P (c n) top nt k R W=some r:=by
 intro k;induction k with
 |skip=>intro R W r e;exact⟨0,e⟩
 |label l=>intro R W r e;exact⟨0,e⟩
 |exit id=>intro R W r e;exact⟨0,e⟩
 |ret=>intro R W r e;exact⟨0,e⟩
 |goto l=>intro R W r e;exact⟨0,e⟩
 |scope b _=>intro R W r e;exact⟨0,e⟩
 |refuse s=>intro R W r e;exact⟨0,e⟩
 |region id ops draw=>
  intro R W r e;unfold aY at e|-;cases draw with
  |false=>
   simp only at e|-;cases hs:pJ P o ops ops.toList R W with
   |none=>rw[hs]at e;cases e
   |some q=>rw[hs]at e;obtain⟨n,hn⟩:=PS h hs;exact⟨n,by rw[hn];exact e⟩
  |true=>
   simp only at e|-;cases hD:PlanTab.D id ops with
   |none=>
    rw[hD]at e;simp only at e|-;cases hs:pJ P o ops ops.toList R W with
    |none=>rw[hs]at e;cases e
    |some q=>rw[hs]at e;obtain⟨n,hn⟩:=PS h hs;exact⟨n,by rw[hn];exact e⟩
   |some pl=>
    rw[hD]at e;simp only at e|-;cases hs:jF P o ops pl R W with
    |none=>rw[hs]at e;cases e
    |some q=>rw[hs]at e;obtain⟨n,hn⟩:=WR h hs;exact⟨n,by rw[hn];exact e⟩
 |seq a b iha ihb=>
  intro R W r e;rw[aY]at e;cases ha:aY P o top nt a R W with
  |none=>rw[ha]at e;cases e
  |some q=>
   rw[ha]at e;obtain⟨n,hn⟩:=iha ha;obtain⟨x,R',W'⟩:=q;cases x with
   |normal=>obtain⟨m,hm⟩:=ihb e;refine⟨max n m,?_⟩;rw[aY,kS (h.le (Nat.le_max_left n m)) a hn];exact kS (h.le (Nat.le_max_right n m)) b hm
   |exit i=>exact⟨n,by rw[aY,hn];exact e⟩
   |ret=>exact⟨n,by rw[aY,hn];exact e⟩
 |cond q a b iha ihb=>
  intro R W r e;rw[aY]at e;cases ho:aC R q with
  |bool t=>rw[ho]at e;cases t with
   |true=>obtain⟨n,hn⟩:=iha e;exact⟨n,by rw[aY,ho];exact hn⟩
   |false=>obtain⟨n,hn⟩:=ihb e;exact⟨n,by rw[aY,ho];exact hn⟩
  |_=>rw[ho]at e;cases e
 |block id b ih=>
  intro R W r e;rw[aY]at e;cases hb:aY P o top nt b R W with
  |none=>rw[hb]at e;cases e
  |some q=>rw[hb]at e;obtain⟨n,hn⟩:=ih hb;exact⟨n,by rw[aY,hn];exact e⟩
 |loop b ih=>intro R W r e;rw[aY]at e;obtain⟨n,hn⟩:=XR h (λe=>ih e) _ e;exact⟨n,by rw[aY];exact hn⟩
 |rangeFunc f ps as bd _ _=>
  intro R W r e;unfold aY at e|-;cases top with
  |false=>cases e
  |true=>
   simp only at e|-;cases hf:aC R f with
   |func fn fs cs=>
    rw[hf]at e;cases fn with
    |func i=>
     simp only[AW.new_eq]at e|-;cases hc:o (.func (.func i) fs cs) [.func (.yield W.next) #[] #[]] (W.add (.loop .ready none R nt ps as bd))with
     |none=>rw[hc]at e;cases e
     |some q=>rw[hc]at e;obtain⟨n,hn⟩:=h.of _ _ _ _ hc;exact⟨n,by rw[hn];exact e⟩
    |_=>cases e
   |_=>rw[hf]at e;cases e
theorem YJ(h:Lim c o){bad:List Nat}{spec:Callee}{f:Value}{a:List Value}{W:AW}{r:Value×AW}(e:fO P bad spec o f a W=some r):∃n,fO P bad spec (c n) f a W=some r:=by
 unfold fO at e|-;cases f with
 |func fn fs cs=>
  cases fn with
  |func i=>
   simp only at e|-;cases hb:LA i bad with
   |true=>rw[hb]at e;exact⟨0,e⟩
   |false=>
    rw[hb]at e;simp only at e|-;cases hf:P.funcs[i]? with
    |none=>rw[hf]at e;cases e
    |some fn=>
     rw[hf]at e;simp only at e|-;cases hc:fn.body with
     |none=>rw[hc]at e;cases e
     |some k=>
      rw[hc]at e;simp only at e|-;cases hl:Nat.ble (fs.toList.length+(a.length+cs.toList.length)) fn.ntmps with
      |false=>rw[hl]at e;cases e
      |true=>
       rw[hl]at e;simp only at e|-;cases hk:aY P o true fn.ntmps k (eZ 0 (fs.toList++(a++cs.toList)) PlanTab.blank) W with
       |none=>rw[hk]at e;cases e
       |some q=>rw[hk]at e;obtain⟨n,hn⟩:=BR h k hk;exact⟨n,by rw[hn];exact e⟩
  |yield l=>
   simp only at e|-;split at e;case h_2=>cases e
   rename_i R nt ps as bd hl;cases hn:Nat.beq (fs.toList.length+a.length) ps.size with
   |false=>rw[hn]at e;cases e
   |true=>
    rw[hn]at e;simp only at e|-;cases h1:aY P o false nt as (nC ps.toList (fs.toList++a) R) W with
    |none=>rw[h1]at e;cases e
    |some q=>
     rw[h1]at e;obtain⟨n,hn1⟩:=BR h as h1;obtain⟨x,R1,W1⟩:=q;cases x with
     |normal=>
      simp only at e;split at e;case h_2=>cases e
      rename_i pd9 R9 nt9 ps9 as9 bd9 hg;cases h2:aY P o false nt bd R1 (W1.put l (.loop .busy pd9 R9 nt9 ps9 as9 bd9))with
      |none=>rw[h2]at e;cases e
      |some q2=>rw[h2]at e;obtain⟨m,hm⟩:=BR h bd h2;refine⟨max n m,?_⟩;rw[kS (h.le (Nat.le_max_left n m)) as hn1];simp only;rw[hg];simp only;rw[kS (h.le (Nat.le_max_right n m)) bd hm];exact e
     |exit i=>cases e
     |ret=>cases e
  |_=>cases e
 |_=>cases e
end
end
end Go.Eng
namespace Go.Eng
open Go
variable [PlanTab]
theorem FnR.back{σ σ':bM}(hs:Sub σ σ'){f u u':Fn}(h:FnR σ f u)(k:FnR σ' f u'):FnR σ f u':=by
 cases h with
 |func f=>cases k;exact .func f
 |yield l g hg=>
  cases k with
  |yield _ g' hg'=>have:=(hs _ _ hg).symm.trans hg';injection this with this;subst this;exact .yield l g hg
theorem VR.back{σ σ':bM}(hs:Sub σ σ'){v u:Value}(h:VR σ v u):∀{u':Value},VR σ' v u'->VR σ v u':=by
 induction h with
 |bool b=>intro u' k;cases k;exact .bool b
 |int k n=>intro u' k;cases k;exact .int _ _
 |float k n=>intro u' k;cases k;exact .float _ _
 |string s=>intro u' k;cases k;exact .string s
 |pnil=>intro u' k;cases k;exact .pnil
 |ptr a g hg hsp=>
  intro u' k;cases k with
  |ptr _ g' hg' hs'=>have:=(hs _ _ hg).symm.trans hg';injection this with this;subst this;exact .ptr a g hg hsp
 |snil l c=>intro u' k;cases k;exact .snil _ _
 |slice a l c c' g hg hsp hc=>
  intro u' k;cases k with
  |slice _ _ _ c2 g' hg' hs' hc'=>have:=(hs _ _ hg).symm.trans hg';injection this with this;subst this;exact .slice a l c c2 g hg hsp hc'
  |sliceE _ a' _ g' hg' hc'=>have:=(hs _ _ hg).symm.trans hg';injection this with this;subst this;exact .sliceE a a' c g hg hc'
 |sliceE a a' c g hg hc=>
  intro u' k;cases k with
  |slice _ _ _ c2 g' hg' hs' hc'=>have:=(hs _ _ hg).symm.trans hg';injection this with this;subst this;exact .slice a 0 c c2 g hg hs' hc'
  |sliceE _ a2 _ g' hg' hc'=>exact .sliceE a a2 c g hg hc'
 |mnil=>intro u' k;cases k;exact .mnil
 |map r g hg=>
  intro u' k;cases k with
  |map _ g' hg'=>have:=(hs _ _ hg).symm.trans hg';injection this with this;subst this;exact .map r g hg
 |nilFunc=>intro u' k;cases k;exact .nilFunc
 |func fn fn' fs fs' cs cs' hf h1 _ h3 _ ih1 ih2=>
  intro u' k;cases k with
  |func _ fn2 _ fs2 _ cs2 kf k1 k2 k3 k4=>
   refine .func _ _ _ _ _ _ (hf.back hs kf) k1 (λi v v' a b=>?_) k3 (λi v v' a b=>?_)
   ·have hi:i<fs'.size:=by rw[<-h1];exact(Array.getElem?_eq_some_iff.1 a).1
    exact ih1 i v _ a (Array.getElem?_eq_getElem hi) (k2 i v v' a b)
   ·have hi:i<cs'.size:=by rw[<-h3];exact(Array.getElem?_eq_some_iff.1 a).1
    exact ih2 i v _ a (Array.getElem?_eq_getElem hi) (k4 i v v' a b)
 |nilIface=>intro u' k;cases k;exact .nilIface
 |iface t v v' _ ih=>
  intro u' k;cases k with
  |iface _ _ v2 k=>exact .iface t v v2 (ih k)
 |agg cs cs' h1 _ ih=>
  intro u' k;cases k with
  |agg _ cs2 k1 k2=>
   refine .agg _ _ k1 λi v v' a b=>?_
   have hi:i<cs'.size:=by rw[<-h1];exact(Array.getElem?_eq_some_iff.1 a).1
   exact ih i v _ a (Array.getElem?_eq_getElem hi) (k2 i v v' a b)
 |tuple cs cs' h1 _ ih=>
  intro u' k;cases k with
  |tuple _ cs2 k1 k2=>
   refine .tuple _ _ k1 λi v v' a b=>?_
   have hi:i<cs'.size:=by rw[<-h1];exact(Array.getElem?_eq_some_iff.1 a).1
   exact ih i v _ a (Array.getElem?_eq_getElem hi) (k2 i v v' a b)
theorem ORel.back{σ σ':bM}(hs:Sub σ σ'){h h':Array Obj}{g:Seg}{o:AObj}(a:ORel σ h g o)(b:ORel σ' h' g o):ORel σ h' g o:=by
 cases o with
 |cells cs=>obtain⟨c1,t1,_,_,_,_,_,e4⟩:=a;obtain⟨c2,t2,fr2,f1,f0,f2,f3,f4⟩:=b;refine⟨c2,t2,fr2,f1,f0,f2,f3,λi v hv=>?_⟩;obtain⟨v1,_,x⟩:=e4 i v hv;obtain⟨v2,y1,y2⟩:=f4 i v hv;exact⟨v2,y1,x.back hs y2⟩
 |ro cs=>obtain⟨c1,t1,fr1,_,_,e4⟩:=a;obtain⟨c2,t2,fr2,f1,f2,f4⟩:=b;refine⟨c2,t2,fr2,f1,f2,λi v hv=>?_⟩;obtain⟨v1,_,x⟩:=e4 i v hv;obtain⟨v2,y1,y2⟩:=f4 i v hv;exact⟨v2,y1,x.back hs y2⟩
 |map es clock=>
  obtain⟨e1,e2,es1,_,⟨e3,e4⟩⟩:=a;obtain⟨f1,f2,es2,f3,⟨f4,f5⟩⟩:=b;refine⟨f1,f2,es2,f3,f4,λi e e' x y=>?_⟩;have hi:i<es1.toList.length:=by rw[<-e3];exact(List.getElem?_eq_some_iff.1 x).1
  obtain⟨p1,p2,_⟩:=e4 i e _ x (List.getElem?_eq_getElem hi);obtain⟨q1,q2,q3⟩:=f5 i e e' x y;exact⟨p1.back hs q1,p2.back hs q2,q3⟩
 |loop st pend R nt ps as bd=>obtain⟨_,_,r1,_,_,_,⟨_,e4⟩,_,_,_,e8,e9,e10⟩:=a;obtain⟨f1,f2,r2,f3,f4,f5,⟨f6,f7⟩,f8,f9,f10,_,_,_⟩:=b;exact⟨f1,f2,r2,f3,f4,f5,⟨f6,λt ht=>(e4 t ht).back hs (f7 t ht)⟩,f8,f9,f10,e8,e9,e10⟩
 |siter s pos=>exact b
 |tc t cs=>obtain⟨_,_,_,c1,_,_,_,e4⟩:=a;obtain⟨b1,b2,b3,c2,f1,f2,f3,f4⟩:=b;refine⟨b1,b2,b3,c2,f1,f2,f3,λi v hv=>?_⟩;obtain⟨v1,_,x⟩:=e4 i v hv;obtain⟨v2,y1,y2⟩:=f4 i v hv;exact⟨v2,y1,x.back hs y2⟩
structure Le (W W':AW):Prop where
 next:W.next<=W'.next
 get:∀b,b<W.next->W'.get b=W.get b
theorem Le.refl(W:AW):Le W W:=⟨Nat.le_refl _,λ_ _=>rfl⟩
theorem Le.trans{A B C:AW}(h:Le A B)(k:Le B C):Le A C:=⟨Nat.le_trans h.next k.next,λb hb=>(k.get b (Nat.lt_of_lt_of_le hb h.next)).trans (h.get b hb)⟩
theorem Le.add{W W':AW}(h:Le W W')(o:AObj):Le W (W'.add o):=
 ⟨Nat.le_trans h.next (by rw[AW.add_next];omega),λb hb=>by rw[AW.get_add_ne _ _ (by have:=h.next;omega)];exact h.get b hb⟩
theorem Le.put{W W':AW}(h:Le W W'){b:Nat}(hb:W.next<=b)(o:AObj):Le W (W'.put b o):=
 ⟨h.next,λc hc=>by rw[AW.get_put_ne _ _ (by omega)];exact h.get c hc⟩
theorem Le.kill{W W':AW}(h:Le W W'){b:Nat}(hb:W.next<=b):Le W (W'.kill b):=
 ⟨h.next,λc hc=>by rw[AW.get_kill_ne _ (by omega)];exact h.get c hc⟩
theorem a2M{σ σ':bM}{W W':AW}{w w':World}(hW:WRel σ W w.heap)(hle:Le W W')(h1:WRel σ' W' w'.heap)(he:Ext σ W w σ' W' w'):WRel σ W w'.heap/\Ext σ W w σ W w':=by
 have hlt:∀b o,W.get b=some o->b<W.next:=λb o hb=>by
  rcases Nat.lt_or_ge b W.next with h|h
  ·exact h
  ·rw[hW.free b h]at hb;cases hb
 refine⟨⟨hW.free,λb g hg=>⟨(hW.dom b g hg).1,Nat.lt_of_lt_of_le (hW.dom b g hg).2 he.size⟩,λb o g hb hg=>?_,λb1 b2 o1 o2 g1 g2 hne a1 a2 k1 k2 hr=>?_⟩,
  ⟨.refl _,λ_ _ h=>h,he.size,he.os,he.tape,he.output,he.keep,λ_ _ h k=>⟨h,k⟩,λb g hg _=>.inl hg⟩⟩
 ·exact(hW.obj b o g hb hg).back he.sub (h1.obj b o g (by rw[hle.get b (hlt b o hb)];exact hb) (he.sub _ _ hg))
 ·exact hW.disj b1 b2 o1 o2 g1 g2 hne a1 a2 k1 k2 hr
def isU:Value->Bool
 |.tuple vs=>vs.isEmpty
 |_=>false
noncomputable def gc(W:AW)(r:Value×AW):Value×AW:=
 open Classical in if(aU r.1&& !isU r.1)=true/\Le W r.2 then(r.1,W)else r
theorem oL{W W':AW}{v:Value}(hv:(aU v&& !isU v)=true)(h:Le W W'):gc W (v,W')=(v,W):=by unfold gc;rw[if_pos ⟨hv,h⟩]
theorem fD{W W':AW}{v:Value}(hv:(aU v&& !isU v)=false):gc W (v,W')=(v,W'):=by unfold gc;rw[if_neg (by simp only[hv];simp)]
noncomputable def gcF(f:Value)(W:AW)(r:Value×AW):Value×AW:=match f with
 |.func (.func _) _ _=>gc W r
 |_=>r
theorem a6M{P:Program}{ng:List Nat}{c:Callee}(hc:aO P ng c):aO P ng λf a W=>(c f a W).map (gcF f W):=by
 intro f args W v W' h σ w f' args' hW hG hf hargs;simp only at h;cases hr:c f args W with
 |none=>rw[hr]at h;cases h
 |some q=>
  rw[hr]at h;obtain⟨v1,W1⟩:=q;have hk:=hc f args W v1 W1 hr σ w f' args' hW hG hf hargs;simp only[Option.map_some,Option.some.injEq]at h;unfold gcF at h;split at h;case h_2=>injection h with e1 e2;subst e1;subst e2;exact hk
  unfold gc at h;split at h
  ·rename_i hp;injection h with e1 e2;subst e1;subst e2;have hpl:aU v1=true:=(Bool.and_eq_true _ _▸hp.1).1;have key:∀(R R':Value->World->Prop),(∀v' w',R v' w'->R' v' w')->wN P f' args' w R->wN P f' args' w R':=by
    intro R R' hRR hC;unfold wN at hC|-;split at hC
    ·exact⟨hC.1,CallsIn.mono hC.2 λe w' ⟨u,hu,hr⟩=>⟨u,hu,hRR _ _ hr⟩⟩
    ·obtain⟨f,tmps,as,bd,k1,k2⟩:=hC;exact⟨f,tmps,as,bd,k1,RoundIn.mono k2 λe w' ⟨u,hu,hr⟩=>⟨u,hu,hRR _ _ hr⟩⟩
    ·exact hC.elim
   refine key _ _ (λv' w' ⟨σ',k1,k2,k3⟩=>?_) hk;obtain⟨d1,d2⟩:=a2M hW hp.2 k2 k3;have:v'=v1:=gD hpl k1;subst this;exact⟨σ,iK hpl,d1,d2⟩
  ·injection h with e1 e2;subst e1;subst e2;exact hk
section
variable (P:Program) (bad:List Nat) (spec:Callee)
noncomputable def gC:Nat->Callee
 |0=>λ_ _ _=>none
 |n+1=>λf a W=>(fO P bad spec (gC n) f a W).map (gcF f W)
theorem a5E:∀n,CLe (gC P bad spec n) (gC P bad spec (n+1)):=by
 intro n;induction n with
 |zero=>intro f a W r h;cases h
 |succ n ih=>
  intro f a W r h;have h':(fO P bad spec (gC P bad spec n) f a W).map (gcF f W)=some r:=h;show(fO P bad spec (gC P bad spec (n+1)) f a W).map (gcF f W)=some r;cases hb:fO P bad spec (gC P bad spec n) f a W with
  |none=>rw[hb]at h';cases h'
  |some q=>rw[hb]at h';rw[PV ih _ _ _ _ hb];exact h'
noncomputable def om:Callee:=λf a W=>open Classical in if h:∃r n,gC P bad spec n f a W=some r then some (Classical.choose h)else none
theorem H7:Lim (gC P bad spec) (om P bad spec):=by
 refine⟨a5E P bad spec,λf a W r h=>?_⟩;unfold om at h;split at h
 ·rename_i hx;injection h with h;subst h;exact Classical.choose_spec hx
 ·cases h
theorem a3C{n:Nat}{f:Value}{a:List Value}{W:AW}{r:Value×AW}(h:gC P bad spec n f a W=some r):om P bad spec f a W=some r:=by have hx:∃r n,gC P bad spec n f a W=some r:=⟨r,n,h⟩;unfold om;rw[dif_pos hx];obtain⟨m,hm⟩:=Classical.choose_spec hx;have h1:=(H7 P bad spec).le (Nat.le_max_left n m) _ _ _ _ h;have h2:=(H7 P bad spec).le (Nat.le_max_right n m) _ _ _ _ hm;rw[h1]at h2;exact h2.symm
theorem MX{f:Value}{a:List Value}{W:AW}{r:Value×AW}(h:fO P bad spec (om P bad spec) f a W=some r):om P bad spec f a W=some (gcF f W r):=by obtain⟨n,hn⟩:=YJ (H7 P bad spec) h;refine a3C P bad spec (n:=n+1) ?_;show(fO P bad spec (gC P bad spec n) f a W).map (gcF f W)=_;rw[hn];rfl
variable {P bad spec}
theorem a3r(hm:P.follows .mixedOrders=true)(hP:oV PlanTab.ng bad 0 P.funcs.toList=true)(hs:aO P PlanTab.ng spec):∀n,aO P PlanTab.ng (gC P bad spec n)
 |0=>λf args W v W' h=>by cases h
 |n+1=>a6M (D7 hm rfl hP hs (a3r hm hP hs n))
theorem a3N(hm:P.follows .mixedOrders=true)(hP:oV PlanTab.ng bad 0 P.funcs.toList=true)(hs:aO P PlanTab.ng spec):aO P PlanTab.ng (om P bad spec):=by intro f args W v W' h;obtain⟨n,hn⟩:=(H7 P bad spec).of _ _ _ _ h;exact a3r hm hP hs n f args W v W' hn
theorem a4i{i:Nat}{fn:Func}{c:Code}(hb:LA i bad=false)(hf:P.funcs[i]? =some fn)(hc:fn.body=some c){fs cs:Array Value}{args:List Value}
 (hn:Nat.ble (fs.toList.length+(args.length+cs.toList.length)) fn.ntmps=true){W:AW}{r:Value×AW}(h:a3b P (om P bad spec) fn.ntmps c fn.results (fs.toList++(args++cs.toList)) W=some r):
 om P bad spec (.func (.func i) fs cs) args W=some (gc W r):=MX P bad spec (XV hb hf hc hn h)
theorem a0v{l nt:Nat}{R:PlanTab.Fr}{ps:Array Tmp}{as bd:Code}{W:AW}(hl:W.get l=some (.loop .ready none R nt ps as bd)){fs cs:Array Value}{args:List Value}(hn:fs.toList.length+args.length=ps.size)
 {r:Value×AW}(h:L6 P (om P bad spec) l nt as bd (nC ps.toList (fs.toList++args) R) W=some r):om P bad spec (.func (.yield l) fs cs) args W=some r:=MX P bad spec (QW hl hn h)
theorem VC{i:Nat}(hb:LA i bad=true){fs cs:Array Value}{args:List Value}{W:AW}{r:Value×AW}(h:spec (.func (.func i) fs cs) args W=some r):
 om P bad spec (.func (.func i) fs cs) args W=some (gc W r):=by
 refine MX P bad spec ?_;unfold fO;simp only[hb];exact h
end
end Go.Eng
namespace Go.Eng
open Go
variable [PlanTab]
theorem qO{α ρ:Type}(a:α)(g:α->Option ρ):aB (some a) g=g a:=by rw[EO];rfl
section
variable {P:Program} {W:AW}
theorem a0p(v:Value):mU v W=some (v,W):=Eq.trans rfl rfl
theorem fH(cs:Array Value):eH (.agg cs) W=some (.pointer (some ⟨W.next,0,none⟩),W.add (.cells cs.toList)):=Eq.trans rfl rfl
theorem PN(k:IntKind)(n:Int):eH (.int k n) W=some (.pointer (some ⟨W.next,0,none⟩),W.add (.cells [.int k n])):=Eq.trans rfl rfl
theorem JG(b:Bool):eH (.bool b) W=some (.pointer (some ⟨W.next,0,none⟩),W.add (.cells [.bool b])):=Eq.trans rfl rfl
theorem DF(s:ByteArray):eH (.string s) W=some (.pointer (some ⟨W.next,0,none⟩),W.add (.cells [.string s])):=Eq.trans rfl rfl
theorem I4(a:Option Addr)(l c:Nat):eH (.slice a l c) W=some (.pointer (some ⟨W.next,0,none⟩),W.add (.cells [.slice a l c])):=Eq.trans rfl rfl
theorem KN(f:Fn)(a b:Array Value):eH (.func f a b) W=some (.pointer (some ⟨W.next,0,none⟩),W.add (.cells [.func f a b])):=Eq.trans rfl rfl
theorem I5(f:FuncId)(a b:Array Value):rP (.func f) a b W=some (.func (.func f) a b,W):=Eq.trans rfl rfl
theorem yT(a b:Value):bG (.tuple #[a,b]) 0 W=some (a,W):=Eq.trans rfl rfl
theorem yL(a b:Value):bG (.tuple #[a,b]) 1 W=some (b,W):=Eq.trans rfl rfl
theorem zN(a b c:Value):bG (.tuple #[a,b,c]) 0 W=some (a,W):=Eq.trans rfl rfl
theorem yE(a b c:Value):bG (.tuple #[a,b,c]) 1 W=some (b,W):=Eq.trans rfl rfl
theorem yV(a b c:Value):bG (.tuple #[a,b,c]) 2 W=some (c,W):=Eq.trans rfl rfl
theorem OL(b:Bool):bJ (.bool b) true=b:=by cases b<;>exact Eq.trans rfl rfl
theorem JV(b:Bool):bJ (.bool b) false= !b:=by cases b<;>exact Eq.trans rfl rfl
theorem R7{ρ:Type}(a b:ρ):bF true a b=a:=Eq.trans rfl rfl
theorem JM{ρ:Type}(a b:ρ):bF false a b=b:=Eq.trans rfl rfl
theorem OH{ρ:Type}(c:Bool)(a b:Option ρ):dD (.bool c) a b=bF c a b:=Eq.trans rfl rfl
theorem GY(c:Bool)(a b:Value):eF (.bool c) a b W=some (bF c a b,W):=by cases c<;>exact Eq.trans rfl rfl
theorem zL{ρ:Type}(a b:Option ρ):uX X.normal a b=a:=Eq.trans rfl rfl
theorem FP{ρ:Type}(i:Nat)(a b:Option ρ):uX (X.exit i) a b=b:=Eq.trans rfl rfl
theorem JB{ρ:Type}(a b:Option ρ):uX X.ret a b=b:=Eq.trans rfl rfl
theorem EN{ρ:Type}(i:Nat)(a b:Option ρ):dY i (X.exit i) a b=a:=by show Bool.rec b a (Nat.beq i i)=a;rw[Nat.beq_refl]
theorem JW{ρ:Type}(i:Nat)(a b:Option ρ):dY i X.ret a b=b:=Eq.trans rfl rfl
theorem zU{ρ:Type}(i:Nat)(a b:Option ρ):dY i X.normal a b=b:=Eq.trans rfl rfl
theorem JC{ρ:Type}(a:Option ρ):jY X.ret a=a:=Eq.trans rfl rfl
theorem WF(b:Bool):RN P .not (.bool b) W=some (.bool (!b),W):=Eq.trans rfl rfl
theorem a0B(f:FuncId):fQ f=.func (.func f) #[] #[]:=Eq.trans rfl rfl
theorem jZ{op:BinOp}{t:TypeId}{c d:Bool}{k:IntKind}{a b:Int}{v:Value}(h:IR op k a b=some v):aD P op t c d (.int k a) (.int k b) W=some (v,W):=by unfold aD iV;simp only[if_pos,h]
theorem zV{n:Int}(h1: -9223372036854775808<=n)(h2:n<9223372036854775808):IntKind.i64.wrap n=n:=by unfold IntKind.wrap;simp only[IntKind.bits,IntKind.signed,Bool.true_and];split<;>rename_i h<;>simp at h<;>omega
theorem bA{t:TypeId}{c d:Bool}{a b:Int}(h1: -9223372036854775808<=a+b)(h2:a+b<9223372036854775808):aD P .add t c d (.int .i64 a) (.int .i64 b) W=some (.int .i64 (a+b),W):=
 jZ (by simp only[IR,qL,zT,zV h1 h2])
theorem zR{t:TypeId}{c d:Bool}{a b:Int}(h1: -9223372036854775808<=a-b)(h2:a-b<9223372036854775808):aD P .sub t c d (.int .i64 a) (.int .i64 b) W=some (.int .i64 (a-b),W):=
 jZ (by simp only[IR,qL,zT,zV h1 h2])
theorem ZG{t:TypeId}{c d:Bool}{a b:Int}(h1: -9223372036854775808<=a*b)(h2:a*b<9223372036854775808):aD P .mul t c d (.int .i64 a) (.int .i64 b) W=some (.int .i64 (a*b),W):=
 jZ (by simp only[IR,qL,zT,zV h1 h2])
theorem Q6{t:TypeId}{c d:Bool}{k:IntKind}{a b:Int}:aD P .lss t c d (.int k a) (.int k b) W=some (.bool (decide (a<b)),W):=jZ rfl
theorem PU{t:TypeId}{c d:Bool}{k:IntKind}{a b:Int}:aD P .leq t c d (.int k a) (.int k b) W=some (.bool (decide (a<=b)),W):=jZ rfl
theorem NR{t:TypeId}{c d:Bool}{k:IntKind}{a b:Int}:aD P .gtr t c d (.int k a) (.int k b) W=some (.bool (decide (b<a)),W):=jZ rfl
theorem QH{t:TypeId}{c d:Bool}{k:IntKind}{a b:Int}:aD P .geq t c d (.int k a) (.int k b) W=some (.bool (decide (b<=a)),W):=jZ rfl
theorem Q3{t:TypeId}{c d:Bool}{k:IntKind}{a b:Int}:aD P .eql t c d (.int k a) (.int k b) W=some (.bool (decide (a=b)),W):=jZ rfl
theorem P7{t:TypeId}{c d:Bool}{k:IntKind}{a b:Int}:aD P .neq t c d (.int k a) (.int k b) W=some (.bool (!decide (a=b)),W):=jZ rfl
theorem Q4{s:Sem Value}{v:Value}(h:bB P s=some v):xY (bB P (do pure (.value (<-s))))=some v:=by
 induction s with
 |pure a=>simp only[bB]at h;injection h with h;subst h;rfl
 |program k ih=>exact ih P h
 |_=>simp[bB]at h
theorem vF{op:BinOp}{t:TypeId}{c d:Bool}{x y v:Value}(h0:iV P W op t x y=none)(hx:aU x=true)(hy:aU y=true)(hv:aU v=true)
 (hp:bB P (do eqGuard op t (opd c) (opd d) x y;binOp op t x y:Sem Value)=some v):aD P op t c d x y W=some (v,W):=by
 unfold aD;rw[h0];simp only[lM,hx,hy,Bool.and_self,if_true,Q4 hp,hv,Option.map_some]
theorem a1b{t:TypeId}{c d:Bool}{k:IntKind}{a b:Int}(hb:b≠0):aD P .rem t c d (.int k a) (.int k b) W=some (.int k (a.tmod b),W):=by refine vF (by simp[iV,IR]) rfl rfl rfl ?_;simp[eqGuard,binOp,Op.intDiv,hb];rfl
theorem a0I{t:TypeId}{c d:Bool}{k:IntKind}{a b:Int}(hb:b≠0):aD P .quo t c d (.int k a) (.int k b) W=some (.int k (k.wrap (a.tdiv b)),W):=by refine vF (by simp[iV,IR]) rfl rfl rfl ?_;simp[eqGuard,binOp,Op.intDiv,hb];rfl
theorem dH{α β:Type}(s:Sem α)(f:α->Sem β):bB P (s>>=f)=(bB P s).bind λa=>bB P (f a):=by
 induction s with
 |pure a=>rfl
 |program k ih=>exact ih P
 |_=>rfl
theorem eB{α:Type}(a:α):bB P (pure a:Sem α)=some a:=Eq.trans rfl rfl
theorem DT:bB P (program:Sem Program)=some P:=Eq.trans rfl rfl
theorem dF{t:TypeId}{d:TypeDesc}(h:P.underlying t=some d):bB P (underlying t)=some d:=by unfold underlying;simp only[dH,DT,Option.bind_some,h,eB]
theorem SI{t:TypeId}{a b:Bool}(ht:P.underlying t=some .bool)(d:Nat):bB P (Op.equalIn (d+1) t (.bool a) (.bool b))=some (a==b):=by unfold Op.equalIn;simp only[dH,dF ht,Option.bind_some,eB]
theorem EQ{t:TypeId}{c d:Bool}{a b:Bool}(ht:P.underlying t=some .bool):aD P .neq t c d (.bool a) (.bool b) W=some (.bool (!(a==b)),W):=by refine vF (by simp[iV,gK,BS,ht]) rfl rfl rfl ?_;have h:bB P (Op.equal t (.bool a) (.bool b))=some (a==b):=SI ht 9999;have e:binOp .neq t (.bool a) (.bool b)=(do pure (.bool (!(<-Op.equal t (.bool a) (.bool b))))):=rfl;rw[e];simp only[eqGuard,dH,h,eB,Option.bind_some];rfl
theorem BP{t:TypeId}{c d:Bool}{a b:ByteArray}:aD P .eql t c d (.string a) (.string b) W=some (.bool (a.toList==b.toList),W):=by
 refine vF ?_ rfl rfl rfl ?_
 ·simp only[iV];have h1:gK P W t (.string a) (.string b)=none:=by unfold gK;split<;>first|rfl|simp_all
  rw[h1];rfl
 ·rfl
theorem iA{ts:Array TypeId}{ty:TypeId}{cf:Array Bool}{e:TypeId}(h:(ts[0]?).bind P.underlying=some (.slice e))(a:Option Addr)(n c:Nat):aF P .len ts ty cf [.slice a n c] W=some (.int .i64 n,W):=by unfold aF;simp only[h];rfl
theorem GM(v:Value):aK P [(v,none)] W=some (v,W):=Eq.trans rfl rfl
theorem F7(v u:Value):aK P [(v,none),(u,none)] W=some (.tuple #[v,u],W):=Eq.trans rfl rfl
theorem GL(v u x:Value):aK P [(v,none),(u,none),(x,none)] W=some (.tuple #[v,u,x],W):=Eq.trans rfl rfl
theorem NT:aK P [] W=some (.tuple #[],W):=Eq.trans rfl rfl
theorem bU{b o:Nat}{cs:List Value}{v:Value}(h:cellsAt W b=some cs)(hv:cs[o]? =some v):aR (.pointer (some ⟨b,o,none⟩)) W=some (v,W):=by unfold aR;simp only[h,MJ,hv,Option.map_some]
theorem qB{n b o:Nat}{cs:List Value}(h:cellsAt W b=some cs)(hv:((cs.drop o).take n).length=n):jV n (.pointer (some ⟨b,o,none⟩)) W=some (.agg ((cs.drop o).take n).toArray,W):=by unfold jV;simp only[gZ,h,hv,if_true,Option.map_some]
theorem aZ{b:Nat}{cs:List Value}(h:W.get b=some (.cells cs)):cellsAt W b=some cs:=by unfold cellsAt;rw[h]
theorem UA{b:Nat}{cs:List Value}(h:W.get b=some (.ro cs)):cellsAt W b=some cs:=by unfold cellsAt;rw[h]
theorem dL{cs:List Value}:cellsAt (W.add (.cells cs)) W.next=some cs:=aZ (W.get_add _)
theorem NV{b:Nat}(o:AObj)(h:b<W.next):cellsAt (W.add o) b=cellsAt W b:=by unfold cellsAt;rw[W.get_add_ne o (by omega)]
theorem CG{b:Nat}(cs:List Value):cellsAt (W.put b (.cells cs)) b=some cs:=aZ (W.get_put _ _)
theorem Le.cellsAt{W W':AW}(h:Le W W'){b:Nat}(hb:b<W.next):cellsAt W' b=cellsAt W b:=by unfold Eng.cellsAt;rw[h.get b hb]
theorem H5{n b o:Nat}{cs:List Value}{v:Value}(h:W.get b=some (.cells cs))(hn:v.cells.size=n)(hl:o+v.cells.toList.length<=cs.length)(h1:v.cells.toList.all one=true):
 mY n (.pointer (some ⟨b,o,none⟩)) v W=some (undef,W.put b (.cells (iB cs o v.cells.toList))):=by
 unfold mY;simp only[hn,if_true,F4,h,if_pos (show o+v.cells.toList.length<=cs.length/\v.cells.toList.all one=true from⟨hl,h1⟩),Option.map_some]
theorem ZP{b o off:Nat}:cB off (.pointer (some ⟨b,o,none⟩)) W=some (.pointer (some ⟨b,o+off,none⟩),W):=by unfold cB;simp only[bP]
theorem nM{z b o l c i:Nat}{k:IntKind}(h:i<l):jS z (.slice (some ⟨b,o,none⟩) l c) (.int k (i:Int)) W=some (.pointer (some ⟨b,o+i*z,none⟩),W):=by unfold jS;simp only[gI,if_pos h,bP]
theorem a0i{len z b o i:Nat}{k:IntKind}(h:i<len):ixA len z (.pointer (some ⟨b,o,none⟩)) (.int k (i:Int)) W=some (.pointer (some ⟨b,o+i*z,none⟩),W):=by unfold ixA;simp only[gI,if_pos h,bP]
end
section
variable {P:Program} {W:AW}
theorem a4H{b o:Nat}:aR (.pointer (some ⟨b,o,none⟩)) W=(cellsAt W b).bind λcs=>(cs[o]?).map λv=>(v,W):=by
 unfold aR;simp only;cases cellsAt W b with
 |none=>rfl
 |some cs=>simp only[Option.bind_some,MJ]
theorem xA{n b o:Nat}:jV n (.pointer (some ⟨b,o,none⟩)) W=(cellsAt W b).bind λcs=>if((cs.drop o).take n).length=n then some (.agg ((cs.drop o).take n).toArray,W)else none:=by
 unfold jV;simp only[gZ];cases cellsAt W b with
 |none=>rfl
 |some cs=>
  simp only[Option.bind_some];by_cases h:((cs.drop o).take n).length=n
  ·rw[if_pos h,if_pos h];rfl
  ·rw[if_neg h,if_neg h];rfl
noncomputable def rwCells(W:AW)(b:Nat):Option (List Value):=match W.get b with|some (.cells cs)=>some cs|_=>none
theorem fE{b:Nat}{cs:List Value}(h:rwCells W b=some cs):cellsAt W b=some cs:=by
 unfold rwCells at h;split at h
 ·rename_i cs' hg;injection h with h;subst h;exact aZ hg
 ·cases h
theorem HZ{b:Nat}{cs:List Value}(h:W.get b=some (.cells cs)):rwCells W b=some cs:=by unfold rwCells;rw[h]
theorem fG{cs:List Value}:rwCells (W.add (.cells cs)) W.next=some cs:=HZ (W.get_add _)
theorem D6{b:Nat}(o:AObj)(h:b<W.next):rwCells (W.add o) b=rwCells W b:=by unfold rwCells;rw[W.get_add_ne o (by omega)]
theorem pX{b:Nat}(cs:List Value):rwCells (W.put b (.cells cs)) b=some cs:=HZ (W.get_put _ _)
theorem uF{b c:Nat}(o:AObj)(h:b≠c):rwCells (W.put b o) c=rwCells W c:=by unfold rwCells;rw[W.get_put_ne o h]
theorem Le.rwCells{W W':AW}(h:Le W W'){b:Nat}(hb:b<W.next):rwCells W' b=rwCells W b:=by unfold Eng.rwCells;rw[h.get b hb]
theorem TZ{n b o:Nat}{v:Value}:mY n (.pointer (some ⟨b,o,none⟩)) v W=(rwCells W b).bind λcs=>if v.cells.size=n/\o+v.cells.toList.length<=cs.length/\v.cells.toList.all one=true then some (undef,W.put b (.cells (iB cs o v.cells.toList)))else none:=by
 unfold mY rwCells;simp only[F4];by_cases h:v.cells.size=n
 ·rw[if_pos h];cases hg:W.get b with
  |none=>rfl
  |some obj=>
   cases obj with
   |cells cs=>
    simp only[Option.bind_some];by_cases h2:o+v.cells.toList.length<=cs.length/\v.cells.toList.all one=true
    ·rw[if_pos h2,if_pos ⟨h,h2⟩];rfl
    ·rw[if_neg h2,if_neg (λx=>h2 x.2)];rfl
   |_=>rfl
 ·rw[if_neg h];cases hg:W.get b with
  |none=>rfl
  |some obj=>
   cases obj with
   |cells cs=>simp only[Option.bind_some];rw[if_neg (λx=>h x.1)];rfl
   |_=>rfl
def nO(P:Program)(t:TypeId):Option Nat:=match P.underlying t with
 |some (.slice e)=>lC P e
 |_=>none
theorem fJ{t:TypeId}{z:Nat}(h:nO P t=some z):∃e,P.underlying t=some (.slice e)/\lC P e=some z:=by
 unfold nO at h;split at h
 ·rename_i e hu;exact⟨e,hu,h⟩
 ·cases h
theorem qM{t:TypeId}{z:Nat}(hz:nO P t=some z){b o l c h:Nat}{k:IntKind}(h1:h<=c)(h2:c<bQ):
 bL P t (.slice (some ⟨b,o,none⟩) l c) none (some (.int k (h:Int))) none W=some (.slice (some ⟨b,o,none⟩) h c,W):=by
 obtain⟨e,he,hz⟩:=fJ hz;have hb:¬(c=bQ+z/\0<z):=λx=>by omega
 have h0:((⟨b,o,none⟩:Addr).add (0*z))=⟨b,o,none⟩:=by rw[bP];simp
 unfold bL fU;simp only[he,hz,bX,gI,Nat.zero_le,if_true,if_neg hb,if_pos (And.intro h2 h1),Nat.sub_zero,h0,ite_self]
theorem IY{t:TypeId}{z:Nat}(hz:nO P t=some z){k:IntKind}:
 bL P t (.slice none 0 0) none (some (.int k (0:Nat))) none W=some (.slice none 0 0,W):=by
 obtain⟨e,he,hz⟩:=fJ hz;unfold bL fU;simp only[he,hz,bX,gI,Nat.le_refl,and_self,if_true,Nat.sub_zero]
def l8(P:Program)(ts:Array TypeId)(z bytes:Nat):Bool:=match ts.toList with
 |[t0,t1]=>Nat.beq t0 t1&&(match iW P t0 with
  |some e=>(match lC P e,(P.info? e).map (λi=>(i.zero,i.bytes))with
   |some z',some (some zv,bytes')=>Nat.beq z' z&&Nat.beq bytes' bytes&&Nat.blt 0 z&&Nat.beq zv.cells.size z
   |_,_=>false)
  |none=>false)
 |_=>false
theorem rF{ts:Array TypeId}{z bytes:Nat}(h:l8 P ts z bytes=true):∃t e zv,ts.toList=[t,t]/\iW P t=some e/\lC P e=some z/\(P.info? e).map (λi=>(i.zero,i.bytes))=some (some zv,bytes)/\0<z/\zv.cells.size=z:=by
 unfold l8 at h;split at h;case h_2=>cases h
 rename_i t0 t1 hl;simp only[Bool.and_eq_true,Nat.beq_eq]at h;obtain⟨h0,h⟩:=h;subst h0;split at h;case h_2=>cases h
 rename_i e he;split at h;case h_2=>cases h
 rename_i z' zv b' h1 h2;simp only[Bool.and_eq_true,Nat.beq_eq,Nat.blt_eq]at h;obtain⟨⟨⟨h3,h4⟩,h5⟩,h6⟩:=h;subst h3;subst h4;exact⟨t0,e,zv,hl,he,h1,h2,h5,h6⟩
theorem xS{ts:Array TypeId}{z bytes:Nat}(hk:l8 P ts z bytes=true){b o n c:Nat}{cs new:List Value}(hc:cellsAt W b=some cs)(hn:new=(cs.drop o).take (n*z))(hl:new.length=n*z)(h0:0<n)(h1:new.all one=true)
 (hb:n<1099511627776)(hb2:(2*n+192)*bytes<=281474976710656):
 bE P W ts (.slice none 0 0) (.slice (some ⟨b,o,none⟩) n c)=some (.slice (some ⟨W.next,0,none⟩) n (bQ+z),W.add (.cells new)):=by
 obtain⟨t,e,zv,k1,k2,k3,k4,k5,k6⟩:=rF hk;have hr:mW W b o (n*z)=some new:=by rw[gZ,hc];simp only;rw[if_pos (by rw[<-hn];exact hl),hn]
 have hB:(0:Nat)<bQ:=by unfold bQ;omega
 have hB2:¬(0:Nat)=bQ+z:=by unfold bQ;omega
 have hr1:aW W (.slice (some ⟨b,o,none⟩) n c) (n*z)=some new:=by unfold aW;simp only;rw[if_neg (by have:=Nat.mul_pos h0 k5;omega),if_neg (by omega)];exact hr
 have hr2:aW W (.slice none 0 0) (0*z)=some []:=by unfold aW;simp
 unfold bE;simp only[k1,k2,k3,k4,if_true,Nat.zero_add,if_pos (And.intro k5 (And.intro k6 (And.intro hb hb2))),if_neg (show¬n=0 by omega),hr1,hr2,h1,if_neg hB2,if_pos hB,and_self,List.nil_append,AW.new_eq]
theorem MK{ts:Array TypeId}{z bytes:Nat}(hk:l8 P ts z bytes=true){b o n c:Nat}{cs new:List Value}(hc:cellsAt W b=some cs)(hn:new=(cs.drop o).take (n*z))(hl:new.length=n*z)(h0:0<n)(h1:new.all one=true)
 {B m:Nat}{old:List Value}(ho:W.get B=some (.cells old))(hol:old.length=m*z)
 (hb:m+n<1099511627776)(hb2:(2*(m+n)+192)*bytes<=281474976710656)(hm:0<m):
 bE P W ts (.slice (some ⟨B,0,none⟩) m (bQ+z)) (.slice (some ⟨b,o,none⟩) n c)=some (.slice (some ⟨W.next,0,none⟩) (m+n) (bQ+z),(W.kill B).add (.cells (old++new))):=by
 obtain⟨t,e,zv,k1,k2,k3,k4,k5,k6⟩:=rF hk;have hr:mW W b o (n*z)=some new:=by rw[gZ,hc];simp only;rw[if_pos (by rw[<-hn];exact hl),hn]
 have hr1:aW W (.slice (some ⟨b,o,none⟩) n c) (n*z)=some new:=by unfold aW;simp only;rw[if_neg (by have:=Nat.mul_pos h0 k5;omega),if_neg (by omega)];exact hr
 have hro:mW W B 0 (m*z)=some old:=by rw[gZ,aZ ho];simp only[List.drop_zero];rw[List.take_of_length_le (by omega),if_pos hol]
 have hr2:aW W (.slice (some ⟨B,0,none⟩) m (bQ+z)) (m*z)=some old:=by unfold aW;simp only;rw[if_neg (by have:=Nat.mul_pos hm k5;omega),if_neg (by omega)];exact hro
 unfold bE;simp only[k1,k2,k3,k4,if_true,if_pos (And.intro k5 (And.intro k6 (And.intro hb hb2))),if_neg (show¬n=0 by omega),hr1,hr2,h1,ho,AW.new_eq,AW.kill_next]
end
theorem U7{body:PlanTab.Fr->AW->Option LT}:∀(n m:Nat) (I:Nat->PlanTab.Fr->AW->Prop) (Q:LT->Prop) (R:PlanTab.Fr) (W:AW),n<m->I 0 R W->
 (∀k R W,k<n->I k R W->∃r,body R W=some r/\((r.1=.normal/\I (k+1) r.2.1 r.2.2)\/(r.1≠ .normal/\Q r)))->
 (∀R W,I n R W->∃r,body R W=some r/\r.1≠ .normal/\Q r)->∃r,jC body m R W=some r/\r.1≠ .normal/\Q r:=by
 intro n;induction n with
 |zero=>
  intro m I Q R W hm h0 _ he;obtain⟨m,rfl⟩:∃k,m=k+1:=⟨m-1,by omega⟩;obtain⟨⟨x,R',W'⟩,h1,h2,h3⟩:=he R W h0;refine⟨_,?_,h2,h3⟩;unfold jC;rw[h1];cases x with
  |normal=>exact absurd rfl h2
  |exit i=>rfl
  |ret=>rfl
 |succ n ih=>
  intro m I Q R W hm h0 hs he;obtain⟨m,rfl⟩:∃k,m=k+1:=⟨m-1,by omega⟩;obtain⟨⟨x,R',W'⟩,h1,h2⟩:=hs 0 R W (by omega) h0;rcases h2 with⟨h2,h3⟩|⟨h2,h3⟩
  ·simp only at h2 h3;subst h2;obtain⟨r,k1,k2,k3⟩:=ih m (λk=>I (k+1)) Q R' W' (by omega) h3 (λk R W hk hI=>hs (k+1) R W (by omega) hI) he;refine⟨r,?_,k2,k3⟩;unfold jC;rw[h1];exact k1
  ·refine⟨_,?_,h2,h3⟩;unfold jC;rw[h1];cases x with
   |normal=>exact absurd rfl h2
   |exit i=>rfl
   |ret=>rfl
theorem XI{body:PlanTab.Fr->AW->Option LT}(n:Nat)(hn:n<1000000)(I:Nat->PlanTab.Fr->AW->Prop)(Q:LT->Prop){R:PlanTab.Fr}{W:AW}(h0:I 0 R W)
 (hs:∀k R W,k<n->I k R W->∃r,body R W=some r/\((r.1=.normal/\I (k+1) r.2.1 r.2.2)\/(r.1≠ .normal/\Q r)))
 (he:∀R W,I n R W->∃r,body R W=some r/\r.1≠ .normal/\Q r):∃r,cO body R W=some r/\Q r:=by
 rw[PP];obtain⟨r,h1,_,h2⟩:=U7 n 1000000 I Q R W hn h0 hs he;exact⟨r,h1,h2⟩
end Go.Eng
namespace Go.Eng
open Go
variable [PlanTab]
def a5D(P:Program)(i nt n:Nat):Bool:=match P.funcs[i]? with
 |some fn=>fn.body.isSome&&(Nat.beq fn.ntmps nt&&Nat.ble n nt)
 |none=>false
theorem aP{P:Program}{bad:List Nat}{spec:Callee}{i nt n:Nat}(hb:LA i bad=false)(hk:a5D P i nt n=true){fs cs:Array Value}{args:List Value}(hn:fs.toList.length+(args.length+cs.toList.length)=n){W:AW}{r:Value×AW}
 (h:a3b P (om P bad spec) nt (UU P i) (a0N P i) (fs.toList++(args++cs.toList)) W=some r):om P bad spec (.func (.func i) fs cs) args W=some (gc W r):=by
 unfold a5D at hk;unfold UU a0N at h;cases hf:P.funcs[i]? with
 |none=>rw[hf]at hk;cases hk
 |some fn=>
  rw[hf]at hk h;simp only[Bool.and_eq_true,Nat.beq_eq]at hk h;obtain⟨h1,h2,h3⟩:=hk;cases hc:fn.body with
  |none=>rw[hc]at h1;cases h1
  |some c=>rw[hc]at h;simp only at h;subst h2;exact a4i hb hf hc (by rw[hn];exact h3) h
structure Ex (W:AW) (t:Option (Value×AW)) (Q:Value->AW->Prop):Prop where
 ex:∃v W',t=some (v,W')/\Le W W'/\Q v W'
end Go.Eng
namespace Go.Eng
open Go
variable [PlanTab]
@[congr] theorem bnd_congr {α ρ:Type} {x y:Option α} {g:α->Option ρ} (h:x=y):aB x g=aB y g:=by rw[h]
@[congr] theorem bIf_congr {ρ:Type} {c d:Bool} {a b:ρ} (h:c=d):bF c a b=bF d a b:=by rw[h]
@[congr] theorem vIf_congr {ρ:Type} {c d:Value} {a b:Option ρ} (h:c=d):dD c a b=dD d a b:=by rw[h]
@[congr] theorem kExit_congr {ρ:Type} {i:Nat} {x y:X} {a b:Option ρ} (h:x=y):dY i x a b=dY i y a b:=by rw[h]
@[congr] theorem kNorm_congr {ρ:Type} {x y:X} {a b:Option ρ} (h:x=y):uX x a b=uX y a b:=by rw[h]
@[congr] theorem kRetX_congr {ρ:Type} {x y:X} {a:Option ρ} (h:x=y):jY x a=jY y a:=by rw[h]
theorem LH{W W':AW}{b:Bool}(h:Le W W'):gc W (.bool b,W')=(.bool b,W):=oL rfl h
section
variable {P:Program} {W:AW}
theorem VG(g:Nat):a7z g=.pointer (some ⟨g,0,none⟩):=Eq.trans rfl rfl
theorem LK(W:AW)(o o':AObj):(W.add o).put W.next o'=W.add o':=by unfold AW.add AW.put;simp only[T.set_set]
theorem K4(cs:Array Value):(Value.agg cs).cells=cs:=Eq.trans rfl rfl
theorem ZL(cs:List Value)(o:Nat)(v:Value)(h:o<cs.length):iB cs o [v]=cs.set o v:=by unfold iB;rw[List.set_eq_take_append_cons_drop];simp[h]
theorem LW{b o:Nat}{v:Value}(h:v.cells=#[v])(h1:one v=true):mY 1 (.pointer (some ⟨b,o,none⟩)) v W=(rwCells W b).bind λcs=>if o<cs.length then some (undef,W.put b (.cells (cs.set o v)))else none:=by
 rw[TZ,h];congr 1;funext cs;by_cases hl:o<cs.length
 ·rw[if_pos hl,if_pos ⟨rfl,by simp;omega,by simp[h1]⟩,ZL _ _ _ hl]
 ·rw[if_neg hl,if_neg (λx=>hl (by have:=x.2.1;simp at this;omega))]
theorem a2Y{b o:Nat}{k:IntKind}{n:Int}:mY 1 (.pointer (some ⟨b,o,none⟩)) (.int k n) W=(rwCells W b).bind λcs=>if o<cs.length then some (undef,W.put b (.cells (cs.set o (.int k n))))else none:=LW rfl rfl
theorem a0d{b o:Nat}{x:Bool}:mY 1 (.pointer (some ⟨b,o,none⟩)) (.bool x) W=(rwCells W b).bind λcs=>if o<cs.length then some (undef,W.put b (.cells (cs.set o (.bool x))))else none:=LW rfl rfl
theorem zO{n b o:Nat}{vs:Array Value}:mY n (.pointer (some ⟨b,o,none⟩)) (.agg vs) W=(rwCells W b).bind λcs=>if vs.size=n/\o+vs.toList.length<=cs.length/\vs.toList.all one=true then some (undef,W.put b (.cells (iB cs o vs.toList)))else none:=TZ
theorem rJ(k:IntKind)(n:Int):one (.int k n)=true:=Eq.trans rfl rfl
theorem xM(s:ByteArray):one (.string s)=true:=Eq.trans rfl rfl
theorem X9(a:Option Addr)(l c:Nat):one (.slice a l c)=true:=Eq.trans rfl rfl
theorem KC(k:IntKind)(n:Int):vsame (.int k n) (.int k n)=true:=by simp[vsame,Z0]
theorem NE{t:TypeId}{c d:Bool}{x y:Array Value}{r:Bool}(hg:P.eqGuardType P.depth t=false)(h:OX P 8 t (.agg x) (.agg y)=some r):aD P .neq t c d (.agg x) (.agg y) W=some (.bool (!r),W):=by
 have h0:gK P W t (.agg x) (.agg y)=none:=by unfold gK;split<;>first|rfl|simp_all
 unfold aD iV;simp only[h0,BS,hg,Bool.false_eq_true,if_false,h,Option.map_some]
theorem MS{t:TypeId}{c d:Bool}{x y:Array Value}{r:Bool}(hg:P.eqGuardType P.depth t=false)(h:OX P 8 t (.agg x) (.agg y)=some r):aD P .eql t c d (.agg x) (.agg y) W=some (.bool r,W):=by
 have h0:gK P W t (.agg x) (.agg y)=none:=by unfold gK;split<;>first|rfl|simp_all
 unfold aD iV;simp only[h0,BS,hg,Bool.false_eq_true,if_false,h,Option.map_some]
noncomputable def OZ:List (Int×Int)->Option Bool
 |[]=>some true
 |p::l=>match some (p.1==p.2)with
  |some true=>OZ l
  |some false=>some false
  |none=>none
theorem EP:∀l:List (Int×Int),OZ l=some (l.all λp=>p.1==p.2)
 |[]=>rfl
 |p::l=>by
  unfold OZ;cases h:p.1==p.2 with
  |true=>simp only[List.all_cons,h,Bool.true_and];exact EP l
  |false=>simp only[List.all_cons,h,Bool.false_and]
theorem A7(b o l c:Nat):Z0 (.slice (some ⟨b,o,none⟩) l c) (.slice (some ⟨b,o,none⟩) l c)=true:=by simp[Z0,GD]
theorem PO(l c:Nat):Z0 (.slice none l c) (.slice none l c)=true:=by simp[Z0]
theorem CY(b o l c:Nat):vsame (.slice (some ⟨b,o,none⟩) l c) (.slice (some ⟨b,o,none⟩) l c)=true:=A7 b o l c
theorem U5(l c:Nat):vsame (.slice none l c) (.slice none l c)=true:=PO l c
theorem IB{u v:Value}{W':AW}:agV true (some (u,W')) v=vsame u v:=Eq.trans rfl rfl
end
def Ok{ρ:Type}(t:Option ρ)(G:ρ->Prop):Prop:=∃x,t=some x/\G x
theorem aA{ρ:Type}{x:ρ}{G:ρ->Prop}:Ok (some x) G<->G x:=⟨λ⟨y,h,g⟩=>by injection h with h;subst h;exact g,λg=>⟨x,rfl,g⟩⟩
theorem Ok.mono{ρ:Type}{t:Option ρ}{G H:ρ->Prop}(h:Ok t G)(hg:∀x,G x->H x):Ok t H:=let⟨x,a,b⟩:=h;⟨x,a,hg x b⟩
theorem bR{ρ:Type}{body:PlanTab.Fr->AW->Option LT}{R:PlanTab.Fr}{W:AW}{K:LT->Option ρ}{G:ρ->Prop}(n:Nat)(hn:n<1000000)(I:Nat->PlanTab.Fr->AW->Prop)(Q:LT->Prop)(h0:I 0 R W)
 (hs:∀k R W,k<n->I k R W->Ok (body R W) λr=>(r.1=.normal/\I (k+1) r.2.1 r.2.2)\/(r.1≠ .normal/\Q r))
 (he:∀R W,I n R W->Ok (body R W) λr=>r.1≠ .normal/\Q r)(hk:∀r,Q r->Ok (K r) G):Ok (aB (cO body R W) K) G:=by
 obtain⟨r,h1,h2⟩:=XI n hn I Q h0 hs he;rw[h1,qO];exact hk r h2
theorem aT{o t:Option (Value×AW)}{v:Value}{W:AW}(hv:(aU v&& !isU v)=true)(h:Ok t λr=>r.1=v/\Le W r.2)(hom:∀{r},t=some r->o=some (gc W r)):o=some (v,W):=by obtain⟨⟨u,W'⟩,h1,h2,h3⟩:=h;simp only at h2;subst h2;rw[hom h1,oL hv h3]
def Row{α:Type}(W:AW)(z:Nat)(at_:List Value->Nat->α->Prop)(v:Value)(l:List α):Prop:=
 ∃a c,v=.slice a l.length c/\(l=[]\/∃b o cs,a=some ⟨b,o,none⟩/\b<W.next/\cellsAt W b=some cs/\∀i (h:i<l.length),at_ cs (o+i*z) l[i])
def CV(k:IntKind)(cs:List Value)(p:Nat)(n:Int):Prop:=cs[p]? =some (.int k n)
abbrev Ints(W:AW)(v:Value)(l:List Int):Prop:=Row W 1 (CV .i64) v l
theorem Row.mono{α:Type}{W W':AW}{z:Nat}{at_:List Value->Nat->α->Prop}{v:Value}{l:List α}(h:Row W z at_ v l)(hle:Le W W'):Row W' z at_ v l:=by
 obtain⟨a,c,rfl,h⟩:=h;refine⟨a,c,rfl,?_⟩;rcases h with h|⟨b,o,cs,h1,h2,h3,h4⟩
 ·exact .inl h
 ·exact .inr ⟨b,o,cs,h1,Nat.lt_of_lt_of_le h2 hle.next,by rw[hle.cellsAt h2];exact h3,h4⟩
theorem Row.len{α:Type}{W:AW}{z:Nat}{at_:List Value->Nat->α->Prop}{v:Value}{l:List α}(h:Row W z at_ v l){P:Program}{ts:Array TypeId}{e:TypeId}(ht:(ts[0]?).bind P.underlying=some (.slice e))(W':AW)(ty:TypeId)(cf:Array Bool):
 aF P .len ts ty cf [v] W'=some (.int .i64 l.length,W'):=by
 obtain⟨a,c,rfl,_⟩:=h;exact iA ht _ _ _
theorem Row.elem{α:Type}{W:AW}{z:Nat}{at_:List Value->Nat->α->Prop}{v:Value}{l:List α}(h:Row W z at_ v l){i:Nat}(hi:i<l.length):
 ∃b o cs,(∀W' k,jS z v (.int k (i:Int)) W'=some (.pointer (some ⟨b,o,none⟩),W'))/\b<W.next/\cellsAt W b=some cs/\at_ cs o l[i]:=by
 obtain⟨a,c,rfl,h⟩:=h;rcases h with rfl|⟨b,o,cs,rfl,h2,h3,h4⟩
 ·simp at hi
 ·exact⟨b,o+i*z,cs,λW' k=>nM hi,h2,h3,h4 i hi⟩
theorem Ints.get{W:AW}{v:Value}{l:List Int}(h:Ints W v l){i:Nat}(hi:i<l.length):
 ∃p,(∀W' k,jS 1 v (.int k (i:Int)) W'=some (p,W'))/\∀W',Le W W'->aR p W'=some (.int .i64 l[i],W'):=by
 obtain⟨b,o,cs,h1,h2,h3,h4⟩:=h.elem hi;exact⟨_,h1,λW' hle=>bU (by rw[hle.cellsAt h2];exact h3) h4⟩
end Go.Eng
namespace Go.Eng
open Go Go.RowKit
variable [PlanTab]
noncomputable def tC:List (Nat×Callee)->Callee
 |[]=>λ_ _ _=>none
 |(F,c)::l=>λf args W=>match f with
  |.func (.func g) fs cs=>(match Nat.beq g F with
   |true=>c (.func (.func g) fs cs) args W
   |false=>tC l (.func (.func g) fs cs) args W)
  |_=>none
theorem zG{P:Program}{ng:List Nat}:∀{l:List (Nat×Callee)},(∀x∈l,aO P ng x.2)->aO P ng (tC l)
 |[],_=>λf args W v W' h=>by cases h
 |(F,c)::l,hl=>by
  intro f args W v W' h;unfold tC at h;split at h;case h_2=>cases h
  split at h
  ·exact hl (F,c) (by simp) _ _ _ _ _ h
  ·exact zG (λx hx=>hl x (by simp[hx])) _ _ _ _ _ h
def GlobW(gs:List (Nat×List Value))(W:AW):Prop:=∀x∈gs,W.get x.1=some (.ro x.2)/\x.1<W.next
theorem GlobW.mono{gs:List (Nat×List Value)}{W W':AW}(h:GlobW gs W)(hle:Le W W'):GlobW gs W':=λx hx=>⟨by rw[hle.get _ (h x hx).2];exact(h x hx).1,Nat.lt_of_lt_of_le (h x hx).2 hle.next⟩
noncomputable def uN(F:Nat)(gs:List (Nat×List Value))(val:List Value->Option Value):Callee:=λf args W=>match f with
 |.func (.func g) fs cs=>(match Nat.beq g F&&(fs.isEmpty&&cs.isEmpty)with
  |true=>open Classical in if GlobW gs W then(match val args with
   |some v=>if aU v&&args.all aU then some (v,W)else none
   |none=>none)else none
  |false=>none)
 |_=>none
theorem ZH{F:Nat}{gs:List (Nat×List Value)}{val:List Value->Option Value}{args:List Value}{W:AW}{v:Value}(hg:GlobW gs W)(hv:val args=some v)(hp:aU v=true)(ha:args.all aU=true):
 uN F gs val (.func (.func F) #[] #[]) args W=some (v,W):=by
 unfold uN;simp only[Nat.beq_refl,Array.isEmpty_empty,Bool.and_self,if_pos hg,hv,hp,ha,Bool.and_true,if_true]
theorem ZZ{P:Program}{ng:List Nat}{F:Nat}{fn:Func}{body:Code}(hfn:P.funcs[F]? =some fn)(hname:(fn.name== "runtime.NumGoroutine")=false)(hb:fn.body=some body){gs:List (Nat×List Value)}(hsc:gs.all (λx=>x.2.all bS&&LA x.1 ng)=true){val:List Value->Option Value}
 (hall:∀args v,val args=some v->∀w:World,K5 gs w.heap->Calls P F args.toArray w λe w'=>e=.returned v/\Quiet w w'):aO P ng (uN F gs val):=by
 intro f args W v W' h σ w f' args' hW hG hf hargs;unfold uN at h;split at h;case h_2=>cases h
 rename_i g fs cs;split at h;case h_2=>cases h
 rename_i hgf;simp only[Bool.and_eq_true,Nat.beq_eq,Array.isEmpty_iff]at hgf;obtain⟨rfl,rfl,rfl⟩:=hgf;split at h;case isFalse=>cases h
 rename_i hgl;split at h;case h_2=>cases h
 rename_i u hu;split at h;case isFalse=>cases h
 rename_i hpl;injection h with h;injection h with h1 h2;subst h1;subst h2;simp only[Bool.and_eq_true]at hpl;obtain⟨fn',fs',cs',hfr,hfs,hcs,rfl⟩:=hf.func_inv;cases hfr;obtain rfl:fs'=#[]:=by have h1:fs'.toList.length=0:=hfs.1.symm;exact Array.toList_eq_nil_iff.1 (List.length_eq_zero_iff.1 h1)
 obtain rfl:cs'=#[]:=by have h1:cs'.toList.length=0:=hcs.1.symm;exact Array.toList_eq_nil_iff.1 (List.length_eq_zero_iff.1 h1)
 obtain rfl:args'=args:=LR.eq_of (λv v'=>gD) hpl.2 hargs;have hl:K5 gs w.heap:=λx hx=>by have hs:=List.all_eq_true.1 hsc x hx;simp only[Bool.and_eq_true]at hs;obtain⟨e,he⟩:=hG x.1 (xQ.1 hs.2);obtain⟨c,t,fr,k1,_,k3⟩:=hW.obj x.1 _ _ (hgl x hx).1 he;refine⟨c,t,fr,k1,λi v hv=>?_⟩;obtain⟨v',a,b⟩:=k3 i v hv;have hsv:=List.all_eq_true.1 hs.1 v (List.mem_of_getElem? hv);have:v'=v:=KD hsv b;subst this;exact⟨by simpa using a,hsv⟩
 refine⟨dA hfn hname hb _ w,?_⟩;have e1:(#[]:Array Value)++args'.toArray++#[]=args'.toArray:=by simp
 rw[e1];refine CallsIn.mono (show CallsIn Fence.wide 0 P g _ w _ from(callsIn_wide (n:=0)).2 (hall _ _ hu w hl)) ?_;rintro e w' ⟨rfl,hq⟩;exact⟨_,rfl,σ,iK hpl.1,hq.rel hW,hq.ext σ W⟩
def AllRo(σ:bM)(W:AW):Prop:=∀b g,σ b=some g->∃cs,W.get b=some (.ro cs)
theorem AllRo.quiet{σ σ':bM}{W W':AW}{w w':World}(h:AllRo σ W)(he:Ext σ W w σ' W' w'):Quiet w w':=
 ⟨he.os,he.tape,he.output,he.size,λB hB=>he.keep B hB (by rintro⟨b,g,hg,_,hn⟩;obtain⟨cs,hc⟩:=h b g hg;exact hn cs hc)⟩
theorem a1A{P:Program}{o:Callee}(hok:aO P PlanTab.ng o){σ:bM}{W W':AW}{w:World}(hW:WRel σ W w.heap)(hG:Glob σ PlanTab.ng)(hro:AllRo σ W){i:FuncId}{args args':List Value}(hargs:LR σ args args'){v:Value}(hv:aU v=true)
 (h:o (.func (.func i) #[] #[]) args W=some (v,W')):Calls P i args'.toArray w λe w'=>e=.returned v/\Quiet w w':=by
 have hc:=hok _ _ _ _ _ h σ w (.func (.func i) #[] #[]) args' hW hG (.func _ _ _ _ _ _ (.func i) rfl (λi v v' x=>by simp at x) rfl (λi v v' x=>by simp at x)) hargs;unfold wN at hc;obtain⟨_,hc⟩:=hc;have e1:(#[]:Array Value)++args'.toArray++#[]=args'.toArray:=by simp
 rw[e1]at hc;refine(callsIn_wide (n:=0)).1 ?_;refine CallsIn.mono (show CallsIn Fence.wide 0 P i args'.toArray w _ from hc) ?_;rintro e w' ⟨v',rfl,σ',hv',_,he⟩;exact⟨by rw[gD hv hv'],hro.quiet he⟩
theorem a2u{gs:List (Nat×List Value)}{N:Nat}:AllRo (σG gs) (WG gs N):=by intro b g hg;obtain⟨x,_,_,_,ht⟩:=vO hg;exact⟨x.2,ht⟩
end Go.Eng
namespace Go.Eng
open Go
variable [PlanTab]
section
variable {P:Program} {W:AW}
def aJ(l:List UInt8):ByteArray:=⟨l.toArray⟩
theorem OY(b:ByteArray):aJ b.data.toList=b:=by cases b;simp[aJ]
theorem jT(l:List UInt8):(aJ l).size=l.length:=by simp[aJ,ByteArray.size]
theorem xL(l:List Nat):FM l=.string (aJ (l.map UInt8.ofNat)):=Eq.trans rfl rfl
theorem DX(l:List UInt8)(i:Nat):(aJ l)[i]? =l[i]? :=by
 by_cases h:i<l.length
 ·have h2:i<(aJ l).size:=by rw[jT];exact h
  rw[List.getElem?_eq_getElem h,getElem?_pos (aJ l) i h2];rfl
 ·rw[List.getElem?_eq_none (by omega),getElem?_neg (aJ l) i (by rw[jT];exact h)]
theorem K8{s:Sem Value}{v:Value}(h:bB P s=some v)(hv:aU v=true)(c:Bool)(hc:c=true):(lM P c (do pure (.value (<-s)))).map (λv=>(v,W))=some (v,W):=by subst hc;unfold lM;simp only[if_true,Q4 h,hv,Option.map_some]
theorem vS{t:TypeId}(hs:P.underlying t=some .string){l:List UInt8}{i:Nat}{k:IntKind}(hi:i<l.length):iJ P t (.string (aJ l)) (.int k (i:Int)) W=some (.int .u8 (l[i].toNat:Int),W):=by
 have e:iJ P t (.string (aJ l)) (.int k (i:Int)) W=(lM P (aU (.string (aJ l))&&(aU (.int k (i:Int))&&true)) (do pure (.value (<-Instr.index t (.string (aJ l)) (.int k (i:Int)))))).map λv=>(v,W):=by unfold iJ;rw[hs]
 rw[e];refine K8 ?_ rfl _ rfl;unfold Instr.index;have h0:(0:Int)<=(i:Int):=by omega
 simp only[asIntOf,pure_bind,dH,dF hs,Option.bind_some,h0,if_true,Int.toNat_natCast,DX,List.getElem?_eq_getElem hi,eB]
theorem kH{ts:Array TypeId}{ty:TypeId}{cf:Array Bool}(h:(ts[0]?).bind P.underlying=some .string)(l:List UInt8):aF P .len ts ty cf [.string (aJ l)] W=some (.int .i64 l.length,W):=by
 obtain⟨t,h1,h2⟩:∃t,ts[0]? =some t/\P.underlying t=some .string:=by
  cases ht:ts[0]? with
  |none=>rw[ht]at h;cases h
  |some t=>rw[ht]at h;exact⟨t,rfl,h⟩
 have e:aF P .len ts ty cf [.string (aJ l)] W=(lM P ([Value.string (aJ l)].all aU) (builtin .len ts ty cf #[.string (aJ l)])).map λv=>(v,W):=by unfold aF;rfl
 rw[e];have e2:builtin .len ts ty cf #[.string (aJ l)]=(do pure (.value (<-Builtin.len_ ts ty #[.string (aJ l)]))):=rfl;rw[e2];refine K8 ?_ rfl _ rfl;unfold Builtin.len_;simp only[h1,List.getElem?_toArray,List.getElem?_cons_zero,dH,dF h2,Option.bind_some,eB,jT];rfl
theorem tQ(l:List UInt8)(a b:Nat):(aJ l).extract a b=aJ ((l.take b).drop a):=by
 have h:((aJ l).extract a b).data=(aJ ((l.take b).drop a)).data:=by rw[ByteArray.data_extract];apply Array.toList_inj.1;simp[aJ,List.extract_eq_take_drop,List.drop_take]
 cases hx:(aJ l).extract a b with
 |mk d=>rw[hx]at h;simp only at h;rw[h]
theorem a0x{t:TypeId}(hs:P.underlying t=some .string){l:List UInt8}{a:Nat}{k:IntKind}(h:a<=l.length):bL P t (.string (aJ l)) (some (.int k (a:Int))) none none W=some (.string (aJ (l.drop a)),W):=by
 have e:bL P t (.string (aJ l)) (some (.int k (a:Int))) none none W=(lM P (([Value.string (aJ l),.int k (a:Int)]:List Value).all aU) (do pure (.value (<-Instr.sliceAt t (.string (aJ l)) (some (.int k (a:Int))) none none)))).map λv=>(v,W):=by unfold bL fU;rw[hs];rfl
 rw[e];refine K8 ?_ rfl _ rfl;have h0:(0:Int)<=(a:Int)/\(a:Int)<=((aJ l).size:Int):=by rw[jT];omega
 have hx:(aJ l).extract a (aJ l).size=aJ (l.drop a):=by rw[tQ,jT,List.take_length]
 unfold Instr.sliceAt Instr.slice Instr.sliceBounds Instr.sliceBound;simp only[dH,dF hs,Option.bind_some,asIntOf,pure_bind,h0,and_self,if_true,eB,Int.toNat_natCast,hx,Option.isSome_none,Bool.false_eq_true,if_false]
theorem a4f{t:TypeId}(hs:P.underlying t=some .string){l:List UInt8}{a:Nat}{k:IntKind}(h:a<=l.length):bL P t (.string (aJ l)) none (some (.int k (a:Int))) none W=some (.string (aJ (l.take a)),W):=by
 have e:bL P t (.string (aJ l)) none (some (.int k (a:Int))) none W=(lM P (([Value.string (aJ l),.int k (a:Int)]:List Value).all aU) (do pure (.value (<-Instr.sliceAt t (.string (aJ l)) none (some (.int k (a:Int))) none)))).map λv=>(v,W):=by unfold bL fU;rw[hs];rfl
 rw[e];refine K8 ?_ rfl _ rfl;have h0:(0:Int)<=(a:Int)/\(a:Int)<=((aJ l).size:Int):=by rw[jT];omega
 have hx:(aJ l).extract 0 a=aJ (l.take a):=by rw[tQ];simp
 unfold Instr.sliceAt Instr.slice Instr.sliceBounds Instr.sliceBound;simp only[dH,dF hs,Option.bind_some,asIntOf,pure_bind,h0,and_self,if_true,eB,Int.toNat_natCast,hx,Option.isSome_none,Bool.false_eq_true,if_false]
theorem wK(l:List UInt8):(aJ l).toList=l:=by rw[ByteArray.toList_eq];rfl
theorem sF{t:TypeId}{c d:Bool}{a b:List UInt8}:aD P .eql t c d (.string (aJ a)) (.string (aJ b)) W=some (.bool (a==b),W):=by rw[BP,wK,wK]
theorem aI(a:Addr):aH (.pointer (some a)) W=some (.pointer (some a),W):=Eq.trans rfl rfl
theorem I8{t:TypeId}{x u:Value}:aK P [(x,some t),(u,none)] W=(PH P t x W).bind λr=>some (.tuple #[r.1,u],W):=by unfold aK PH;simp only[yM];cases nU P W t x<;>rfl
theorem a2Q{b:Nat}{cs:List Value}(h:rwCells W b=some cs)(h1:cs.all one=true):mY cs.length (.pointer (some ⟨b,0,none⟩)) (.agg cs.toArray) W=some (undef,W.put b (.cells cs)):=by rw[zO,h];simp only[Option.bind_some,List.size_toArray,Nat.zero_add,Nat.le_refl,h1,and_self,if_true,iB,List.take_zero,List.nil_append,List.drop_length,List.append_nil]
theorem vT{b n:Nat}{cs:List Value}(h:cellsAt W b=some cs)(hn:cs.length=n):jV n (.pointer (some ⟨b,0,none⟩)) W=some (.agg cs.toArray,W):=by rw[xA,h];simp only[Option.bind_some,List.drop_zero,<-hn,List.take_length,if_true]
end
end Go.Eng
namespace Go.Eng
open Go
theorem SX:type_of% (And.intro @qO (And.intro @a0p (And.intro @fH (And.intro @PN (And.intro @JG (And.intro @DF (And.intro @I4 (And.intro @KN (And.intro @I5 (And.intro @yT (And.intro @yL (And.intro @zN (And.intro @yE (And.intro @yV (And.intro @OL (And.intro @JV (And.intro @R7 (And.intro @JM (And.intro @OH (And.intro @GY (And.intro @zL (And.intro @FP (And.intro @JB (And.intro @EN (And.intro @JW (And.intro @zU (And.intro @JC (And.intro @WF (And.intro @a0B (And.intro @VG (And.intro @Q6 (And.intro @PU (And.intro @NR (And.intro @QH (And.intro @Q3 (And.intro @P7 (And.intro @GM (And.intro @F7 (And.intro @GL (And.intro @NT (And.intro @ZP (And.intro @Bool.not_true (And.intro @Bool.not_false (And.intro @decide_true (@decide_false))))))))))))))))))))))))))))))))))))))))))))):=And.intro @qO (And.intro @a0p (And.intro @fH (And.intro @PN (And.intro @JG (And.intro @DF (And.intro @I4 (And.intro @KN (And.intro @I5 (And.intro @yT (And.intro @yL (And.intro @zN (And.intro @yE (And.intro @yV (And.intro @OL (And.intro @JV (And.intro @R7 (And.intro @JM (And.intro @OH (And.intro @GY (And.intro @zL (And.intro @FP (And.intro @JB (And.intro @EN (And.intro @JW (And.intro @zU (And.intro @JC (And.intro @WF (And.intro @a0B (And.intro @VG (And.intro @Q6 (And.intro @PU (And.intro @NR (And.intro @QH (And.intro @Q3 (And.intro @P7 (And.intro @GM (And.intro @F7 (And.intro @GL (And.intro @NT (And.intro @ZP (And.intro @Bool.not_true (And.intro @Bool.not_false (And.intro @decide_true (@decide_false))))))))))))))))))))))))))))))))))))))))))))
end Go.Eng
namespace Go.Eng
open Go
variable [PlanTab]
section
variable {P:Program} {W:AW} {α:Type}
def Lst(lo:Nat)(W:AW)(z:Nat)(f:α->List Value)(v:Value)(l:List α):Prop:=
 (l=[]/\v=.slice none 0 0)\/(l≠[]/\∃B,lo<=B/\B<W.next/\v=.slice (some ⟨B,0,none⟩) l.length (bQ+z)/\W.get B=some (.cells (l.flatMap f)))
theorem aN{z:Nat}{f:α->List Value}(hf:∀a,(f a).length=z):∀l:List α,(l.flatMap f).length=l.length*z
 |[]=>by simp
 |a::l=>by rw[List.flatMap_cons,List.length_append,hf,aN hf l,List.length_cons,Nat.succ_mul,Nat.add_comm]
theorem Lst.nil(lo:Nat)(W:AW)(z:Nat)(f:α->List Value):Lst lo W z f (.slice none 0 0) []:=.inl ⟨rfl,rfl⟩
theorem Lst.mono{lo z:Nat}{f:α->List Value}{v:Value}{l:List α}{W':AW}(h:Lst lo W z f v l)(hle:Le W W'):Lst lo W' z f v l:=by
 rcases h with h|⟨h0,B,h1,h2,h3,h4⟩
 ·exact .inl h
 ·exact .inr ⟨h0,B,h1,Nat.lt_of_lt_of_le h2 hle.next,h3,by rw[hle.get B h2];exact h4⟩
theorem Lst.push{ts:Array TypeId}{z bytes lo:Nat}{f:α->List Value}{v:Value}{l:List α}{a:α}(hk:l8 P ts z bytes=true)(hf:∀a,(f a).length=z)(h1:∀a,(f a).all one=true)
 (h:Lst lo W z f v l){b c:Nat}(hc:cellsAt W b=some (f a))(hb:l.length+1<1099511627776)(hb2:(2*(l.length+1)+192)*bytes<=281474976710656)(hlo:lo<=W.next):
 ∃v' W',bE P W ts v (.slice (some ⟨b,0,none⟩) 1 c)=some (v',W')/\Lst lo W' z f v' (l++[a])/\W.next<=W'.next/\∀A,Le A W->A.next<=lo->Le A W':=by
 have hn:f a=((f a).drop 0).take (1*z):=by rw[List.drop_zero,Nat.one_mul,<-hf a,List.take_length]
 have hl:(f a).length=1*z:=by rw[hf];omega
 rcases h with⟨rfl,rfl⟩|⟨h0,B,i1,i2,rfl,i4⟩
 ·refine⟨_,_,xS (b:=b) (o:=0) (c:=c) hk hc hn hl (by omega) (h1 a) (by omega) (by simpa using hb2),.inr ⟨by simp,W.next,hlo,by rw[AW.add_next];omega,by simp,by rw[AW.get_add];simp⟩,by rw[AW.add_next];omega,λA hA _=>hA.add _⟩
 ·have hpos:0<l.length:=List.length_pos_iff.2 h0;refine⟨_,_,MK (b:=b) (o:=0) (c:=c) hk hc hn hl (by omega) (h1 a) i4 (aN hf l) (by omega) hb2 hpos,.inr ⟨by simp,W.next,hlo,by rw[AW.add_next,AW.kill_next];omega,by simp[AW.kill_next],?_⟩,by rw[AW.add_next,AW.kill_next];omega,λA hA hl=>(hA.kill (by omega)).add _⟩;have:=(W.kill B).get_add (.cells (l.flatMap f++f a));rw[AW.kill_next]at this;rw[this,List.flatMap_append];simp
theorem Lst.row{lo z:Nat}{f:α->List Value}{v:Value}{l:List α}{at_:List Value->Nat->α->Prop}(hf:∀a,(f a).length=z)(h:Lst lo W z f v l)(hat:∀a pre post,at_ (pre++(f a++post)) pre.length a):Row W z at_ v l:=by
 rcases h with⟨rfl,rfl⟩|⟨h0,B,i1,i2,rfl,i4⟩
 ·exact⟨none,0,rfl,.inl rfl⟩
 ·refine⟨_,_,rfl,.inr ⟨B,0,_,rfl,i2,aZ i4,λi hi=>?_⟩⟩;have e:l.flatMap f=(l.take i).flatMap f++(f l[i]++(l.drop (i+1)).flatMap f):=by rw[<-List.flatMap_cons,<-List.drop_eq_getElem_cons hi,<-List.flatMap_append,List.take_append_drop]
  have e2:((l.take i).flatMap f).length=0+i*z:=by rw[aN hf,List.length_take];rw[Nat.min_eq_left (by omega),Nat.zero_add]
  rw[e,<-e2];exact hat _ _ _
theorem Lst.one{lo z:Nat}{f:α->List Value}{v:Value}{l:List α}(h:Lst lo W z f v l):one v=true:=by rcases h with⟨_,rfl⟩|⟨_,B,_,_,rfl,_⟩<;>rfl
theorem a4O{W':AW}{z:Nat}{at_:List Value->Nat->α->Prop}{v:Value}{l:List α}(hle:Le W W')(h:Row W' z at_ v l):∃W2,gc W (v,W')=(v,W2)/\Le W W2/\Le W2 W'/\Row W2 z at_ v l:=by
 cases hp:(aU v&& !isU v)
 ·exact⟨W',fD hp,hle,.refl _,h⟩
 ·refine⟨W,oL hp hle,.refl _,hle,?_⟩;obtain⟨a,c,rfl,h⟩:=h;rcases h with h|⟨b,o,cs,rfl,_⟩
  ·exact⟨a,c,rfl,.inl h⟩
  ·exact absurd hp (by simp[aU,iT,bS])
theorem a1o{o t:Option (Value×AW)}{z:Nat}{at_:List Value->Nat->α->Prop}{l:List α}(h:Ok t λr=>Le W r.2/\Row r.2 z at_ r.1 l)(hom:∀{r},t=some r->o=some (gc W r)):∃v W2,o=some (v,W2)/\Le W W2/\Row W2 z at_ v l:=by obtain⟨⟨v,W'⟩,h1,h2,h3⟩:=h;obtain⟨W2,k1,k2,_,k3⟩:=a4O h2 h3;exact⟨v,W2,by rw[hom h1,k1],k2,k3⟩
end
end Go.Eng
namespace Go.Eng
open Go
variable [PlanTab]
section
variable {P:Program} {bad:List Nat} {spec:Callee}
noncomputable def a5G(x:X)(l:Nat)(R:PlanTab.Fr)(nt:Nat)(ps:Array Tmp)(as bd:Code)(W:AW):Value×AW:=match x with
 |.normal=>(.bool true,W.put l (.loop .ready none R nt ps as bd))
 |x=>(.bool false,W.put l (.loop .done x.jump R nt ps as bd))
theorem JA{l nt:Nat}{R:PlanTab.Fr}{ps:Array Tmp}{as bd:Code}{W:AW}{args:List Value}(hl:W.get l=some (.loop .ready none R nt ps as bd))(hn:args.length=ps.size)
 {R1:PlanTab.Fr}{W1:AW}(h1:gY P (om P bad spec) false nt as LT (nC ps.toList args R) W pR=some (.normal,R1,W1))(hk:W1.get l=some (.loop .ready none R nt ps as bd))
 {x2:X}{R2:PlanTab.Fr}{W2:AW}(h2:gY P (om P bad spec) false nt bd LT R1 (W1.put l (.loop .busy none R nt ps as bd)) pR=some (x2,R2,W2))(hk2:W2.get l=some (.loop .busy none R nt ps as bd)):
 om P bad spec (.func (.yield l) #[] #[]) args W=some (a5G x2 l R nt ps as bd W2):=by
 refine a0v hl (by simpa using hn) ?_;unfold L6;rw[show(#[]:Array Value).toList++args=args from rfl,h1];simp only[Option.bind_some,uX,hk,h2,hk2];unfold a5G;cases x2<;>rfl
theorem zS{call:Callee}{i:Nat}{fs cs:Array Value}{obj:AObj}{W W2:AW}{v:Value}(h:call (.func (.func i) fs cs) [.func (.yield W.next) #[] #[]] (W.add obj)=some (v,W2))
 {st:LoopState}{R:PlanTab.Fr}{nt:Nat}{ps:Array Tmp}{as bd:Code}(hg:W2.get W.next=some (.loop st none R nt ps as bd))(hs:st≠ .busy):lW call (.func (.func i) fs cs) obj W=some (.normal,W2.kill W.next):=by
 unfold lW;simp only[h,hg]
theorem FZ{call:Callee}{i:Nat}{fs cs:Array Value}{obj:AObj}{W W2:AW}{v:Value}(h:call (.func (.func i) fs cs) [.func (.yield W.next) #[] #[]] (W.add obj)=some (v,W2))
 {x:X}{R:PlanTab.Fr}{nt:Nat}{ps:Array Tmp}{as bd:Code}(hg:W2.get W.next=some (.loop .done x.jump R nt ps as bd)):lW call (.func (.func i) fs cs) obj W=some (x,W2.kill W.next):=by
 unfold lW;simp only[h,hg];cases x<;>rfl
end
end Go.Eng
namespace Go.Eng
open Go Go.RowKit Go.Sort
variable [PlanTab]
def lL(zs:List Int):List Int:=zs.mergeSort λx y=>decide (x<=y)
theorem BN(zs:List Int):(lL zs).length=zs.length:=List.length_mergeSort _
def SortArgs(W:AW)(args:List Value)(W':AW):Prop:=∃b c zs,zs≠[]/\zs.length<1099511627776/\args=[.slice (some ⟨b,0,none⟩) zs.length c]/\W.get b=some (.cells (zs.map (Value.int .i64)))/\W'=W.put b (.cells ((lL zs).map (Value.int .i64)))
theorem CR:∀{a b:List Int},a.map (Value.int .i64)=b.map (Value.int .i64)->a=b
 |[],[],_=>rfl
 |[],_::_,h=>by simp at h
 |_::_,[],h=>by simp at h
 |x::a,y::b,h=>by simp only[List.map_cons,List.cons.injEq,Value.int.injEq,true_and]at h;rw[h.1,CR h.2]
theorem SortArgs.one{W W1 W2:AW}{args:List Value}(h1:SortArgs W args W1)(h2:SortArgs W args W2):W1=W2:=by obtain⟨b,c,zs,_,_,rfl,g1,rfl⟩:=h1;obtain⟨b2,c2,zs2,_,_,e,g2,rfl⟩:=h2;simp only[List.cons.injEq,Value.slice.injEq,Option.some.injEq,Addr.mk.injEq,and_true]at e;obtain⟨rfl,_,_⟩:=e;rw[g1]at g2;simp only[Option.some.injEq,AObj.cells.injEq]at g2;rw[CR g2]
noncomputable def a3M(F:Nat):Callee:=λf args W=>match f with
 |.func (.func g) fs cs=>(match Nat.beq g F&&(fs.isEmpty&&cs.isEmpty)with
  |true=>open Classical in if h:∃W',SortArgs W args W' then some (.tuple #[],Classical.choose h)else none
  |false=>none)
 |_=>none
theorem WRel.growing{σ:bM}{W:AW}{w:World}(h:WRel σ W w.heap)(os:Array Obj):WRel σ W (Sort.grow w os).heap/\Ext σ W w σ W (Sort.grow w os):=by
 have hold:∀B,B<w.heap.size->(Sort.grow w os).heap[B]? =w.heap[B]? :=λB hB=>heap_grow_old w os hB
 have hsz:w.heap.size<=(Sort.grow w os).heap.size:=by unfold Sort.grow;simp
 exact⟨⟨h.free,λb g hg=>⟨(h.dom b g hg).1,Nat.lt_of_lt_of_le (h.dom b g hg).2 hsz⟩,λb o g hb hg=>(h.obj b o g hb hg).same (hold _ (h.dom b g hg).2),h.disj⟩,
  ⟨.refl _,λ_ _ h=>h,hsz,rfl,rfl,rfl,λB hB _=>hold B hB,λ_ _ h k=>⟨h,k⟩,λb g hg _=>.inl hg⟩⟩
theorem Q0{P:Program}{ng:List Nat}{F:Nat}{fn:Func}{body:Code}(hfn:P.funcs[F]? =some fn)(hname:(fn.name== "runtime.NumGoroutine")=false)(hb:fn.body=some body)
 (hsort:∀(blk off cap:Nat) (zs:List Int) (w:World),Holds (Value.int .i64) w blk off zs.toArray->blk<w.heap.size->zs.length<4611686018427387904->
   Calls P F #[.slice (some ⟨blk,off,none⟩) zs.length cap] w λe w'=>e=.returned (.tuple #[])/\∃n os,w'=Sort.grow (putRow (Value.int .i64) (Sort.ahead w n) blk off (lL zs).toArray) os):aO P ng (a3M F):=by
 intro f args W v W' h σ w f' args' hW hG hf hargs;unfold a3M at h;split at h;case h_2=>cases h
 rename_i g fs cs;split at h;case h_2=>cases h
 rename_i hgf;simp only[Bool.and_eq_true,Nat.beq_eq,Array.isEmpty_iff]at hgf;obtain⟨rfl,rfl,rfl⟩:=hgf;split at h;case isFalse=>cases h
 rename_i hx;injection h with h;injection h with h1 h2;subst h1;have hs:=Classical.choose_spec hx;rw[h2]at hs;clear h2 hx;obtain⟨b,c,zs,hne,hlen,rfl,hgb,rfl⟩:=hs;obtain⟨fn',fs',cs',hfr,hfs,hcs,rfl⟩:=hf.func_inv;cases hfr;obtain rfl:fs'=#[]:=by have h1:fs'.toList.length=0:=hfs.1.symm;exact Array.toList_eq_nil_iff.1 (List.length_eq_zero_iff.1 h1)
 obtain rfl:cs'=#[]:=by have h1:cs'.toList.length=0:=hcs.1.symm;exact Array.toList_eq_nil_iff.1 (List.length_eq_zero_iff.1 h1)
 obtain⟨v',rfl,hv⟩:∃v',args'=[v']/\VR σ (.slice (some ⟨b,0,none⟩) zs.length c) v':=by
  obtain⟨hl,hv⟩:=hargs;match args',hl with
  |[v'],_=>exact⟨v',rfl,hv 0 _ _ rfl rfl⟩
 obtain⟨sg,cap',hg,rfl⟩:∃(sg:Seg) (cap':Nat),σ b=some sg/\v'=.slice (some ⟨sg.B,sg.s,none⟩) zs.length cap':=by
  have hpos:0<zs.length:=List.length_pos_iff.2 hne;generalize hl:zs.length=l at hv hpos;cases hv with
  |slice a l c c' g h hs hc=>exact⟨g,c',h,rfl⟩
  |sliceE=>omega
 refine⟨dA hfn hname hb _ w,?_⟩;have e1:(#[]:Array Value)++[Value.slice (some ⟨sg.B,sg.s,none⟩) zs.length cap'].toArray++#[]=#[.slice (some ⟨sg.B,sg.s,none⟩) zs.length cap']:=by simp
 rw[e1];obtain⟨cc,t,fr0,k1,k0,k2,k3,k4⟩:=hW.obj b _ _ hgb hg;have hse:sg.s<sg.e:=by rw[List.length_map]at k2;have:=List.length_pos_iff.2 hne;omega
 obtain rfl:=k0 hse;have hcell:∀j,(hj:j<zs.length)->cc[sg.s+j]? =some (.int .i64 zs[j]):=λj hj=>by obtain⟨u,u1,u2⟩:=k4 j (.int .i64 zs[j]) (by rw[List.getElem?_map,List.getElem?_eq_getElem hj];rfl);cases u2;exact u1
 have hH:Holds (Value.int .i64) w sg.B sg.s zs.toArray:=λj hj=>by
  have hj':j<zs.length:=by simpa using hj
  refine⟨?_,(ORel.cold (hW.obj b _ _ hgb hg) (λ_ hx=>by cases hx) hse rfl)⟩;unfold World.cell?;simp only[k1,hcell j hj',Option.bind_some,Option.isSome_none];rw[getElem!_pos zs.toArray j hj];simp
 have hbl:=(hW.dom b _ hg).2;refine CallsIn.mono (show CallsIn Fence.wide 0 P g _ w _ from(callsIn_wide (n:=0)).2 (hsort sg.B sg.s cap' zs w hH hbl (by omega))) ?_;rintro e w' ⟨rfl,n,os,rfl⟩;have hsl:(lL zs).length=zs.length:=BN zs;have hmod:∀B,B≠sg.B->(putRow (Value.int .i64) (Sort.ahead w n) sg.B sg.s (lL zs).toArray).heap[B]? =w.heap[B]? :=λB hB=>by show(w.heap.modify sg.B _)[B]? =_;rw[Array.getElem?_modify,if_neg (Ne.symm hB)]
 have hat:(putRow (Value.int .i64) (Sort.ahead w n) sg.B sg.s (lL zs).toArray).heap[sg.B]? =some (.cells (putCells (Value.int .i64) sg.s (lL zs).toArray cc) t (0,0)):=by show(w.heap.modify sg.B _)[sg.B]? =_;rw[Array.getElem?_modify,if_pos rfl,k1];rfl
 have hpc:∀i,(putCells (Value.int .i64) sg.s (lL zs).toArray cc)[i]? =(cc[i]?).map λx=>if sg.s<=i/\i<sg.s+(lL zs).toArray.size then Value.int .i64 (lL zs).toArray[i-sg.s]! else x:=λi=>by unfold putCells;rw[Array.getElem?_mapIdx]
 rw[List.length_map]at k2;obtain⟨r1,r2⟩:=hW.write (w':=putRow (Value.int .i64) (Sort.ahead w n) sg.B sg.s (lL zs).toArray) (cs':=(lL zs).map (Value.int .i64)) hgb hg (by show(w.heap.modify _ _).size=_;simp) rfl rfl rfl hmod k1 hat (by unfold putCells;simp)
  (λi hi=>by
    rw[hpc];have:¬(sg.s<=i/\i<sg.s+(lL zs).toArray.size):=by rw[List.size_toArray,hsl];omega
    simp only[this,if_false];cases cc[i]? <;>rfl)
  (by rw[List.length_map,hsl];exact k2)
  (λi v hv=>by
    rw[List.getElem?_map]at hv;have hi:i<(lL zs).length:=by
     rcases Nat.lt_or_ge i (lL zs).length with h|h
     ·exact h
     ·rw[List.getElem?_eq_none h]at hv;cases hv
    rw[List.getElem?_eq_getElem hi]at hv;injection hv with hv;subst hv;refine⟨_,?_,.int _ _⟩;rw[hpc,hcell i (by omega)];have:sg.s<=sg.s+i/\sg.s+i<sg.s+(lL zs).toArray.size:=by rw[List.size_toArray];omega
    simp only[this,and_self,if_true,Option.map_some,Nat.add_sub_cancel_left];rw[getElem!_pos (lL zs).toArray i (by simpa using hi)];simp)
 obtain⟨q1,q2⟩:=r1.growing os;exact⟨_,rfl,σ,.tuple' (.nil),q1,r2.trans q2⟩
end Go.Eng
namespace Go.Eng
open Go
variable [PlanTab]
section
variable {P:Program} {W:AW} {α:Type}
def IU(n:Int):List Value:=[.int .i64 n]
theorem HY(n:Int):(IU n).length=1:=rfl
theorem a0k(n:Int):(IU n).all one=true:=rfl
theorem WM(n:Int)(pre post:List Value):CV .i64 (pre++(IU n++post)) pre.length n:=by unfold CV;rw[List.getElem?_append_right (by omega)];simp[IU]
theorem FV:∀l:List Int,l.flatMap IU=l.map (Value.int .i64)
 |[]=>rfl
 |a::l=>by rw[List.flatMap_cons,List.map_cons,FV l];rfl
theorem Lst.ints{lo:Nat}{v:Value}{l:List Int}(h:Lst lo W 1 IU v l):Ints W v l:=h.row HY WM
theorem Lst.sort{lo:Nat}{v:Value}{l:List Int}(h:Lst lo W 1 IU v l)(h0:l≠[])(hl:l.length<1099511627776):∃W',SortArgs W [v] W'/\Lst lo W' 1 IU v (lL l)/\W'.next=W.next/\∀A,Le A W->A.next<=lo->Le A W':=by
 rcases h with⟨rfl,_⟩|⟨_,B,h1,h2,rfl,h4⟩
 ·exact absurd rfl h0
 ·refine⟨_,⟨B,_,l,h0,hl,rfl,by rw[h4,FV],rfl⟩,.inr ⟨?_,B,h1,by rw[AW.put_next];exact h2,by rw[BN],by rw[AW.get_put,FV]⟩,AW.put_next _ _ _,λA hA hlo=>hA.put (by omega) _⟩;intro e;have:=BN l;rw[e]at this;exact h0 (List.length_eq_zero_iff.1 this.symm)
theorem a3f{W':AW}{z:Nat}{at_:List Value->Nat->α->Prop}{v:Value}{k:IntKind}{e:Int}{l:List α}(hle:Le W W')(h:Row W' z at_ v l):∃W2,gc W (.tuple #[v,.int k e],W')=(.tuple #[v,.int k e],W2)/\Le W W2/\Le W2 W'/\Row W2 z at_ v l:=by
 obtain⟨a,c,rfl,h⟩:=h;cases a with
 |none=>
  refine⟨W,oL rfl hle,.refl _,hle,none,c,rfl,?_⟩;rcases h with h|⟨b,o,cs,h,_⟩
  ·exact .inl h
  ·cases h
 |some a=>exact⟨W',fD rfl,hle,.refl _,some a,c,rfl,h⟩
theorem a2g{o t:Option (Value×AW)}{z:Nat}{at_:List Value->Nat->α->Prop}{l:List α}{k:IntKind}{e:Int}(h:Ok t λr=>∃v,r.1=.tuple #[v,.int k e]/\Le W r.2/\Row r.2 z at_ v l)(hom:∀{r},t=some r->o=some (gc W r)):
 ∃v W2,o=some (.tuple #[v,.int k e],W2)/\Le W W2/\Row W2 z at_ v l:=by
 obtain⟨⟨u,W'⟩,h1,v,h2,h3,h4⟩:=h;simp only at h2 h3 h4;subst h2;obtain⟨W2,k1,k2,_,k3⟩:=a3f (k:=k) (e:=e) h3 h4;exact⟨v,W2,by rw[hom h1,k1],k2,k3⟩
theorem Row.nil{z:Nat}{at_:List Value->Nat->α->Prop}:Row W z at_ (.slice none 0 0) ([]:List α):=⟨none,0,rfl,.inl rfl⟩
theorem QX(l:List Int)(c:Nat)(W:AW):Ints (W.add (.cells (l.map (Value.int .i64)))) (.slice (some ⟨W.next,0,none⟩) l.length c) l:=
 ⟨_,_,rfl,.inr ⟨W.next,0,_,rfl,by rw[AW.add_next];omega,dL,λi hi=>by unfold CV;rw[Nat.zero_add,Nat.mul_one,List.getElem?_map,List.getElem?_eq_getElem hi];rfl⟩⟩
end
end Go.Eng
namespace Go.Eng
open Go
variable [PlanTab]
def BO(l:List (Int×Value×Nat)):List MapEntry:=l.map λp=>{key:=.int .i64 p.1,val:=p.2.1,born:=p.2.2}
def MF:List (Int×Value×Nat)->Int->Option Value
 |[],_=>none
 |p::l,k=>if k=p.1 then some p.2.1 else MF l k
def BM:List (Int×Value×Nat)->Int->Nat->Option (Nat×Value)
 |[],_,_=>none
 |p::l,k,i=>if k=p.1 then some (i,p.2.1)else BM l k (i+1)
theorem M4(l:List (Int×Value×Nat))(k:Int):∀i,Instr.findNow (.int .i64) (.int .i64 k) (BO l) i=some (BM l k i):=by
 induction l with
 |nil=>intro i;rfl
 |cons p l ih=>
  intro i;show(match Instr.sameNow (.int .i64) (.int .i64 k) (.int .i64 p.1)with|some true=>some (some (i,p.2.1))|some false=>Instr.findNow (.int .i64) (.int .i64 k) (BO l) (i+1)|none=>none)=_;unfold BM;by_cases h:k=p.1
  ·have:Instr.sameNow (.int .i64) (.int .i64 k) (.int .i64 p.1)=some true:=by simp[Instr.sameNow,h]
   rw[this,if_pos h]
  ·have:Instr.sameNow (.int .i64) (.int .i64 k) (.int .i64 p.1)=some false:=by simp[Instr.sameNow,h]
   rw[this,if_neg h];exact ih (i+1)
theorem VW(l:List (Int×Value×Nat))(k:Int):∀i,MF l k=(BM l k i).map (·.2):=by
 induction l with
 |nil=>intro i;rfl
 |cons p l ih=>
  intro i;unfold MF BM;by_cases h:k=p.1
  ·rw[if_pos h,if_pos h];rfl
  ·rw[if_neg h,if_neg h];exact ih (i+1)
def lN(l:List (Int×Value×Nat)):List Int:=l.map (·.1)
theorem ZM{l:List (Int×Value×Nat)}{k:Int}(h:k∉lN l):MF l k=none:=by
 induction l with
 |nil=>rfl
 |cons p l ih=>unfold lN at h;rw[List.map_cons,List.mem_cons,not_or]at h;unfold MF;rw[if_neg h.1];exact ih h.2
theorem KQ{k:Int}{v:Value}:∀{l:List (Int×Value×Nat)} {i j:Nat},(lN l).Nodup->BM l k i=some (j,v)->i<=j/\(∃b,l[j-i]? =some (k,v,b)/\∀v' k',MF (l.set (j-i) (k,v',b)) k'=if k'=k then some v' else MF l k')/\
 (∀k',MF (l.eraseIdx (j-i)) k'=if k'=k then none else MF l k')/\(lN (l.eraseIdx (j-i))).Nodup/\(l.eraseIdx (j-i)).length+1=l.length/\∀v' b,lN (l.set (j-i) (k,v',b))=lN l
 |[],i,j,_,h=>by cases h
 |p::l,i,j,hn,h=>by
  unfold BM at h;have hn0:p.1∉lN l/\(lN l).Nodup:=List.nodup_cons.1 hn;by_cases hk:k=p.1
  ·rw[if_pos hk]at h;injection h with h;injection h with h1 h2;subst h1;rw[Nat.sub_self];refine⟨Nat.le_refl _,⟨p.2.2,by rw[hk,<-h2];rfl,λv' k'=>?_⟩,λk'=>?_,hn0.2,rfl,λv' b=>by rw[List.set_cons_zero];simp[lN,hk]⟩
   ·rw[List.set_cons_zero];unfold MF;rw[<-hk];by_cases hk':k'=k
    ·rw[if_pos hk',if_pos hk']
    ·rw[if_neg hk',if_neg hk',if_neg hk']
   ·show MF l k'=_;by_cases hk':k'=k
    ·rw[if_pos hk',hk',hk];exact ZM hn0.1
    ·rw[if_neg hk'];conv=>rhs;unfold MF
     rw[if_neg (λe=>hk' (e.trans hk.symm))]
  ·rw[if_neg hk]at h;obtain⟨h1,⟨b,h2,h3⟩,h4,h5,h6,h7⟩:=KQ hn0.2 h;have e:j-i=(j-(i+1))+1:=by omega
   rw[e];refine⟨by omega,⟨b,by rw[List.getElem?_cons_succ];exact h2,λv' k'=>?_⟩,λk'=>?_,?_,?_,λv' b=>?_⟩
   ·rw[List.set_cons_succ];unfold MF;by_cases hp:k'=p.1
    ·have:¬k'=k:=λx=>hk (x.symm.trans hp)
     rw[if_pos hp,if_neg this,if_pos hp]
    ·rw[if_neg hp,h3,if_neg hp]
   ·rw[List.eraseIdx_cons_succ];unfold MF;by_cases hp:k'=p.1
    ·have:¬k'=k:=λx=>hk (x.symm.trans hp)
     rw[if_pos hp,if_neg this,if_pos hp]
    ·rw[if_neg hp,h4,if_neg hp]
   ·rw[List.eraseIdx_cons_succ];refine List.nodup_cons.2 ⟨λhm=>hn0.1 ?_,h5⟩;unfold lN at hm|-;obtain⟨x,hx,hxe⟩:=List.mem_map.1 hm;exact List.mem_map.2 ⟨x,List.mem_of_mem_eraseIdx hx,hxe⟩
   ·rw[List.eraseIdx_cons_succ,List.length_cons,List.length_cons,h6]
   ·rw[List.set_cons_succ];show p.1::lN _=p.1::lN l;rw[h7]
theorem KA{k:Int}:∀{l:List (Int×Value×Nat)} {i:Nat},BM l k i=none->k∉lN l/\∀v b k',MF (l++[(k,v,b)]) k'=if k'=k then some v else MF l k'
 |[],i,_=>⟨by simp[lN],λv b k'=>by simp[MF]⟩
 |p::l,i,h=>by
  unfold BM at h;by_cases hk:k=p.1
  ·rw[if_pos hk]at h;cases h
  ·rw[if_neg hk]at h;obtain⟨h1,h2⟩:=KA h;refine⟨?_,λv b k'=>?_⟩
   ·unfold lN;rw[List.map_cons,List.mem_cons,not_or];exact⟨hk,h1⟩
   ·rw[List.cons_append];unfold MF;by_cases hp:k'=p.1
    ·have:¬k'=k:=λx=>hk (x.symm.trans hp)
     rw[if_pos hp,if_neg this,if_pos hp]
    ·rw[if_neg hp,h2,if_neg hp]
def MapV(W:AW)(r:Nat)(m:Int->Option Value)(n:Nat):Prop:=∃l c,W.get r=some (.map (BO l) c)/\(lN l).Nodup/\l.length=n/\∀k,MF l k=m k
section
variable {P:Program} {W:AW} {r:Nat} {m:Int->Option Value} {n:Nat} {t kt e:TypeId}
theorem SG(l:List (Int×Value×Nat)):gF (BO l)=true:=by unfold gF BO;rw[List.all_map,List.all_eq_true];intro p _;rfl
theorem G7(hk:P.underlying kt=some (.int .i64))(empty:Bool)(k:Int):uV P empty kt (.int .i64 k)=true:=by
 unfold uV;have:bB P (Instr.checkKey empty 10000 kt (.int .i64 k))=some ():=by unfold Instr.checkKey;simp only[dH,dF hk,Option.bind_some];rfl
 rw[this];rfl
theorem AZ(hk:P.underlying kt=some (.int .i64))(l:List (Int×Value×Nat))(k:Int):xN P kt (.int .i64 k) (BO l)=some (BM l k 0):=by unfold xN a1L;have hp:aU (.int .i64 k)=true/\gF (BO l)=true:=⟨rfl,SG l⟩;simp only[if_pos hp,hk,M4]
theorem Y1(h:MapV W r m n)(ht:P.underlying t=some (.map kt e))(hk:P.underlying kt=some (.int .i64)){z:Value}(hz:kK P e=some z)(k:Int):EE P t (.map (some r)) (.int .i64 k) true W=some (.tuple #[(m k).getD z,.bool (m k).isSome],W):=by
 obtain⟨l,c,hg,hn,hl,hm⟩:=h;unfold EE nZ;simp only[ht,hg,G7 hk,if_true,AZ hk];rw[<-hm k,VW l k 0];unfold AP;cases BM l k 0 with
 |none=>simp only[hz];rfl
 |some q=>rfl
theorem OM(h:MapV W r m n)(ht:P.underlying t=some (.map kt e))(hk:P.underlying kt=some (.int .i64))(k:Int)(v:Value):∃es c,lZ P t (.map (some r)) (.int .i64 k) v W=some (undef,W.put r (.map es c))/\MapV (W.put r (.map es c)) r (λx=>if x=k then some v else m x) (if(m k).isSome then n else n+1):=by
 obtain⟨l,c,hg,hn,hl,hm⟩:=h;have hmk:m k=(BM l k 0).map (·.2):=by rw[<-hm k,VW l k 0]
 cases hf:BM l k 0 with
 |none=>
  obtain⟨h1,h2⟩:=KA hf;rw[hf]at hmk;refine⟨BO (l++[(k,v,c)]),c+1,?_,l++[(k,v,c)],c+1,AW.get_put _ _ _,?_,?_,λx=>by rw[h2,hm]⟩
  ·unfold lZ jJ;simp only[ht,hg,G7 hk,if_true,AZ hk,hf,Option.map_none,Option.map_some];unfold BO;rw[List.map_append];rfl
  ·unfold lN at h1 hn|-;rw[List.map_append,List.nodup_append];refine⟨hn,by simp,λa ha b hb hab=>?_⟩;simp only[List.map_cons,List.map_nil,List.mem_singleton]at hb;subst hb;subst hab;exact h1 ha
  ·rw[hmk];simp[hl]
 |some q=>
  obtain⟨j,v0⟩:=q;obtain⟨_,⟨b,h2,h3⟩,-,-,-,h7⟩:=KQ hn hf;rw[Nat.sub_zero]at h2 h3 h7;rw[hf]at hmk;refine⟨BO (l.set j (k,v,b)),c,?_,l.set j (k,v,b),c,AW.get_put _ _ _,by rw[h7];exact hn,by rw[hmk];simp[hl],λx=>by rw[h3,hm]⟩;have he:(BO l)[j]? =some {key:=.int .i64 k,val:=v0,born:=b}:=by unfold BO;rw[List.getElem?_map,h2];rfl
  have hs:Instr.sameBits 10000 (.int .i64 k) (.int .i64 k)=true:=by unfold Instr.sameBits;simp
  have hpl:aU (.int .i64 k)=true:=rfl;unfold lZ jJ;simp only[ht,hg,G7 hk,if_true,AZ hk,hf,Option.map_some,he,hs,hpl,and_self];unfold BO;rw[List.map_set]
theorem mapV_new:MapV (W.add (.map [] 0)) W.next (λ_=>none) 0:=⟨[],0,AW.get_add _ _,by simp[lN],rfl,λk=>rfl⟩
theorem MapV.keep{W':AW}(h:MapV W r m n)(hg:W'.get r=W.get r):MapV W' r m n:=by obtain⟨l,c,h1,h2⟩:=h;exact⟨l,c,hg.trans h1,h2⟩
end
end Go.Eng
namespace Go.Mono
open Go
def rw'{α:Type}:Result α->World
 |.ok _ w=>w
 |.halt _ w=>w
theorem UM{α:Type}:∀(a:Ask α) (w:World),w.drawn<=(w.ask a).2.drawn
 |.done a,w=>Nat.le_refl _
 |.ask what range k,w=>by
  unfold World.ask;simp only;split
  ·exact UM (k 0) w
  ·exact Nat.le_trans (Nat.le_succ _) (UM (k _) {w with drawn:=w.drawn+1})
theorem a0o(w:World)(c:Sys):w.drawn<=(w.sys c).2.drawn:=by
 unfold World.sys;have h:=UM (Kernel.perform c w.os) w;split
 ·exact Nat.le_refl _
 ·rename_i r os w1 _ e;rw[e]at h;exact h
theorem E5{p:Program}{w w':World}{at_:Addr}{u:TypeId}{k:Addr}{v:Value}{atomic:Bool}{l:List Addr}(h:w.viewStore p at_ u k v atomic=.ok (w',l)):w'.drawn=w.drawn:=by
 unfold World.viewStore at h;simp only[bind,Except.bind,pure,Except.pure,throw,throwThe,MonadExceptOf.throw]at h;repeat' (split at h)
 all_goals first
  |(cases h;done)
  |(simp only[Except.ok.injEq,Prod.mk.injEq]at h;rw[<-h.1])
  |skip
theorem vC{p:Program}{w w':World}{a:Addr}{v:Value}{atomic:Bool}{l:List Addr}(h:w.farStore p a v atomic=.ok (w',l)):w'.drawn=w.drawn:=by
 unfold World.farStore at h;split at h
 ·split at h
  ·rename_i r e;injection h with h;subst h;exact E5 e
  ·cases h
 ·cases h
theorem xZ(w:World)(a:Addr)(n:Nat):(w.freeze a n).drawn=w.drawn:=by unfold World.freeze;split<;>rfl
theorem a4r{α:Type}(p:Program):∀(s:Sem α) (w:World),w.drawn<=(rw' (s.run p w)).drawn:=by
 intro s;induction s with
 |pure a=>intro w;exact Nat.le_refl _
 |load m a k ih=>
  intro w;unfold Sem.run;split
  ·exact ih _ w
  ·split
   ·exact ih _ w
   ·exact Nat.le_refl _
 |store m a v k ih=>
  intro w;unfold Sem.run;split;all_goals first|exact Nat.le_refl _|(rename_i e;cases e)
  split
  ·split
   ·exact Nat.le_refl _
   ·exact ih (World.setCell _ _ _)
  ·split
   ·rename_i w1 _ e;have:=ih w1;rw[vC e]at this;exact this
   ·exact Nat.le_refl _
 |new o k ih=>intro w;exact ih _ {w with heap:=w.heap.push o}
 |shape r k ih=>intro w;exact ih _ w
 |freeze a n k ih=>intro w;have:=ih (w.freeze a n);rw[xZ]at this;exact this
 |frozen a k ih=>intro w;exact ih _ w
 |getObj r k ih=>
  intro w;unfold Sem.run;split
  ·exact Nat.le_refl _
  ·exact ih _ w
  ·exact Nat.le_refl _
 |setObj r o k ih=>
  intro w;unfold Sem.run;split
  ·exact Nat.le_refl _
  ·exact ih {w with heap:=w.heap.setIfInBounds r o}
  ·exact Nat.le_refl _
 |choose q k ih=>
  intro w;unfold Sem.run;split
  ·exact ih 0 w
  ·exact Nat.le_trans (Nat.le_succ _) (ih _ {w with drawn:=w.drawn+1})
 |sys c k ih=>intro w;exact Nat.le_trans (a0o w c) (ih _ (w.sys c).2)
 |program k ih=>intro w;exact ih _ w
 |mark m k ih=>intro w;exact ih w
 |halt h=>intro w;exact Nat.le_refl _
theorem a2C{α:Type}(p:Program):∀(s:Sem α) (w:World) (es:Array Event),w.drawn<=(rw' (s.runT p w es).1).drawn:=by
 intro s;induction s with
 |pure a=>intro w es;exact Nat.le_refl _
 |load m a k ih=>
  intro w es;unfold Sem.runT;split
  ·exact ih _ w _
  ·split
   ·exact ih _ w _
   ·exact Nat.le_refl _
 |store m a v k ih=>
  intro w es;unfold Sem.runT;split;all_goals first|exact Nat.le_refl _|(rename_i e;cases e)
  split
  ·split
   ·exact Nat.le_refl _
   ·exact ih (World.setCell _ _ _) _
  ·split
   ·rename_i w1 _ e;have:=ih w1;rw[vC e]at this;exact this _
   ·exact Nat.le_refl _
 |new o k ih=>intro w es;exact ih _ {w with heap:=w.heap.push o} _
 |shape r k ih=>intro w es;exact ih _ w _
 |freeze a n k ih=>intro w es;have:=ih (w.freeze a n) es;rw[xZ]at this;exact this
 |frozen a k ih=>intro w es;exact ih _ w _
 |getObj r k ih=>
  intro w es;unfold Sem.runT;split
  ·exact Nat.le_refl _
  ·exact ih _ w _
  ·exact Nat.le_refl _
 |setObj r o k ih=>
  intro w es;unfold Sem.runT;split
  ·exact Nat.le_refl _
  ·exact ih {w with heap:=w.heap.setIfInBounds r o} _
  ·exact Nat.le_refl _
 |choose q k ih=>
  intro w es;unfold Sem.runT;split
  ·exact ih 0 w _
  ·exact Nat.le_trans (Nat.le_succ _) (ih _ {w with drawn:=w.drawn+1} _)
 |sys c k ih=>intro w es;exact Nat.le_trans (a0o w c) (ih _ (w.sys c).2 _)
 |program k ih=>intro w es;exact ih _ w _
 |mark m k ih=>intro w es;exact ih w _
 |halt h=>intro w es;exact Nat.le_refl _
def GGe(n:Nat):GStep->Prop
 |.go _ w _|.comm _ _ _ _ w _|.spawn _ _ w _|.count _ w _|.timer _ _ w _|.alone _ _ w _|.newcoro _ _ _ w _|.coroswitch _ _ _ w _|.collect _ w _|.watch _ w _=>n<=w.drawn
 |.ended _ _ _=>True
theorem GGe.after{n:Nat}{es:Array Event}{g:GStep}(h:GGe n g):GGe n (g.after es):=by cases g<;>exact h
theorem TU(n:Nat)(w:World)(fd:Nat)(t:ByteArray)(o:Outcome):GGe n (endWith w fd t o):=by
 unfold endWith;simp only;repeat' split
 all_goals trivial
theorem vB{n:Nat}{w:World}(h:n<=w.drawn)(p:Program)(fr:Frame)(v:Value):GGe n (endPrinting p fr v w):=by
 unfold endPrinting;simp only;split
 ·exact h
 ·trivial
theorem UJ{α:Type}{n:Nat}{p:Program}{s:Sem α}{w:World}(h:n<=w.drawn):n<=(rw' (s.run p w)).drawn:=Nat.le_trans h (a4r p s w)
theorem ML{α:Type}{n:Nat}{p:Program}{s:Sem α}{w:World}{es:Array Event}(h:n<=w.drawn):n<=(rw' (s.runT p w es).1).drawn:=Nat.le_trans h (a2C p s w es)
theorem nE{α:Type}{n:Nat}{p:Program}{s:Sem α}{w w':World}{a:α}(h:n<=w.drawn)(e:s.run p w=.ok a w'):n<=w'.drawn:=by have:=UJ (p:=p) (s:=s) h;rw[e]at this;exact this
theorem a2H{α:Type}{n:Nat}{p:Program}{s:Sem α}{w w':World}{a:Halt}(h:n<=w.drawn)(e:s.run p w=.halt a w'):n<=w'.drawn:=by have:=UJ (p:=p) (s:=s) h;rw[e]at this;exact this
theorem UD{α:Type}{n:Nat}{p:Program}{s:Sem α}{w:World}{es es':Array Event}{r:Result α}(h:n<=w.drawn)(e:s.runT p w es=(r,es')):n<=(rw' r).drawn:=by have:=ML (p:=p) (s:=s) (es:=es) h;rw[e]at this;exact this
theorem CJ{n:Nat}{w:World}(h:n<=w.drawn)(p:Program)(fr:Frame)(callers:List Frame)(dying:Option Dying)(m:String):GGe n (endFatal p fr callers dying m w):=by
 unfold endFatal;simp only;split
 ·rename_i e;have:=nE h e;exact this
 ·trivial
 ·trivial
theorem TW{n:Nat}{w:World}(h:n<=w.drawn)(p:Program)(fr:Frame)(d:Dying)(f:Fatal):GGe n (writeOn p fr d f w):=by
 unfold writeOn;simp only;split
 ·trivial
 ·split
  ·rename_i e;have:=UD h e;exact this
  ·rename_i e;have:=UD h e;exact this
  ·trivial
  ·trivial
theorem a3Z{n:Nat}{w:World}(h:n<=w.drawn)(p:Program)(fr:Frame)(d:Dying):GGe n (die p fr d w):=by
 unfold die;split
 ·exact TW h p fr d _
 ·split
  ·split
   ·exact h
   ·exact TU _ _ _ _ _
  ·simp only;split
   ·exact h
   ·split
    ·rename_i e;have:=nE h e;exact this
    ·trivial
   ·refine GGe.after ?_;generalize hx:Sem.runT p _ w #[]=x;obtain⟨r,es⟩:=x;have:=UD h hx;simp only at this|-;split
    ·exact this
    ·exact this
    ·trivial
    ·exact vB this p fr _
    ·trivial
   ·trivial
theorem uU{n:Nat}{w:World}(h:n<=w.drawn)(p:Program)(main:Bool)(fr:Frame)(callers:List Frame)(dying:Option Dying)(v:Value):GGe n (doReturn p main fr callers dying v w):=by
 unfold doReturn;repeat' split
 all_goals first|exact h|trivial
theorem zZ{n:Nat}{c:Prop}[Decidable c]{a b:GStep}(ha:GGe n a)(hb:GGe n b):GGe n (if c then a else b):=by split<;>assumption
theorem DK{n:Nat}{w:World}(h:n<=w.drawn)(p:Program)(fr:Frame)(callers:List Frame)(dying:Option Dying)(d:Deferred):GGe n (callDeferred p fr callers dying d w):=by
 unfold callDeferred;refine zZ trivial ?_
 ·simp only;refine GGe.after ?_;generalize hx:Sem.runT p _ w #[]=x;obtain⟨r,es⟩:=x;have:=UD h hx;simp only at this|-;split;all_goals first|exact this|trivial|exact CJ this _ _ _ _ _|skip
  split<;>exact this
theorem WU{n:Nat}{w:World}(h:n<=w.drawn)(p:Program)(main:Bool)(fr:Frame)(callers:List Frame)(dying:Option Dying):GGe n (unwind p main fr callers dying w):=by
 unfold unwind;split
 ·simp only;refine GGe.after ?_;generalize hx:Sem.runT p _ w #[]=x;obtain⟨r,es⟩:=x;have:=UD h hx;simp only at this|-;split
  ·exact this
  ·trivial
 ·exact DK h _ _ _ _ _
 ·split
  ·trivial
  ·split
   ·trivial
   ·split
    ·exact h
    ·split
     ·split
      ·exact h
      ·split
       ·rename_i e;have:=nE h e;exact this
       ·trivial
       ·trivial
     ·split
      ·exact vB h _ _ _
      ·trivial
  ·split
   ·exact uU h _ _ _ _ _ _
   ·simp only;refine GGe.after ?_;generalize hx:Sem.runT p _ w #[]=x;obtain⟨r,es⟩:=x;have:=UD h hx;simp only at this|-;split
    ·exact uU this _ _ _ _ _ _
    ·trivial
    ·trivial
theorem a0P{n:Nat}{w:World}(h:n<=w.drawn)(p:Program)(fr:Frame)(callers:List Frame)(dying:Option Dying)(g:Nat):GGe n (early p fr callers dying g w):=by
 have hn:∀w':World,n<=w'.drawn->GGe n (match w'.heap[g]? with
  |some (.pending c elem)=>(.go {frame:=fr,callers,status:=.running,dying} {w' with heap:=w'.heap.setIfInBounds g (.cells c elem)}:GStep)
  |_=>.ended (.stuck "early: the variable does not wait" (fr.pos p)) w'):=by
  intro w' h';split
  ·exact h'
  ·trivial
 unfold early;simp only;split
 ·exact hn w h
 ·split
  ·trivial
  ·split
   ·exact hn w h
   ·split
    ·exact hn w h
    ·split
     ·trivial
     ·exact h
     ·trivial
     ·exact hn w h
     ·split
      ·exact h
      ·split
       ·exact hn w h
       ·split
        ·rename_i e;have:=nE h e;exact hn _ this
        ·rename_i e;have:=nE h e;exact this
        ·trivial
theorem yK{n:Nat}{w:World}(h:n<=w.drawn)(p:Program)(listen:Bool)(fr:Frame)(callers:List Frame)(dying:Option Dying)(s:Sem Next):GGe n (stepG.apply p listen fr callers dying s w):=by
 unfold stepG.apply;simp only;generalize hx:(if listen=true then s.runT p w #[]else(s.run p w,#[]))=x;obtain⟨r,es⟩:=x;have h1:n<=(rw' r).drawn:=by
  split at hx
  ·exact UD h hx
  ·injection hx with e1 e2;subst e1;exact UJ h
 simp only;refine GGe.after ?_;clear hx h;split;all_goals first|exact h1|trivial|exact CJ h1 _ _ _ _ _|exact a0P h1 _ _ _ _ _|skip
 all_goals first
  |(split<;>exact h1)
  |(refine zZ ?_ ?_<;>exact h1)
theorem a2R{n:Nat}{w:World}(h:n<=w.drawn)(p:Program)(listen:Bool)(fr:Frame)(callers:List Frame)(dying:Option Dying):GGe n (stepG.oper p listen fr callers dying w):=by
 unfold stepG.oper;split
 ·trivial
 ·split<;>exact yK h _ _ _ _ _ _
theorem a0Y{α:Type}{n:Nat}{p:Program}{s:Sem α}{w:World}{es:Array Event}{r:Result α}(h:n<=w.drawn)(e:(s.runT p w es).fst=r):n<=(rw' r).drawn:=by rw[<-e];exact ML h
theorem yA{n:Nat}{w:World}(h:n<=w.drawn)(p:Program)(main:Bool)(fr:Frame)(callers:List Frame)(dying:Option Dying)(s:Sem Value)(o:Outcome)(es:Array Event):
 GGe n (GStep.after es (match(s.runT p w #[]).fst with
  |.ok v w=>doReturn p main fr callers dying v w
  |.halt _ w=>.ended o w)):=by
 refine GGe.after ?_;have:=ML (p:=p) (s:=s) (es:=#[]) h;generalize(s.runT p w #[]).fst=r at this;split
 ·exact uU this _ _ _ _ _ _
 ·trivial
theorem a2p{n:Nat}{w:World}(h:n<=w.drawn)(p:Program)(main listen:Bool)(fr:Frame)(callers:List Frame)(dying:Option Dying):GGe n (stepG.exec p main listen fr callers dying w):=by
 unfold stepG.exec;simp only;split;all_goals first|exact h|trivial|exact yK h _ _ _ _ _ _|skip
 ·split
  ·exact zZ h trivial
  ·exact yA h _ _ _ _ _ _ _ _
 ·split
  ·exact zZ h trivial
  ·exact yA h _ _ _ _ _ _ _ _
 ·split
  ·exact h
  ·trivial
 ·cases exitTo _ _ with
  |none=>
   simp only[Option.elim];split
   ·exact zZ h trivial
   ·exact yA h _ _ _ _ _ _ _ _
  |some k=>exact h
 ·cases gotoIn _ _ with
  |none=>
   simp only[Option.elim];split
   ·exact zZ h trivial
   ·exact yA h _ _ _ _ _ _ _ _
  |some k=>exact h
 ·refine GGe.after ?_;generalize hr:(Sem.runT p _ w #[]).fst=r;have:=a0Y h hr;split
  ·exact yK this _ _ _ _ _ _
  ·trivial
 ·refine GGe.after ?_;generalize hr:(Sem.runT p _ w #[]).fst=r;have:=a0Y h hr;split
  ·exact this
  ·exact this
  ·trivial
 ·cases Extern.next _ with
  |none=>trivial
  |some e=>exact yK h _ _ _ _ _ _
 ·split
  ·exact h
  ·split
   ·rename_i e;exact nE h e
   ·trivial
 ·split
  ·exact a2R h _ _ _ _ _
  ·exact h
theorem a03{n:Nat}{w:World}(h:n<=w.drawn)(p:Program)(main:Bool)(g:Goroutine)(listen:Bool):GGe n (stepG p main g w listen):=by
 unfold stepG;simp only;split
 ·exact a3Z h _ _ _
 ·exact a2p h _ _ _ _ _ _
 ·exact WU h _ _ _ _ _
def SGe(n:Nat):Stepped->Prop
 |.next m=>n<=m.world.drawn
 |.ended _ _=>True
theorem G6{n:Nat}{w:World}(h:n<=w.drawn)(p:Program)(rest:Rest)(gs:Array Goroutine)(i:Nat)(g:Goroutine)(cases:Array CommCase)(blocking:Bool)(shape:CommShape):SGe n (communicate p rest gs i g cases blocking shape w).1:=by
 unfold communicate;simp only;split
 ·trivial
 ·split
  ·split
   ·split
    ·rename_i e;unfold waitingAt at e;split at e
     ·split at e
      ·injection e with e;subst e;exact h
      ·cases e
     ·injection e with e;subst e;exact h
    ·trivial
   ·exact h
  ·split
   ·trivial
   ·rename_i e;have:=nE h e;clear e;split
    ·split
     ·rename_i e;exact a2H this e
     ·trivial
    ·exact this
    ·exact this
    ·split
     ·exact this
     ·split
      ·rename_i e;have h2:=nE this e;exact h2
      ·trivial
    ·exact this
    ·exact this
    ·trivial
theorem MU{n:Nat}{w:World}(h:n<=w.drawn)(p:Program)(gs:Array Goroutine)(rest:Rest):SGe n (look p gs rest w):=by
 unfold look;simp only;split
 ·split
  ·trivial
  ·split
   ·trivial
   ·split
    ·rename_i e;have h2:=nE h e;exact h2
    ·trivial
    ·trivial
 ·trivial
theorem a1D{n:Nat}(p:Program)(m:Machine)(k:Nat)(h:n<=m.world.drawn):SGe n (serve p m k):=by
 unfold serve;split
 ·trivial
 ·exact h
 ·simp only;split
  ·trivial
  ·exact h
theorem O5(w:World)(c:Nat):(drain w c).2.drawn=w.drawn:=by unfold drain;split<;>rfl
theorem y8(m:Machine)(k:Nat)(t:Timer)(a b:Nat):(retime m k t a b).2.world.drawn=m.world.drawn:=by
 unfold retime;simp only;split
 ·exact O5 _ _
 ·rfl
theorem J4{m m':Machine}{op:TimerOp}{v:Value}(h:timerOp m op=.ok (v,m')):m'.world.drawn=m.world.drawn:=by
 unfold timerOp at h;split at h
 ·split at h
  ·injection h with h;injection h with _ h;subst h;rfl
  ·split at h
   ·split at h
    ·cases h
    ·injection h with h;injection h with _ h;subst h;rfl
   ·cases h
 ·unfold timerOp.named at h;split at h
  ·injection h with h;have h0:=congrArg (λx=>x.2.world.drawn) h;exact h0.symm.trans (y8 _ _ _ _ _)
  ·cases h
 ·split at h
  ·rename_i m1 e;have h1:m1.world.drawn=m.world.drawn:=by
    unfold timerOp.opened at e;split at e
    ·split at e
     ·injection e with e;subst e;rfl
     ·cases e
    ·injection e with e;subst e;rfl
   unfold timerOp.named at h;split at h
   ·injection h with h;have h0:=congrArg (λx=>x.2.world.drawn) h;exact(h0.symm.trans (y8 _ _ _ _ _)).trans h1
   ·cases h
  ·cases h
 ·injection h with h;injection h with _ h;subst h;rfl
theorem a2h{n:Nat}{m:Machine}(h:n<=m.world.drawn)(p:Program)(i:Nat)(listen:Bool):SGe n (runT p m i listen).1:=by
 unfold runT;simp only;generalize hs:stepG p _ _ _ _=s;have hg:GGe n s:=by rw[<-hs];exact a03 h _ _ _ _
 clear hs;cases s with
 |ended o w es=>trivial
 |comm g cases blocking shape w es=>exact G6 (w:=w) hg _ _ _ _ _ _ _ _
 |go g w es=>exact hg
 |spawn g child w es=>exact hg
 |count g w es=>
  simp only;split
  ·trivial
  ·exact hg
 |alone g on w es=>exact hg
 |collect g w es=>exact MU (w:=w) hg _ _ _
 |watch g w es=>exact hg
 |newcoro g c d w es=>exact hg
 |coroswitch g c exit w es=>
  have hg':n<=w.drawn:=hg;simp only;split
  ·exact hg'
  ·exact hg'
  ·trivial
 |timer g op w es=>
  have hg':n<=w.drawn:=hg;simp only;split
  ·rename_i e;have:=J4 e;show n<=_;rw[this];exact hg'
  ·exact hg'
  ·trivial
  ·trivial
def MGe(n:Nat):Move->Prop
 |.goroutine m _=>n<=m.world.drawn
 |.machine s _=>SGe n s
theorem FU{n:Nat}{m:Machine}(h:n<=m.world.drawn)(p:Program):MGe n (askOn p m):=by
 have hp:∀m':Machine,n<=m'.world.drawn->MGe n (match(choose (.sched (runnable m.gs m.world.os.mono).length)).run p m'.world with
  |.halt _ w=>.machine (.ended (.stuck "sched" "") w)
  |.ok k world=>
   if(runnable m.gs m.world.os.mono).length<=1 then .goroutine {m' with world} ((runnable m.gs m.world.os.mono).getD k 0)else
   match(choose (.extern "sched.slice" 65536)).run p world with
   |.halt _ w=>.machine (.ended (.stuck "sched.slice" "") w)
   |.ok j world=>.goroutine {m' with world,rest:={m'.rest with slice:=if j=0 then none else some ((runnable m.gs m.world.os.mono).getD k 0,j)}} ((runnable m.gs m.world.os.mono).getD k 0)):=by
  intro m' h';split
  ·trivial
  ·rename_i e;have h1:=nE h' e;split
   ·exact h1
   ·split
    ·trivial
    ·rename_i e2;have h2:=nE h1 e2;exact h2
 unfold askOn;simp only;split
 ·trivial
 ·rename_i k w1 e;have h1:n<=w1.drawn:=nE h e;split
  ·exact a1D p _ _ h1
  ·split
   ·split
    ·exact h1
    ·split
     ·exact h1
     ·split
      ·trivial
      ·trivial
   ·split
    ·exact hp {m with world:=w1} h1
    ·split
     ·trivial
     ·rename_i w2 e2;have h2:=nE h1 e2;exact hp {m with world:=w2} h2
     ·rename_i e2;have h2:=nE h1 e2;exact h2
     ·rename_i e2;have h2:=nE h1 e2;exact hp (Machine.advanceTo _ _) h2
theorem a1U{n:Nat}{m:Machine}(h:n<=m.world.drawn)(p:Program):MGe n (ask p m):=by
 unfold ask;split
 ·split
  ·trivial
  ·rename_i e;have h1:=nE h e;split
   ·rename_i m1 e2;have h2:=MU h1 p m.gs m.rest;rw[e2]at h2;exact FU h2 p
   ·exact MU h1 p m.gs m.rest
  ·rename_i e;have h1:=nE h e;exact FU h1 p
 ·exact FU h p
theorem a2x{n:Nat}{m:Machine}(h:n<=m.world.drawn)(p:Program):MGe n (move p m):=by
 unfold move;split
 ·split
  ·exact h
  ·trivial
 ·split
  ·split
   ·exact h
   ·refine a1U (m:=_) ?_ p;exact h
  ·exact a1U h p
theorem a2o{n:Nat}{p:Program}{m m':Machine}(h:n<=m.world.drawn)(e:step p m=.next m'):n<=m'.world.drawn:=by
 have hm:=a2x h p;have:SGe n (step p m):=by
  unfold step stepT;split
  ·rename_i m1 i e2;rw[e2]at hm;exact a2h hm p i true
  ·rename_i s ops e2;rw[e2]at hm;exact hm
 rw[e]at this;exact this
theorem V6{n:Nat}{p:Program}:∀(k:Nat) {m m':Machine},n<=m.world.drawn->runN p k m=.next m'->n<=m'.world.drawn
 |0,m,m',h,e=>by injection e with e;subst e;exact h
 |k+1,m,m',h,e=>by
  unfold runN at e;split at e
  ·rename_i m1 e1;exact V6 k (a2o h e1) e
  ·rename_i e1;exact absurd e (e1 _)
theorem calls_drawn{P:Program}{f:FuncId}{args:Array Value}{w:World}{v:Value}{R:World->Prop}(h:Calls P f args w λe w'=>e=.returned v/\R w'):Calls P f args w λe w'=>e=.returned v/\R w'/\w.drawn<=w'.drawn:=by intro cs;obtain⟨e,w',fr,⟨rfl,hr⟩,hc,hl⟩:=h cs;refine⟨_,w',fr,⟨rfl,hr,?_⟩,hc,hl⟩;obtain⟨n,hn⟩:=hc;exact V6 n (m:=lone (Frame.enter P f args .normal) cs w) (Nat.le_refl _) hn
end Go.Mono
namespace Go.Eng
open Go
variable [PlanTab]
section
variable {P:Program} {W:AW}
theorem ME{call:Callee}{t:TypeId}{nm:String}{f:FuncId}(h:oN P t nm=some f)(v:Value)(args:List Value):kP P call (.iface t v) nm args W=call (.func (.func f) #[] #[]) (v::args) W:=by unfold kP;simp only[h]
theorem xE{t:TypeId}{z:Nat}(hz:nO P t=some z)(h0:0<z){b o l h:Nat}{k:IntKind}(h1:h<=l):
 bL P t (.slice (some ⟨b,o,none⟩) l (bQ+z)) none (some (.int k (h:Int))) none W=some (.slice (some ⟨b,o,none⟩) h (bQ+z),W):=by
 obtain⟨e,he,hz⟩:=fJ hz;have h2:((⟨b,o,none⟩:Addr).add (0*z))=⟨b,o,none⟩:=by rw[bP];simp
 unfold bL fU;simp only[he,hz,bX,gI,Nat.zero_le,if_true,true_and,if_pos h0,if_pos h1,Nat.sub_zero,h2]
theorem a2B{ts:Array TypeId}{z bytes:Nat}(hk:l8 P ts z bytes=true){b o n c:Nat}{cs new:List Value}(hc:cellsAt W b=some cs)(hn:new=(cs.drop o).take (n*z))(hl:new.length=n*z)(h0:0<n)(h1:new.all one=true)
 {B m:Nat}{old:List Value}(ho:W.get B=some (.cells old))(hol:m*z<=old.length)
 (hb:m+n<1099511627776)(hb2:(2*(m+n)+192)*bytes<=281474976710656):
 bE P W ts (.slice (some ⟨B,0,none⟩) m (bQ+z)) (.slice (some ⟨b,o,none⟩) n c)=some (.slice (some ⟨W.next,0,none⟩) (m+n) (bQ+z),(W.kill B).add (.cells (old.take (m*z)++new))):=by
 obtain⟨t,e,zv,k1,k2,k3,k4,k5,k6⟩:=rF hk;have hr:mW W b o (n*z)=some new:=by rw[gZ,hc];simp only;rw[if_pos (by rw[<-hn];exact hl),hn]
 have hr1:aW W (.slice (some ⟨b,o,none⟩) n c) (n*z)=some new:=by unfold aW;simp only;rw[if_neg (by have:=Nat.mul_pos h0 k5;omega),if_neg (by omega)];exact hr
 have hr2:aW W (.slice (some ⟨B,0,none⟩) m (bQ+z)) (m*z)=some (old.take (m*z)):=by
  unfold aW;simp only;rcases Nat.eq_zero_or_pos m with rfl|hm
  ·simp
  ·rw[if_neg (by have:=Nat.mul_pos hm k5;omega),if_neg (by omega),gZ,aZ ho];simp only[List.drop_zero];rw[if_pos (by rw[List.length_take];omega)]
 unfold bE;simp only[k1,k2,k3,k4,if_true,if_pos (And.intro k5 (And.intro k6 (And.intro hb hb2))),if_neg (show¬n=0 by omega),hr1,hr2,h1,ho,AW.new_eq,AW.kill_next]
end
end Go.Eng
namespace Go.Eng
open Go
variable [PlanTab]
def xC(l:List (Int×Int×Nat)):List MapEntry:=l.map λp=>{key:=.int .i64 p.1,val:=.int .i64 p.2.1,born:=p.2.2}
def lk:List (Int×Int×Nat)->Int->Int
 |[],_=>0
 |p::l,k=>if k=p.1 then p.2.1 else lk l k
def fnd:List (Int×Int×Nat)->Int->Nat->Option (Nat×Int)
 |[],_,_=>none
 |p::l,k,i=>if k=p.1 then some (i,p.2.1)else fnd l k (i+1)
def a9m(W:AW)(r:Nat)(m:Int->Int):Prop:=∃l c,W.get r=some (.map (xC l) c)/\∀k,lk l k=m k
section
variable {P:Program} {W:AW} {r:Nat} {m:Int->Int} {t kt e:TypeId}
end
end Go.Eng
namespace Go.Eng
open Go
variable [PlanTab]
section
variable {P:Program} {W:AW} {α:Type}
def EL(lo:Nat)(W:AW)(z:Nat)(f:α->List Value)(v:Value)(l:List α):Prop:=
 (l=[]/\(v=.slice none 0 0\/∃B,v=.slice (some ⟨B,0,none⟩) 0 0))\/(l≠[]/\∃B c,lo<=B/\B<W.next/\v=.slice (some ⟨B,0,none⟩) l.length c/\(c=bQ+z\/c=l.length)/\W.get B=some (.cells (l.flatMap f)))
def Rd(W:AW)(z:Nat)(f:α->List Value)(v:Value)(l:List α):Prop:=
 ∃a c,v=.slice a l.length c/\(l=[]\/∃b o cs,a=some ⟨b,o,none⟩/\b<W.next/\cellsAt W b=some cs/\(cs.drop o).take (l.length*z)=l.flatMap f)
theorem EL.nil(lo:Nat)(W:AW)(z:Nat)(f:α->List Value):EL lo W z f (.slice none 0 0) []:=.inl ⟨rfl,.inl rfl⟩
theorem EL.keep{lo z:Nat}{f:α->List Value}{v:Value}{l:List α}{W':AW}(h:EL lo W z f v l)(hn:W.next<=W'.next)(hg:∀b,lo<=b->b<W.next->W'.get b=W.get b):EL lo W' z f v l:=by
 rcases h with h|⟨h0,B,c,h1,h2,h3,hc,h4⟩
 ·exact .inl h
 ·exact .inr ⟨h0,B,c,h1,by omega,h3,hc,by rw[hg B h1 h2];exact h4⟩
theorem EL.mono{lo z:Nat}{f:α->List Value}{v:Value}{l:List α}{W':AW}(h:EL lo W z f v l)(hle:Le W W'):EL lo W' z f v l:=h.keep hle.next λb _ hb=>hle.get b hb
theorem EL.low{lo lo' z:Nat}{f:α->List Value}{v:Value}{l:List α}(h:EL lo W z f v l)(hl:lo'<=lo):EL lo' W z f v l:=by
 rcases h with h|⟨h0,B,c,h1,h⟩
 ·exact .inl h
 ·exact .inr ⟨h0,B,c,by omega,h⟩
theorem EL.slice{lo z:Nat}{f:α->List Value}{v:Value}{l:List α}(h:EL lo W z f v l):∃a c,v=.slice a l.length c:=by rcases h with⟨rfl,rfl|⟨B,rfl⟩⟩|⟨_,B,c,_,_,rfl,_⟩<;>exact⟨_,_,rfl⟩
theorem EL.row{lo z:Nat}{f:α->List Value}{v:Value}{l:List α}{at_:List Value->Nat->α->Prop}(hf:∀a,(f a).length=z)(h:EL lo W z f v l)(hat:∀a pre post,at_ (pre++(f a++post)) pre.length a):Row W z at_ v l:=by
 rcases h with⟨rfl,rfl|⟨B,rfl⟩⟩|⟨h0,B,c,i1,i2,rfl,hc,i4⟩
 ·exact⟨none,0,rfl,.inl rfl⟩
 ·exact⟨_,0,rfl,.inl rfl⟩
 ·refine⟨_,_,rfl,.inr ⟨B,0,_,rfl,i2,aZ i4,λi hi=>?_⟩⟩;have e:l.flatMap f=(l.take i).flatMap f++(f l[i]++(l.drop (i+1)).flatMap f):=by rw[<-List.flatMap_cons,<-List.drop_eq_getElem_cons hi,<-List.flatMap_append,List.take_append_drop]
  have e2:((l.take i).flatMap f).length=0+i*z:=by rw[aN hf,List.length_take];rw[Nat.min_eq_left (by omega),Nat.zero_add]
  rw[e,<-e2];exact hat _ _ _
theorem Rd.keep{z:Nat}{f:α->List Value}{v:Value}{l:List α}{W':AW}(h:Rd W z f v l)(hle:Le W W'):Rd W' z f v l:=by
 obtain⟨a,c,rfl,h⟩:=h;refine⟨a,c,rfl,?_⟩;rcases h with h|⟨b,o,cs,h1,h2,h3,h4⟩
 ·exact .inl h
 ·exact .inr ⟨b,o,cs,h1,Nat.lt_of_lt_of_le h2 hle.next,by unfold cellsAt at h3|-;rw[hle.get b h2];exact h3,h4⟩
section
variable {t:TypeId} {z lo:Nat} {f:α->List Value} {v:Value} {l:List α} {kk:IntKind} {k:Nat}
theorem JD(hf:∀a,(f a).length=z)(l:List α)(k:Nat):(l.flatMap f).take (k*z)=(l.take k).flatMap f:=by
 rcases Nat.lt_or_ge l.length k with h|h
 ·rw[List.take_of_length_le (by rw[aN hf];exact Nat.mul_le_mul_right z (by omega)),List.take_of_length_le (by omega)]
 ·have e:l.flatMap f=(l.take k).flatMap f++(l.drop k).flatMap f:=by rw[<-List.flatMap_append,List.take_append_drop]
  have e2:((l.take k).flatMap f).length=k*z:=by rw[aN hf,List.length_take,Nat.min_eq_left h]
  rw[e,<-e2,List.take_left]
theorem J9(hf:∀a,(f a).length=z)(l:List α)(k:Nat):(l.flatMap f).drop (k*z)=(l.drop k).flatMap f:=by
 rcases Nat.lt_or_ge l.length k with h|h
 ·rw[List.drop_of_length_le (by rw[aN hf];exact Nat.mul_le_mul_right z (by omega)),List.drop_of_length_le (by omega)];rfl
 ·have e:l.flatMap f=(l.take k).flatMap f++(l.drop k).flatMap f:=by rw[<-List.flatMap_append,List.take_append_drop]
  have e2:((l.take k).flatMap f).length=k*z:=by rw[aN hf,List.length_take,Nat.min_eq_left h]
  rw[e,<-e2,List.drop_left]
theorem EL.to(hz:nO P t=some z)(h0:0<z)(hf:∀a,(f a).length=z)(h:EL lo W z f v l)(hk:k<=l.length)(hl:l.length<1099511627776):
 ∃v',(∀W':AW,bL P t v none (some (.int kk (k:Int))) none W'=some (v',W'))/\Rd W z f v' (l.take k):=by
 have hlen:(l.take k).length=k:=by rw[List.length_take];omega
 have hB:l.length<bQ:=by unfold bQ;omega
 rcases h with⟨rfl,rfl|⟨B,rfl⟩⟩|⟨h1,B,c,i1,i2,rfl,hc,i4⟩
 ·have:k=0:=by simpa using hk
  subst this;exact⟨_,λ_=>IY hz,none,0,rfl,.inl rfl⟩
 ·have:k=0:=by simpa using hk
  subst this;exact⟨_,λ_=>qM hz (Nat.le_refl _) (by unfold bQ;omega),_,0,rfl,.inl rfl⟩
 ·have hr:l.take k=[]\/∃b o cs,(some ⟨B,0,none⟩:Option Addr)=some ⟨b,o,none⟩/\b<W.next/\cellsAt W b=some cs/\(cs.drop o).take ((l.take k).length*z)=(l.take k).flatMap f:=
   .inr ⟨B,0,_,rfl,i2,aZ i4,by rw[List.drop_zero,hlen,JD hf]⟩
  rcases hc with rfl|rfl
  ·exact⟨_,λ_=>xE hz h0 hk,_,bQ+z,by rw[hlen],hr⟩
  ·exact⟨_,λ_=>qM hz hk hB,_,l.length,by rw[hlen],hr⟩
theorem DC{t:TypeId}{z:Nat}(hz:nO P t=some z)(h0:0<z){B l c k:Nat}{kk:IntKind}(hk:k<=l)(hl:l<bQ)(hc:c=bQ+z\/c=l):
 ∃a c',(∀W:AW,bL P t (.slice (some ⟨B,0,none⟩) l c) (some (.int kk (k:Int))) none none W=some (.slice a (l-k) c',W))/\(k<l->a=some ⟨B,k*z,none⟩):=by
 obtain⟨e,he,hz⟩:=fJ hz;have h2:((⟨B,0,none⟩:Addr).add (k*z))=⟨B,k*z,none⟩:=by rw[bP];simp
 unfold bL fU;rcases hc with rfl|rfl
 ·refine⟨some ⟨B,k*z,none⟩,bQ+z,λW=>?_,λ_=>rfl⟩;simp only[he,hz,bX,gI,if_pos hk,true_and,if_pos h0,Nat.le_refl,if_true,h2]
 ·have hb:¬(c=bQ+z/\0<z):=λx=>by omega
  refine⟨some (if c=k then⟨B,0,none⟩else⟨B,k*z,none⟩),c-k,λW=>?_,λh=>by rw[if_neg (by omega)]⟩;simp only[he,hz,bX,gI,if_pos hk,if_neg hb,if_pos (And.intro hl (Nat.le_refl c)),h2]
theorem EL.from(hz:nO P t=some z)(h0:0<z)(hf:∀a,(f a).length=z)(h:EL lo W z f v l)(hk:k<=l.length)(hl:l.length<1099511627776):
 ∃v',(∀W':AW,bL P t v (some (.int kk (k:Int))) none none W'=some (v',W'))/\Rd W z f v' (l.drop k):=by
 have hlen:(l.drop k).length=l.length-k:=by rw[List.length_drop]
 have hB:l.length<bQ:=by unfold bQ;omega
 rcases h with⟨rfl,rfl|⟨B,rfl⟩⟩|⟨h1,B,c,i1,i2,rfl,hc,i4⟩
 ·have:k=0:=by simpa using hk
  subst this;refine⟨.slice none 0 0,λW'=>?_,none,0,rfl,.inl rfl⟩;obtain⟨e,he,hz⟩:=fJ hz;unfold bL fU;simp only[he,hz,bX,gI,Nat.le_refl,and_self,if_true,Nat.sub_zero]
 ·have:k=0:=by simpa using hk
  subst this;obtain⟨a,c',e1,-⟩:=DC (P:=P) (B:=B) (kk:=kk) hz h0 (Nat.le_refl 0) (by unfold bQ;omega) (.inr rfl);exact⟨_,e1,a,c',rfl,.inl rfl⟩
 ·obtain⟨a,c',e1,e2⟩:=DC (P:=P) (B:=B) (kk:=kk) hz h0 hk hB hc;refine⟨_,e1,a,c',by rw[hlen],?_⟩;rcases Nat.lt_or_ge k l.length with hk'|hk'
  ·refine .inr ⟨B,k*z,_,e2 hk',i2,aZ i4,?_⟩;rw[J9 hf,<-aN hf,List.take_length]
  ·exact .inl (List.drop_of_length_le hk')
end
end
def isSl(v:Value):Prop:=(∃b l c,v=.slice (some ⟨b,0,none⟩) l c)\/∃l c,v=.slice none l c
theorem EL.isSl{α:Type}{lo z:Nat}{W:AW}{f:α->List Value}{v:Value}{l:List α}(h:EL lo W z f v l):isSl v:=by
 rcases h with⟨rfl,rfl|⟨B,rfl⟩⟩|⟨_,B,c,_,_,rfl,_⟩
 ·exact .inr ⟨_,_,rfl⟩
 ·exact .inl ⟨_,_,_,rfl⟩
 ·exact .inl ⟨_,_,_,rfl⟩
theorem isSl.one{v:Value}(h:isSl v):one v=true:=by rcases h with⟨b,l,c,rfl⟩|⟨l,c,rfl⟩<;>rfl
theorem isSl.cells{v:Value}(h:isSl v):v.cells=#[v]:=by rcases h with⟨b,l,c,rfl⟩|⟨l,c,rfl⟩<;>rfl
theorem isSl.vs{v:Value}(h:isSl v):Z0 v v=true:=by
 rcases h with⟨b,l,c,rfl⟩|⟨l,c,rfl⟩
 ·exact A7 _ _ _ _
 ·exact PO _ _
theorem isSl.vsame{v:Value}(h:isSl v):vsame v v=true:=by
 rcases h with⟨b,l,c,rfl⟩|⟨l,c,rfl⟩
 ·exact CY _ _ _ _
 ·exact U5 _ _
def LstA{α:Type}(W:AW)(z:Nat)(f:α->List Value)(v:Value)(l:List α)(bo:Option Nat):Prop:=
 (l=[]/\v=.slice none 0 0/\bo=none)\/(l≠[]/\∃B,bo=some B/\B<W.next/\v=.slice (some ⟨B,0,none⟩) l.length (bQ+z)/\W.get B=some (.cells (l.flatMap f)))
theorem LstA.keep{α:Type}{W W':AW}{z:Nat}{f:α->List Value}{v:Value}{l:List α}{bo:Option Nat}(h:LstA W z f v l bo)(hn:W.next<=W'.next)(hg:∀B,bo=some B->W'.get B=W.get B):LstA W' z f v l bo:=by
 rcases h with h|⟨h0,B,h1,h2,h3,h4⟩
 ·exact .inl h
 ·exact .inr ⟨h0,B,h1,by omega,h3,(hg B h1).trans h4⟩
theorem LstA.lt{α:Type}{W:AW}{z:Nat}{f:α->List Value}{v:Value}{l:List α}{bo:Option Nat}(h:LstA W z f v l bo){B:Nat}(hB:bo=some B):B<W.next:=by
 rcases h with⟨-,-,h⟩|⟨h0,B',h1,h2,-⟩
 ·rw[h]at hB;cases hB
 ·rw[h1]at hB;injection hB with hB;omega
theorem LstA.push{α:Type}{P:Program}{W:AW}{ts:Array TypeId}{z bytes:Nat}{f:α->List Value}{v:Value}{l:List α}{bo:Option Nat}{a:α}(hk:l8 P ts z bytes=true)(hf:∀a,(f a).length=z)(h1:∀a,(f a).all one=true)
 (h:LstA W z f v l bo){b c:Nat}(hc:cellsAt W b=some (f a))(hb:l.length+1<1099511627776)(hb2:(2*(l.length+1)+192)*bytes<=281474976710656):
 ∃v' W',bE P W ts v (.slice (some ⟨b,0,none⟩) 1 c)=some (v',W')/\LstA W' z f v' (l++[a]) (some W.next)/\W'.next=W.next+1/\∀b,b<W.next->bo≠some b->W'.get b=W.get b:=by
 have hn:f a=((f a).drop 0).take (1*z):=by rw[List.drop_zero,Nat.one_mul,<-hf a,List.take_length]
 have hl:(f a).length=1*z:=by rw[hf];omega
 rcases h with⟨rfl,rfl,rfl⟩|⟨h0,B,rfl,i2,rfl,i4⟩
 ·refine⟨_,_,xS (b:=b) (o:=0) (c:=c) hk hc hn hl (by omega) (h1 a) (by omega) (by simpa using hb2),.inr ⟨by simp,W.next,rfl,by rw[AW.add_next];omega,by simp,by rw[AW.get_add];simp⟩,AW.add_next _ _,λd hd _=>AW.get_add_ne _ _ (by omega)⟩
 ·have hpos:0<l.length:=List.length_pos_iff.2 h0;refine⟨_,_,MK (b:=b) (o:=0) (c:=c) hk hc hn hl (by omega) (h1 a) i4 (aN hf l) (by omega) hb2 hpos,.inr ⟨by simp,W.next,rfl,by rw[AW.add_next,AW.kill_next];omega,by simp[AW.kill_next],?_⟩,by rw[AW.add_next,AW.kill_next],λd hd hne=>?_⟩
  ·have:=(W.kill B).get_add (.cells (l.flatMap f++f a));rw[AW.kill_next]at this;rw[this,List.flatMap_append];simp
  ·rw[AW.get_add_ne _ _ (by rw[AW.kill_next];omega),AW.get_kill_ne _ (λe=>hne (by rw[e]))]
section
variable {P:Program} {W:AW} {α:Type} {t:TypeId} {z lo:Nat} {f:α->List Value} {v:Value} {l:List α} {kk:IntKind} {k:Nat}
def RL(lo:Nat)(W:AW)(z:Nat)(f:α->List Value)(v:Value)(l:List α):Prop:=
 EL lo W z f v l\/(l≠[]/\∃B c,lo<=B/\B<W.next/\v=.slice (some ⟨B,0,none⟩) l.length c/\l.length<=c/\c<bQ/\cellsAt W B=some (l.flatMap f))\/(l=[]/\((∃c,v=.slice none 0 c)\/∃B c,v=.slice (some ⟨B,0,none⟩) 0 c/\c<bQ))
theorem RL.keep{W':AW}(h:RL lo W z f v l)(hn:W.next<=W'.next)(hg:∀b,lo<=b->b<W.next->W'.get b=W.get b):RL lo W' z f v l:=by
 rcases h with h|⟨h0,B,c,h1,h2,h3,h4,h5,h6⟩|h
 ·exact .inl (h.keep hn hg)
 ·exact .inr (.inl ⟨h0,B,c,h1,by omega,h3,h4,h5,by unfold cellsAt at h6|-;rw[hg B h1 h2];exact h6⟩)
 ·exact .inr (.inr h)
theorem RL.mono{W':AW}(h:RL lo W z f v l)(hle:Le W W'):RL lo W' z f v l:=h.keep hle.next λb _ hb=>hle.get b hb
theorem RL.low{lo':Nat}(h:RL lo W z f v l)(hl:lo'<=lo):RL lo' W z f v l:=by
 rcases h with h|⟨h0,B,c,h1,h⟩|h
 ·exact .inl (h.low hl)
 ·exact .inr (.inl ⟨h0,B,c,by omega,h⟩)
 ·exact .inr (.inr h)
theorem RL.isSl(h:RL lo W z f v l):isSl v:=by
 rcases h with h|⟨_,B,c,_,_,rfl,_⟩|⟨_,⟨c,rfl⟩|⟨B,c,rfl,_⟩⟩
 ·exact h.isSl
 ·exact .inl ⟨_,_,_,rfl⟩
 ·exact .inr ⟨_,_,rfl⟩
 ·exact .inl ⟨_,_,_,rfl⟩
theorem a3h{cs:List Value}{at_:List Value->Nat->α->Prop}(hf:∀a,(f a).length=z)(hat:∀a pre post,at_ (pre++(f a++post)) pre.length a)(e:cs=l.flatMap f){i:Nat}(hi:i<l.length):at_ cs (0+i*z) l[i]:=by
 have e1:l.flatMap f=(l.take i).flatMap f++(f l[i]++(l.drop (i+1)).flatMap f):=by rw[<-List.flatMap_cons,<-List.drop_eq_getElem_cons hi,<-List.flatMap_append,List.take_append_drop]
 have e2:((l.take i).flatMap f).length=0+i*z:=by rw[aN hf,List.length_take];rw[Nat.min_eq_left (by omega),Nat.zero_add]
 rw[e,e1,<-e2];exact hat _ _ _
theorem RL.row{at_:List Value->Nat->α->Prop}(hf:∀a,(f a).length=z)(h:RL lo W z f v l)(hat:∀a pre post,at_ (pre++(f a++post)) pre.length a):Row W z at_ v l:=by
 rcases h with h|⟨h0,B,c,_,h2,rfl,_,_,h6⟩|⟨rfl,⟨c,rfl⟩|⟨B,c,rfl,_⟩⟩
 ·exact h.row hf hat
 ·exact⟨_,_,rfl,.inr ⟨B,0,_,rfl,h2,h6,λi hi=>a3h hf hat rfl hi⟩⟩
 ·exact⟨none,c,rfl,.inl rfl⟩
 ·exact⟨_,c,rfl,.inl rfl⟩
theorem RL.to(hz:nO P t=some z)(h0:0<z)(hf:∀a,(f a).length=z)(h:RL lo W z f v l)(hk:k<=l.length)(hl:l.length<1099511627776):
 ∃v',(∀W':AW,bL P t v none (some (.int kk (k:Int))) none W'=some (v',W'))/\Rd W z f v' (l.take k):=by
 rcases h with h|⟨h0',B,c,_,h2,rfl,h4,h5,h6⟩|⟨rfl,h⟩
 ·exact h.to hz h0 hf hk hl
 ·have hlen:(l.take k).length=k:=by rw[List.length_take];omega
  refine⟨_,λ_=>qM hz (by omega) h5,_,c,by rw[hlen],.inr ⟨B,0,_,rfl,h2,h6,?_⟩⟩;rw[List.drop_zero,hlen,JD hf]
 ·have hk0:k=0:=by simpa using hk
  subst hk0;rcases h with⟨c,rfl⟩|⟨B,c,rfl,hc⟩
  ·refine⟨.slice none 0 c,λW'=>?_,none,c,rfl,.inl rfl⟩;obtain⟨e,he,hz⟩:=fJ hz;unfold bL fU;simp only[he,hz,bX,gI,Nat.le_refl,Nat.zero_le,and_self,if_true,Nat.sub_zero]
  ·exact⟨_,λ_=>qM hz (Nat.zero_le _) hc,_,c,rfl,.inl rfl⟩
theorem RL.from(hz:nO P t=some z)(h0:0<z)(hf:∀a,(f a).length=z)(h:RL lo W z f v l)(hk:k<=l.length)(hl:l.length<1099511627776):
 ∃v',(∀W':AW,bL P t v (some (.int kk (k:Int))) none none W'=some (v',W'))/\Rd W z f v' (l.drop k):=by
 rcases h with h|⟨h0',B,c,_,h2,rfl,h4,h5,h6⟩|⟨rfl,h⟩
 ·exact h.from hz h0 hf hk hl
 ·have hlen:(l.drop k).length=l.length-k:=by rw[List.length_drop]
  obtain⟨e,he,hz'⟩:=fJ hz;have h2':((⟨B,0,none⟩:Addr).add (k*z))=⟨B,k*z,none⟩:=by rw[bP];simp
  have hb:¬(c=bQ+z/\0<z):=λx=>by omega
  refine⟨.slice (some (if c=k then⟨B,0,none⟩else⟨B,k*z,none⟩)) (l.length-k) (c-k),λW'=>?_,_,c-k,by rw[hlen],?_⟩
  ·unfold bL fU;simp only[he,hz',bX,gI,if_pos hk,if_neg hb,if_pos (And.intro h5 h4),h2']
  ·rcases Nat.lt_or_ge k l.length with hk'|hk'
   ·refine .inr ⟨B,k*z,_,by rw[if_neg (by omega)],h2,h6,?_⟩;rw[J9 hf,<-aN hf,List.take_length]
   ·exact .inl (List.drop_of_length_le hk')
 ·have hk0:k=0:=by simpa using hk
  subst hk0;obtain⟨e,he,hz'⟩:=fJ hz;rcases h with⟨c,rfl⟩|⟨B,c,rfl,hc⟩
  ·refine⟨.slice none 0 c,λW'=>?_,none,c,rfl,.inl rfl⟩;unfold bL fU;simp only[he,hz',bX,gI,Nat.le_refl,Nat.zero_le,and_self,if_true,Nat.sub_zero,List.length_nil]
  ·have hb:¬(c=bQ+z/\0<z):=λx=>by omega
   have h2':((⟨B,0,none⟩:Addr).add (0*z))=⟨B,0,none⟩:=by rw[bP];simp
   refine⟨.slice (some ⟨B,0,none⟩) 0 c,λW'=>?_,_,c,rfl,.inl rfl⟩;unfold bL fU;simp only[he,hz',bX,gI,Nat.le_refl,Nat.zero_le,if_true,if_neg hb,and_true,if_pos hc,Nat.sub_zero,List.length_nil,h2',ite_self]
end
def a9k{α:Type}(l:List α)(x:α)(n:Nat):List α:=l.take n++(x::l.drop n)
end Go.Eng
namespace Go.Eng
open Go Go.RowKit
variable [PlanTab]
def a1d(P:Program)(bW:Nat):Nat->List Field->Bool
 |off,[]=>off==bW
 |off,f::fs=>f.offset==off&&a1d P bW (off+P.cellsOf f.type) fs
def WZ(P:Program):Nat->TypeId->Bool
 |0,_=>false
 |n+1,t=>match P.underlying t with
  |some .bool=>true
  |some (.int _)=>true
  |some .string=>true
  |some (.struct fs)=>a1d P (P.cellsOf t) 0 fs.toList&&fs.toList.all λf=>WZ P n f.type
  |some (.slice e)=>decide (0<P.cellsOf e)&&WZ P n e
  |_=>false
def fldR(g:TypeId->List Value->Prop):List TypeId->List Value->Prop
 |[],cs=>cs=[]
 |t::ts,cs=>∃c1 c2,cs=c1++c2/\g t c1/\fldR g ts c2
theorem fldR.imp{g g':TypeId->List Value->Prop}(h:∀t cs,g t cs->g' t cs):∀{ts:List TypeId} {cs:List Value},fldR g ts cs->fldR g' ts cs
 |[],_,hc=>hc
 |_::_,_,⟨c1,c2,e,h1,h2⟩=>⟨c1,c2,e,h _ _ h1,fldR.imp h h2⟩
def DR(P:Program)(W:AW):Nat->TypeId->List Value->Prop
 |0,_,_=>False
 |n+1,t,cs=>match P.underlying t with
  |some .bool=>∃b,cs=[.bool b]
  |some (.int k)=>∃m,cs=[.int k m]/\k.min<=m/\m<=k.max
  |some .string=>∃s:ByteArray,cs=[.string s]/\s.size<9223372036854775808
  |some (.struct fs)=>fldR (DR P W n) (fs.toList.map (·.type)) cs
  |some (.slice e)=>∃a len cap,cs=[.slice a len cap]/\len<=cap/\cap<bQ/\(a=none\/∃b,a=some ⟨b,0,none⟩)/\(len=0\/∃(b:Nat) (l:List (List Value)),a=some ⟨b,0,none⟩/\b<W.next/\cellsAt W b=some l.flatten/\l.length=len/\∀c∈l,c.length=P.cellsOf e/\DR P W n e c)
  |_=>False
theorem DR.mono{P:Program}{W W':AW}(hle:Le W W'):∀{n:Nat} {t:TypeId} {cs:List Value},DR P W n t cs->DR P W' n t cs:=by
 intro n;induction n with
 |zero=>intro t cs h;exact h.elim
 |succ n ih=>
  intro t cs h;unfold DR at h|-;split at h
  ·exact h
  ·exact h
  ·exact h
  ·exact fldR.imp (λt cs h=>ih h) h
  ·obtain⟨a,len,cap,e1,e2,e3,e3',h⟩:=h;refine⟨a,len,cap,e1,e2,e3,e3',?_⟩;rcases h with h|⟨b,l,e4,e5,e6,e7,h⟩
   ·exact .inl h
   ·exact .inr ⟨b,l,e4,Nat.lt_of_lt_of_le e5 hle.next,(hle.cellsAt e5).trans e6,e7,λc hc=>⟨(h c hc).1,ih (h c hc).2⟩⟩
  ·exact h
structure Opened (σ:bM) (W:AW) (w:World):Prop where
 rel:WRel σ W w.heap
 ro:AllRo σ W
 some_:∃b g,σ b=some g
theorem Opened.add{σ:bM}{W:AW}{w:World}(h:Opened σ W w){B s:Nat}{cs:List Value}{c:Array Value}{t:TypeId}{fr:Nat×Nat}(hB:w.heap[B]? =some (.cells c t fr))
 (hc:∀(i:Nat) (v:Value),cs[i]? =some v->∃v',c[s+i]? =some v'/\VR σ v v'):
 Opened (aV σ W.next ⟨B,s,s+cs.length⟩) (W.add (.ro cs)) w/\Sub σ (aV σ W.next ⟨B,s,s+cs.length⟩):=by
 have hfr:=h.rel.fresh;have hs:Sub σ (aV σ W.next ⟨B,s,s+cs.length⟩):=bV hfr;have hlt:B<w.heap.size:=(Array.getElem?_eq_some_iff.1 hB).1;have hne:∀{x:Nat},x≠W.next->(W.add (.ro cs)).get x=W.get x:=λhx=>W.get_add_ne _ (Ne.symm hx)
 have hinv:∀x g,aV σ W.next ⟨B,s,s+cs.length⟩ x=some g->(x=W.next/\g=⟨B,s,s+cs.length⟩)\/(x≠W.next/\σ x=some g):=λx g hc=>by
  unfold aV at hc;split at hc
  ·rename_i hx;injection hc with hc;exact .inl ⟨hx,hc.symm⟩
  ·rename_i hx;exact .inr ⟨hx,hc⟩
 have hro:AllRo (aV σ W.next ⟨B,s,s+cs.length⟩) (W.add (.ro cs)):=by
  intro x g hx;rcases hinv x g hx with⟨rfl,rfl⟩|⟨h1,h2⟩
  ·exact⟨cs,AW.get_add _ _⟩
  ·obtain⟨cs',hcs⟩:=h.ro x g h2;exact⟨cs',by rw[hne h1];exact hcs⟩
 refine⟨⟨⟨?_,?_,?_,?_⟩,hro,?_⟩,hs⟩
 ·intro x hx;rw[AW.add_next]at hx;rw[hne (by omega)];exact h.rel.free x (by omega)
 ·intro x g hx;rw[AW.add_next];rcases hinv x g hx with⟨rfl,rfl⟩|⟨_,h2⟩
  ·exact⟨by omega,hlt⟩
  ·have:=h.rel.dom x g h2;exact⟨by omega,this.2⟩
 ·intro x o g hx hk;rcases hinv x g hk with⟨rfl,rfl⟩|⟨h1,h2⟩
  ·rw[AW.get_add]at hx;injection hx with hx;subst hx;exact⟨c,t,fr,hB,Nat.le_refl _,λi v hv=>let⟨v',a,b⟩:=hc i v hv;⟨v',a,b.mono hs⟩⟩
  ·rw[hne h1]at hx;exact(h.rel.obj x o g hx h2).mono hs
 ·intro b1 b2 o1 o2 g1 g2 hbb h1 h2 k1 k2 hr;obtain⟨c1,e1⟩:=hro b1 g1 k1;obtain⟨c2,e2⟩:=hro b2 g2 k2;rw[h1]at e1;rw[h2]at e2;injection e1 with e1;injection e2 with e2;subst e1;subst e2;simp[YX]at hr
 ·obtain⟨b,g,hb⟩:=h.some_;exact⟨b,g,hs b g hb⟩
theorem JH{w:World}{base:Nat}{a:Addr}{n:Nat}{cs:List Value}(h:w.cells? base a n=some cs)(hn:0<n):∃c t fr,w.heap[a.block]? =some (.cells c t fr)/\a.spot=none/\cs.length=n/\∀i,i<n->c[a.off+i]? =cs[i]? :=by
 unfold World.cells? at h;split at h;case isFalse=>cases h
 have hl:=mapM_some_length h;rw[List.length_range]at hl;have hg:∀i,i<n->w.cell? (a.add i)=cs[i]? :=λi hi=>mapM_some_get h i i (by simp[hi])
 have h0:=hg 0 hn;have e0:a.add 0=a:=by simp[Addr.add]
 rw[e0,List.getElem?_eq_getElem (by omega)]at h0;unfold World.cell? at h0;split at h0;case h_2=>cases h0
 rename_i c t fr hh;split at h0;case isTrue=>cases h0
 rename_i hsp;refine⟨c,t,fr,hh,by simpa using hsp,hl,λi hi=>?_⟩;rw[<-hg i hi];unfold World.cell?;have eb:(a.add i).block=a.block:=by unfold Addr.add;split<;>rfl
 have eo:(a.add i).off=a.off+i:=by unfold Addr.add;split<;>simp_all
 have es:(a.add i).spot=none:=by unfold Addr.add;split<;>simp_all
 rw[eb,hh];simp only[es,eo,Option.isSome_none,Bool.false_eq_true,if_false]
section
variable {H:Type} {enc:TypeId×Value->H} {P:Program} {w:World}
def a1v(P:Program)(w:World)(n:Nat)(t:TypeId)(cs':List Value):Prop:=∀σ W,Opened σ W w->∃σ2 W2 cs,Opened σ2 W2 w/\Sub σ σ2/\Le W W2/\LR σ2 cs cs'/\DR P W2 n t cs
theorem xX{n:Nat}{bW:Nat}{cs':List Value}(hl:cs'.length=bW):∀{fs:List Field} {off:Nat},a1d P bW off fs=true->(∀f∈fs,a1v P w n f.type ((cs'.drop f.offset).take (P.cellsOf f.type)))->
 ∀σ W,Opened σ W w->∃σ2 W2 cs,Opened σ2 W2 w/\Sub σ σ2/\Le W W2/\LR σ2 cs (cs'.drop off)/\fldR (DR P W2 n) (fs.map (·.type)) cs
 |[],off,h,_,σ,W,ho=>by unfold a1d at h;have:=beq_iff_eq.1 h;refine⟨σ,W,[],ho,.refl _,.refl _,?_,rfl⟩;rw[List.drop_of_length_le (by omega)];exact .nil
 |f::fs,off,h,hf,σ,W,ho=>by
  unfold a1d at h;simp only[Bool.and_eq_true]at h;have hoff:=beq_iff_eq.1 h.1;obtain⟨σ1,W1,c1,o1,s1,l1,r1,a1⟩:=hf f (by simp) σ W ho;obtain⟨σ2,W2,c2,o2,s2,l2,r2,a2⟩:=xX hl h.2 (λg hg=>hf g (by simp[hg])) σ1 W1 o1;refine⟨σ2,W2,c1++c2,o2,s1.trans s2,l1.trans l2,?_,c1,c2,rfl,a1.mono l2,a2⟩;rw[hoff]at r1;have e:cs'.drop off=(cs'.drop off).take (P.cellsOf f.type)++cs'.drop (off+P.cellsOf f.type):=by rw[<-List.drop_drop,List.take_append_drop]
  rw[e];exact(r1.mono s2).append r2
theorem FO{n z:Nat}{e:TypeId}:∀{LL:List (List Value)},(∀c∈LL,c.length=z/\a1v P w n e c)->
 ∀σ W,Opened σ W w->∃(σ2:bM) (W2:AW) (l:List (List Value)),Opened σ2 W2 w/\Sub σ σ2/\Le W W2/\LR σ2 l.flatten LL.flatten/\l.length=LL.length/\∀c∈l,c.length=z/\DR P W2 n e c
 |[],_,σ,W,ho=>⟨σ,W,[],ho,.refl _,.refl _,.nil,rfl,by simp⟩
 |c0::LL,h,σ,W,ho=>by
  obtain⟨σ1,W1,c1,o1,s1,l1,r1,a1⟩:=(h c0 (by simp)).2 σ W ho;obtain⟨σ2,W2,l,o2,s2,l2,r2,e2,a2⟩:=FO (LL:=LL) (λc hc=>h c (by simp[hc])) σ1 W1 o1;refine⟨σ2,W2,c1::l,o2,s1.trans s2,l1.trans l2,?_,by simp[e2],?_⟩
  ·rw[List.flatten_cons,List.flatten_cons];exact(r1.mono s2).append r2
  ·intro c hc;rcases List.mem_cons.1 hc with rfl|hc
   ·exact⟨by rw[r1.1];exact(h c0 (by simp)).1,a1.mono l2⟩
   ·exact a2 c hc
theorem P6(L:List Value)(o z:Nat):∀n,((List.range n).map λi=>(L.drop (o+i*z)).take z).flatten=(L.drop o).take (n*z)
 |0=>by simp
 |n+1=>by rw[List.range_succ,List.map_append,List.flatten_append,P6 L o z n,Nat.succ_mul,List.take_add,List.drop_drop];simp
theorem IG:∀{n m:Nat} {t:TypeId} {cs':List Value} {x:DataW H×List MemPlace},WZ P n t=true->DataW.trod enc P w 0 (λ_=>true) true m t cs'=some x->a1v P w n t cs':=by
 intro n;induction n with
 |zero=>intro m t cs' x h;cases h
 |succ n ih=>
  intro m t cs' x h hx σ W ho;unfold WZ at h;split at h
  ·rename_i ht;obtain⟨b,rfl,_⟩:=DataW.trod_bool ht hx;exact⟨σ,W,[.bool b],ho,.refl _,.refl _,.cons (.bool b) .nil,by unfold DR;rw[ht];exact⟨b,rfl⟩⟩
  ·rename_i k ht;obtain⟨z,rfl,_,hwf⟩:=DataW.trod_int ht hx;simp only[Lit.wf,Bool.and_eq_true,decide_eq_true_eq]at hwf;exact⟨σ,W,[.int k z],ho,.refl _,.refl _,.cons (.int k z) .nil,by unfold DR;rw[ht];exact⟨z,rfl,hwf⟩⟩
  ·rename_i ht;obtain⟨s,rfl,_,hs⟩:=DataW.trod_string ht hx;exact⟨σ,W,[.string s],ho,.refl _,.refl _,.cons (.string s) .nil,by unfold DR;rw[ht];exact⟨s,rfl,by unfold maxLen at hs;omega⟩⟩
  ·rename_i fs ht;simp only[Bool.and_eq_true,List.all_eq_true]at h;obtain⟨xs,m',_,_,hl,hlen,hf⟩:=DataW.trod_struct ht hx;have:=xX (P:=P) (w:=w) (n:=n) hl h.1 (λf hfm=>by
    obtain⟨i,hi,rfl⟩:=List.getElem_of_mem hfm;have hi2:i<fs.size:=by simpa using hi
    have h1:=hf i fs[i] (by rw[Array.getElem?_eq_getElem hi2]);rw[List.getElem?_eq_getElem (by omega)]at h1;have e:fs.toList[i]=fs[i]:=by simp
    rw[e];exact ih (by rw[<-e];exact h.2 _ hfm) h1) σ W ho;obtain⟨σ2,W2,cs,o2,s2,l2,r2,a2⟩:=this;rw[List.drop_zero]at r2;exact⟨σ2,W2,cs,o2,s2,l2,r2,by unfold DR;rw[ht];exact a2⟩
  ·rename_i e ht;simp only[Bool.and_eq_true,decide_eq_true_eq]at h;obtain⟨hz,hse⟩:=h;have mk:∀{W2:AW} {a:Option Addr} {len cap:Nat},len<=cap->cap<bQ->(a=none\/∃b,a=some ⟨b,0,none⟩)->(len=0\/∃(b:Nat) (l:List (List Value)),a=some ⟨b,0,none⟩/\b<W2.next/\cellsAt W2 b=some l.flatten/\l.length=len/\∀c∈l,c.length=P.cellsOf e/\DR P W2 n e c)->DR P W2 (n+1) t [.slice a len cap]:=λh1 h2 h2' h3=>by unfold DR;rw[ht];exact⟨_,_,_,rfl,h1,h2,h2',h3⟩
   rcases DataW.trod_slice ht hx with⟨rfl,_⟩|⟨a,len,cap,elems,rest,m',_,rfl,_,_,hlc,hcap,hel,hle,hsp,_⟩
   ·exact⟨σ,W,[.slice none 0 0],ho,.refl _,.refl _,.cons (.snil 0 0) .nil,mk (Nat.le_refl _) (by unfold bQ;omega) (.inl rfl) (.inl rfl)⟩
   obtain⟨hrl,hre⟩:=hsp rfl;have hcap2:cap<bQ:=by unfold maxLen at hcap;unfold bQ;omega
   by_cases hc0:cap=0
   ·obtain rfl:len=0:=by omega
    subst hc0;obtain⟨b,g,hg⟩:=ho.some_;exact⟨σ,W,[.slice (some ⟨b,0,none⟩) 0 0],ho,.refl _,.refl _,.cons (.sliceE ⟨b,0,none⟩ a 0 g hg (.inl rfl)) .nil,mk (Nat.le_refl _) (by unfold bQ;omega) (.inr ⟨b,rfl⟩) (.inl rfl)⟩
   ·
    have hall:∀i,i<cap->∃ci,w.cells? 0 (a.add (i*P.cellsOf e)) (P.cellsOf e)=some ci/\∃x,DataW.trod enc P w 0 (λ_=>true) true m' e ci=some x:=by
     intro i hi;by_cases hil:i<len
     ·have h1:=hle i hil;rw[List.getElem?_eq_getElem (by omega)]at h1;obtain⟨ci,h2,h3⟩:=Option.bind_eq_some_iff.1 h1;exact⟨ci,h2,_,h3⟩
     ·have h1:=hre (i-len) (by omega);rw[List.getElem?_eq_getElem (by omega),show len+(i-len)=i by omega]at h1;obtain⟨ci,h2,h3⟩:=Option.bind_eq_some_iff.1 h1;exact⟨ci,h2,_,h3⟩
    obtain⟨c0,hc0',_⟩:=hall 0 (by omega);have ea0:a.add (0*P.cellsOf e)=a:=by simp[Addr.add]
    rw[ea0]at hc0';obtain⟨c,tt,fr,hB,hspot,_,_⟩:=JH hc0' hz;have hci:∀i,i<cap->∃x,((c.toList.drop (a.off+i*P.cellsOf e)).take (P.cellsOf e)).length=P.cellsOf e/\DataW.trod enc P w 0 (λ_=>true) true m' e ((c.toList.drop (a.off+i*P.cellsOf e)).take (P.cellsOf e))=some x:=by
     intro i hi;obtain⟨ci,h1,x,h2⟩:=hall i hi;obtain⟨c2,t2,fr2,hB2,_,hl2,hg2⟩:=JH h1 hz;have eb:(a.add (i*P.cellsOf e)).block=a.block:=by unfold Addr.add;split<;>rfl
     have eo:(a.add (i*P.cellsOf e)).off=a.off+i*P.cellsOf e:=by unfold Addr.add;split<;>simp_all
     rw[eb,hB]at hB2;injection hB2 with hB2;injection hB2 with hB2;subst hB2;rw[eo]at hg2;have ec:(c.toList.drop (a.off+i*P.cellsOf e)).take (P.cellsOf e)=ci:=by
      apply List.ext_getElem?;intro j;by_cases hj:j<P.cellsOf e
      ·rw[List.getElem?_take,if_pos hj,List.getElem?_drop,Array.getElem?_toList];exact hg2 j hj
      ·rw[List.getElem?_take,if_neg hj,List.getElem?_eq_none (by omega)]
     rw[ec];exact⟨x,hl2,h2⟩
    obtain⟨σ1,W1,l,o1,s1,l1,r1,e1,a1⟩:=FO (P:=P) (w:=w) (n:=n) (z:=P.cellsOf e) (e:=e) (LL:=(List.range len).map λi=>(c.toList.drop (a.off+i*P.cellsOf e)).take (P.cellsOf e)) (λci hm=>by
     obtain⟨i,hi,rfl⟩:=List.mem_map.1 hm;rw[List.mem_range]at hi;obtain⟨x,h1,h2⟩:=hci i (by omega);exact⟨h1,ih hse h2⟩) σ W ho;rw[P6]at r1;rw[List.length_map,List.length_range]at e1;obtain⟨o2,s2⟩:=o1.add (s:=a.off) (cs:=l.flatten) hB (λi v hv=>by
     obtain⟨v',hv',hr⟩:=r1.get hv;refine⟨v',?_,hr⟩;rw[List.getElem?_take]at hv';split at hv'
     ·rw[List.getElem?_drop,Array.getElem?_toList]at hv';exact hv'
     ·cases hv');have lw:Le W1 (W1.add (.ro l.flatten)):=(Le.refl W1).add _;have ev:(⟨a.block,a.off+0,none⟩:Addr)=a:=by
     obtain⟨b,o,s⟩:=a;simp only at hspot;subst hspot;rfl
    have hv:VR (aV σ1 W1.next ⟨a.block,a.off,a.off+l.flatten.length⟩) (.slice (some ⟨W1.next,0,none⟩) len cap) (.slice (some ⟨a.block,a.off+0,none⟩) len cap):=
     .slice ⟨W1.next,0,none⟩ len cap cap ⟨a.block,a.off,a.off+l.flatten.length⟩ bT rfl (.known cap hcap2)
    rw[ev]at hv;refine⟨_,_,[.slice (some ⟨W1.next,0,none⟩) len cap],o2,s1.trans s2,l1.trans lw,.cons hv .nil,mk hlc hcap2 (.inr ⟨W1.next,rfl⟩) (.inr ⟨W1.next,l,rfl,by rw[AW.add_next];omega,UA (W1.get_add _),e1,λci hm=>⟨(a1 ci hm).1,(a1 ci hm).2.mono lw⟩⟩)⟩
  ·cases h
end
end Go.Eng
namespace Go.Eng
open Go Go.RowKit Go.ChangeShapes Go.WideShapes
variable [PlanTab]
section
variable {P:Program} {W:AW} {α:Type}
theorem DR.int{n:Nat}{t:TypeId}{cs:List Value}{k:IntKind}(h:DR P W (n+1) t cs)(ht:P.underlying t=some (.int k)):∃m,cs=[.int k m]:=by unfold DR at h;rw[ht]at h;obtain⟨m,h,_⟩:=h;exact⟨m,h⟩
theorem DR.intB{n:Nat}{t:TypeId}{cs:List Value}{k:IntKind}(h:DR P W (n+1) t cs)(ht:P.underlying t=some (.int k)):∃m,cs=[.int k m]/\k.min<=m/\m<=k.max:=by unfold DR at h;rw[ht]at h;exact h
theorem DR.str{n:Nat}{t:TypeId}{cs:List Value}(h:DR P W (n+1) t cs)(ht:P.underlying t=some .string):∃s:ByteArray,cs=[.string s]/\s.size<9223372036854775808:=by unfold DR at h;rw[ht]at h;exact h
theorem DR.struct{n:Nat}{t:TypeId}{cs:List Value}{fs:Array Field}(h:DR P W (n+1) t cs)(ht:P.underlying t=some (.struct fs)):fldR (DR P W n) (fs.toList.map (·.type)) cs:=by unfold DR at h;rw[ht]at h;exact h
theorem DR.slice{n:Nat}{t e:TypeId}{cs:List Value}(h:DR P W (n+1) t cs)(ht:P.underlying t=some (.slice e)):
 ∃a len cap,cs=[.slice a len cap]/\len<=cap/\cap<bQ/\(len=0\/∃(b:Nat) (l:List (List Value)),a=some ⟨b,0,none⟩/\b<W.next/\cellsAt W b=some l.flatten/\l.length=len/\∀c∈l,c.length=P.cellsOf e/\DR P W n e c):=by
 unfold DR at h;rw[ht]at h;obtain⟨a,len,cap,h1,h2,h3,_,h4⟩:=h;exact⟨a,len,cap,h1,h2,h3,h4⟩
theorem O1{z:Nat}{at_:List Value->Nat->α->Prop}:∀{l:List (List Value)},(∀c∈l,c.length=z/\∃x:α,∀pre post,at_ (pre++(c++post)) pre.length x)->∀pre:List Value,
 ∃xs:List α,xs.length=l.length/\∀i (h:i<xs.length),at_ (pre++l.flatten) (pre.length+i*z) xs[i]
 |[],_,_=>⟨[],rfl,λi h=>by simp at h⟩
 |c::l,hc,pre=>by
  obtain⟨hz,x,hx⟩:=hc c (by simp);obtain⟨xs,h1,h2⟩:=O1 (l:=l) (λd hd=>hc d (by simp[hd])) (pre++c);refine⟨x::xs,by simp[h1],λi h=>?_⟩;rw[List.flatten_cons];match i with
  |0=>simpa using hx pre l.flatten
  |i+1=>have:=h2 i (by simpa using h);rw[List.length_append,hz,List.append_assoc]at this;rw[List.getElem_cons_succ,Nat.succ_mul,Nat.add_comm (i*z) z,<-Nat.add_assoc];exact this
def a7b{α:Type}(W:AW)(z:Nat)(at_:List Value->Nat->α->Prop)(v:Value)(l:List α):Prop:=Row W z at_ v l/\(∃a c,v=.slice a l.length c/\l.length<=c/\c<bQ/\(l≠[]->∃b o,a=some ⟨b,o,none⟩))
theorem DR.row{n:Nat}{t e:TypeId}{cs:List Value}(h:DR P W (n+1) t cs)(ht:P.underlying t=some (.slice e)){at_:List Value->Nat->α->Prop}
 (hat:∀c,c.length=P.cellsOf e->DR P W n e c->∃x:α,∀pre post,at_ (pre++(c++post)) pre.length x):∃v l,cs=[v]/\a7b W (P.cellsOf e) at_ v l:=by
 obtain⟨a,len,cap,rfl,h1,h2,h3⟩:=h.slice ht;rcases h3 with rfl|⟨b,l,rfl,h4,h5,rfl,h6⟩
 ·exact⟨_,[],rfl,⟨a,cap,rfl,.inl rfl⟩,a,cap,rfl,h1,h2,λh=>absurd rfl h⟩
 ·obtain⟨xs,e1,e2⟩:=O1 (z:=P.cellsOf e) (at_:=at_) (l:=l) (λc hc=>⟨(h6 c hc).1,hat c (h6 c hc).1 (h6 c hc).2⟩) [];refine⟨_,xs,rfl,⟨_,cap,by rw[e1],.inr ⟨b,0,l.flatten,rfl,h4,h5,λi hi=>?_⟩⟩,_,cap,by rw[e1],by omega,h2,λ_=>⟨b,0,rfl⟩⟩;have:=e2 i hi;simpa using this
theorem DR.ints{n:Nat}{t e:TypeId}{cs:List Value}{k:IntKind}(h:DR P W (n+2) t cs)(ht:P.underlying t=some (.slice e))(he:P.underlying e=some (.int k))(hz:P.cellsOf e=1):∃v l,cs=[v]/\a7b W 1 (CV k) v l:=by have:=h.row ht (at_:=CV k) (λc _ hc=>by obtain⟨m,rfl⟩:=hc.int he;refine⟨m,λpre post=>?_⟩;unfold CV;rw[List.getElem?_append_right (by omega)];simp);rwa [hz]at this
theorem fldR.nil{g:TypeId->List Value->Prop}{cs:List Value}(h:fldR g [] cs):cs=[]:=h
theorem fldR.cons{g:TypeId->List Value->Prop}{t:TypeId}{ts:List TypeId}{cs:List Value}(h:fldR g (t::ts) cs):∃c1 c2,cs=c1++c2/\g t c1/\fldR g ts c2:=h
end
section
variable {H:Type} {enc:TypeId×Value->H} {P:Program} {w w':World} {base:Nat} {spare:Nat->Bool} {held:Bool}
theorem Quiet.same{p:MemPlace}(hq:Quiet w w')(hp:p.block<w.heap.size):w.sameAt w' p:=by
 cases p with
 |cell b off=>exact World.cell?_of_block (a:=⟨b,off,none⟩) (hq.block b hp)
 |map b=>exact hq.block b hp
theorem Quiet.trodAll(hq:Quiet w w'):∀{ts:List TypeId} {vs:List Value} {ds:List (DataW H)} {ps:List MemPlace},DataW.TrodAll enc P w base spare held ts vs ds ps->DataW.TrodAll enc P w' base spare held ts vs ds ps
 |[],[],[],_,h=>h
 |_::_,_::_,_::_,_,⟨p,q,⟨n,h1⟩,h2,e⟩=>⟨p,q,⟨n,DataW.trod_carry n _ _ _ h1 (λx hx=>hq.same (DataW.trod_lt n _ _ _ h1 x hx))⟩,hq.trodAll h2,e⟩
theorem Y9{f:Func}{s:ChangeSpec}{args:Array Value}{ds gs:List (DataW H)}{before:List MemPlace}{T:TypeId->Prop}(K:Kids P T)(hz:∀t e,T t->P.underlying t=some (.slice e)->0<P.cellsOf e)(hT:∀t∈f.params.toList,T t)
 (hW:DataW.Whole enc P f.params.toList s.vars false w args.toList ds gs before)(hq:Quiet w w')(hv:s.vars=[])(hfn:s.fn H ds={results:=[.lit (.bool true)],args:=ds}){t:TypeId}(hr:f.resultTypes=#[t])(ht:P.underlying t=some .bool):
 s.post enc P f false true false false w args (.bool true) w':=by
 have hW':=hW;obtain⟨p,q,hA,hV,rfl,_,_⟩:=hW;rw[hv]at hV;obtain⟨rfl,rfl⟩:=trodVars_none hV;have hlt:=hA.lt;refine⟨ds,[],p++[],[],p,[],hW',?_,?_,?_,hq.grown.frame _,λh=>by cases h⟩
 ·rw[hr,List.append_nil,hfn];exact trodAll_cons_mk (shut_bool ht _) trodAll_mk0
 ·rw[List.append_nil,hfn];exact hq.trodAll (hA.respare K hz hT (λx hx=>by simpa using hlt x hx))
 ·rw[hv,List.append_nil,hfn];exact rfl
end
end Go.Eng
namespace Go.Eng
open Go Go.RowKit
variable [PlanTab]
noncomputable def MQ(F:Nat)(val:List Value->AW->Option Value):Callee:=λf args W=>match f with
 |.func (.func g) fs cs=>(match Nat.beq g F&&(fs.isEmpty&&cs.isEmpty)with
  |true=>(match val args W with
   |some v=>some (v,W)
   |none=>none)
  |false=>none)
 |_=>none
theorem WT{P:Program}{ng:List Nat}{F:Nat}{fn:Func}{body:Code}(hfn:P.funcs[F]? =some fn)(hname:(fn.name== "runtime.NumGoroutine")=false)(hb:fn.body=some body){val:List Value->AW->Option Value}
 (hall:∀args W v,val args W=some v->aU v=true/\∀σ (w:World) args',WRel σ W w.heap->LR σ args args'->Calls P F args'.toArray w λe w'=>e=.returned v/\Quiet w w'):aO P ng (MQ F val):=by
 intro f args W v W' h σ w f' args' hW hG hf hargs;unfold MQ at h;split at h;case h_2=>cases h
 rename_i g fs cs;split at h;case h_2=>cases h
 rename_i hgf;simp only[Bool.and_eq_true,Nat.beq_eq,Array.isEmpty_iff]at hgf;obtain⟨rfl,rfl,rfl⟩:=hgf;split at h;case h_2=>cases h
 rename_i u hu;injection h with h;injection h with h1 h2;subst h1;subst h2;obtain⟨fn',fs',cs',hfr,hfs,hcs,rfl⟩:=hf.func_inv;cases hfr;obtain rfl:fs'=#[]:=by have h1:fs'.toList.length=0:=hfs.1.symm;exact Array.toList_eq_nil_iff.1 (List.length_eq_zero_iff.1 h1)
 obtain rfl:cs'=#[]:=by have h1:cs'.toList.length=0:=hcs.1.symm;exact Array.toList_eq_nil_iff.1 (List.length_eq_zero_iff.1 h1)
 obtain⟨hpl,hc⟩:=hall _ _ _ hu;refine⟨dA hfn hname hb _ w,?_⟩;have e1:(#[]:Array Value)++args'.toArray++#[]=args'.toArray:=by simp
 rw[e1];refine CallsIn.mono (show CallsIn Fence.wide 0 P g _ w _ from(callsIn_wide (n:=0)).2 (hc σ w args' hW hargs)) ?_;rintro e w' ⟨rfl,hq⟩;exact⟨_,rfl,σ,iK hpl,hq.rel hW,hq.ext σ W⟩
noncomputable def a6D(v:Value):Option ByteArray:=match v with
 |.string s=>some s
 |_=>none
noncomputable def a5d:List Value->Option (List ByteArray):=List.rec (motive:=λ_=>Option (List ByteArray)) (some []) (λv _ ih=>match a6D v with
 |some b=>ih.map (λl=>b::l)
 |none=>none)
def a3G(xs:List ByteArray)(sep:ByteArray):List UInt8:=Lib.join (xs.map (·.data.toList)) sep.data.toList
noncomputable def a7v(args:List Value)(W:AW):Option Value:=match args with
 |[.slice (some a) n c,.string sep]=>(match aW W (.slice (some a) n c) n with
  |some cs=>(match a5d cs with
   |some xs=>if 0<n/\n<=1099511627776/\n<=c/\(a3G xs sep).length<=1099511627776 then some (.string ⟨(a3G xs sep).toArray⟩)else none
   |none=>none)
  |none=>none)
 |_=>none
noncomputable def a8S(F:Nat)(T:TypeId):Callee:=λf args W=>match f with
 |.func (.func g) fs cs=>(match Nat.beq g F&&(fs.isEmpty&&cs.isEmpty)with
  |true=>(match args with
   |[.pointer (some ⟨b,0,none⟩)]=>(match W.get b with
    |some (.tc t [p,s])=>if t=T then(match p with
     |.pointer none=>some (.tuple #[],W.put b (.tc T [.pointer (some ⟨b,0,none⟩),s]))
     |.pointer (some ⟨b2,0,none⟩)=>if b2=b then some (.tuple #[],W)else none
     |_=>none)else none
    |_=>none)
   |_=>none)
  |false=>none)
 |_=>none
end Go.Eng
