/- A part: the engine and its laws. -/
import Derived.RangeFuncLeaves
import Derived.OrdersIn
import Derived.KernelRfl
import Derived.Laws.Cells
import Derived.Laws.CopyRow
import Derived.ChangeKeysEq
import Derived.ArgAppend
import Derived.Laws.Append
import Derived.Lib.AppendStr
import Derived.Lib.UnsafeStr
import Derived.Laws.BytesArg
import Derived.LaidEqlPtr
import Derived.Laws.StructEq
set_option linter.unusedVariables false
set_option linter.unusedSimpArgs false
set_option linter.unusedSectionVars false
set_option linter.defProp false
noncomputable section
open Go renaming Act->aV,Addr->aP,Code->bs,Deferred->dq,Exit->cS,FuncId->gn,IntKind->aN,MapEntry->ba,Obj->mj,Oper->ao,Operand->ap,Program->ah,TypeId->ai,Value->ae,World->aq,undef->ag
namespace Go
def pd{p:Prop}[Decidable p](h:p:=by omega):decide p=true:=decide_eq_true h
def fF{p:Prop}[Decidable p](h:¬p:=by omega):decide p=false:=decide_eq_false h
def nj.{u}{c:Prop}{h:Decidable c}(q:c:=by omega){α:Sort u}{t e:α}:(ite c t e)=t:=if_pos q
def bZ.{u}{c:Prop}{h:Decidable c}(q:¬c:=by omega){α:Sort u}{t e:α}:(ite c t e)=e:=if_neg q
abbrev Value.af(n:Int):ae:=.int .i64 n
abbrev Lit.af(n:Int):Lit:=.int .i64 n
def aM:=@And.intro
def aY:=@decide_eq_true
def aK:=@Nat.zero_add
def ay.{u}:=@if_neg.{u}
def bu:=@decide_eq_false
def aB:=@trivial
def ax.{u}:=@if_pos.{u}
def bB:=@Bool.and_eq_true
def aH.{u}:=@Eq.trans.{u}
def dm.{u}:=@List.getElem?_eq_getElem.{u}
def bq.{u,v}:=@Option.bind_some.{u,v}
def aS:=@Nat.le_refl
def dB.{u}:=@Array.getElem?_eq_some_iff.{u}
def b8:=@Go.Result.andThen_ok
def cm.{u}:=@List.length_append.{u}
def bJ:=@Go.run_underlying
def dV.{u}:=@List.getElem?_eq_some_iff.{u}
def cr.{u}:=@List.all_eq_true.{u}
def cD.{u,v}:=@Option.map_some.{u,v}
def ce:=@Nat.add_zero
def ch:=@Go.Sem.run_bind
def gp.{u}:=@Array.getElem?_eq_getElem.{u}
def dG.{u}:=@List.length_cons.{u}
def ig.{u}:=@List.getElem?_append_right.{u}
def dN.{u}:=@List.take_length.{u}
def bk.{u}:=@if_true.{u}
def df.{u}:=@List.mem_cons.{u}
def bG.{u}:=@if_false.{u}
def fg:=@Nat.lt_of_lt_of_le
def gi.{u}:=@Array.toArray_toList.{u}
def fJ:=@Bool.false_eq_true
def fI.{u}:=@Option.some.injEq.{u}
def jz.{u}:=@List.length_eq_zero_iff.{u}
def fT.{u}:=@List.length_take.{u}
def eP.{u}:=@List.all_cons.{u}
def bL.{u}:=@Ne.symm.{u}
def gd.{u}:=@List.getElem_mem.{u}
def mS.{u}:=@List.getD_eq_getElem?_getD.{u}
def hO.{u,v}:=@List.flatMap_cons.{u,v}
def ju:=@Go.Lib.strCells_length
def jO.{u,v}:=@List.flatMap_append.{u,v}
def cI.{u,v}:=@congrArg.{u,v}
def ji.{u}:=@List.append_assoc.{u}
def jf.{u,v}:=@List.getElem?_map.{u,v}
def iD.{u}:=@List.append_nil.{u}
def ff:=@Go.Sem.run_pure
def dW:=@Nat.beq_eq
def rO.{u}:=@List.eq_nil_of_length_eq_zero.{u}
def ks.{u}:=@List.getElem?_take.{u}
def fL:=@Nat.le_trans
def oc.{u}:=@List.take_of_length_le.{u}
def rI.{u}:=@Array.getD_eq_getD_getElem?.{u}
def rC.{u}:=@List.drop_eq_getElem_cons.{u}
def oA.{u}:=@List.mem_of_getElem?.{u}
def lP:=@decide_eq_true_eq
def jy.{u}:=@List.drop_zero.{u}
def jB:=@Bool.false_and
def je:=@Bool.true_and
def pH.{u}:=@List.getElem?_eq_none.{u}
def lu.{u}:=@List.nil_append.{u}
def rS.{u}:=@Array.toList_eq_nil_iff.{u}
def i6.{u,v}:=@List.map_cons.{u,v}
def uo.{u}:=@List.getElem?_append_left.{u}
def rk.{u}:=@Array.getElem?_eq_none.{u}
def oz:=@Bool.true_eq_false
def ls:=@Bool.or_eq_true
def lJ.{u}:=@List.mem_filter.{u}
def oy.{u}:=@List.cons_append.{u}
def qd.{u}:=@Array.getElem?_push.{u}
def rn.{u}:=@Array.getElem?_toList.{u}
def ot:=@Int.toNat_natCast
def pA.{u}:=@List.size_toArray.{u}
def Ce.{u}:=@Array.getElem?_setIfInBounds_ne.{u}
def lH:=@Nat.add_assoc
def nf.{u}:=@List.length_set.{u}
def lO:=@Bool.and_true
def mL:=@List.range_succ
def oD.{u}:=@Array.toList_inj.{u}
def xk.{u}:=@List.take_append_getElem.{u}
def ox.{u,v}:=@List.length_map.{u,v}
def oi:=@Bool.eq_iff_iff
def sn.{u}:=@List.getElem?_drop.{u}
def ul.{u}:=@List.getElem?_append.{u}
def BV.{u}:=@List.getElem?_cons_succ.{u}
def ut:=@Nat.mul_le_mul_right
def pB.{u}:=@Option.getD_some.{u}
def rH.{u}:=@List.getElem?_set.{u}
def i9:=@Nat.blt_eq
def si:=@of_decide_eq_true
def rK:=@Bool.not_eq_true'
def pL.{u,v}:=@List.map_append.{u,v}
def Bm.{u}:=@Option.isNone_iff_eq_none.{u}
def w5.{u}:=@Array.getElem?_modify.{u}
def w9:=@Nat.eq_of_beq_eq_true
def xC.{u}:=@Classical.choose_spec.{u}
def xx.{u}:=@List.take_append_drop.{u}
def mC.{u,v}:=@List.mem_map.{u,v}
def mY.{u,v}:=@List.map_nil.{u,v}
def rY.{u}:=@List.take_zero.{u}
def tY.{u}:=@List.ext_getElem?.{u}
def wG:=@Nat.add_sub_cancel_left
def wF.{u}:=@List.eraseIdx_cons_succ.{u}
def pP:=@List.length_range
def qo.{u}:=@List.length_nil.{u}
def nO:=@Nat.min_eq_left
def sP.{u}:=@List.length_pos_iff.{u}
def md.{u}:=@List.all_nil.{u}
def kT:=@Int.add_zero
def jR:=@Nat.mul_one
def nM:=@List.mem_range
def zU:=@Int.tmod_eq_emod_of_nonneg
def wm.{u}:=@Array.getElem?_append.{u}
def pW:=@Nat.le_max_left
def kF:=@Nat.mul_pos
def mf:=@Go.CallsIn.mono
def sW:=@not_true_eq_false
def nE.{u,v}:=@Prod.mk.injEq.{u,v}
def vk:=@Go.World.grownBy_alloc
def vj.{u}:=@List.getElem_of_mem.{u}
def D7.{u}:=@List.getElem?_cons_zero.{u}
def sL.{u}:=@List.any_eq_true.{u}
def sZ:=@Nat.le_max_right
def zX:=@decide_eq_false_iff_not
def vb.{u}:=@Option.isSome_none.{u}
def kH.{u}:=@beq_iff_eq.{u}
def nQ:=@Nat.beq_refl
def z8.{u}:=@List.set_cons_succ.{u}
def zV.{u}:=@List.drop_of_length_le.{u}
def E5.{u}:=@Array.getElem?_setIfInBounds.{u}
def sR:=@Bool.and_self
def wa.{u}:=@Array.isEmpty_iff.{u}
def ED.{u}:=@Array.toList_setIfInBounds.{u}
def sC.{u}:=@List.drop_drop.{u}
def Fq.{u}:=@List.extract_eq_take_drop.{u}
def Fh.{u}:=@List.mem_of_find?_eq_some.{u}
def Ej.{u}:=@List.take_succ_cons.{u}
def zC.{u}:=@List.toList_toArray.{u}
def zK:=@List.getElem?_range
def zL.{u}:=@List.dropWhile_cons.{u}
def zQ.{u}:=@List.findIdx_append.{u}
def EN.{u}:=@Option.isSome_iff_exists.{u}
def wx.{u}:=@List.mem_append.{u}
def wy.{u}:=@Option.some.inj.{u}
def zH:=@Go.run_loadCells_list
def zD:=@Go.grownCap_le_maxLen
def E0.{u}:=@List.set_cons_zero.{u}
def Ab.{u}:=@List.prefix_append.{u}
def zY:=@Int.emod_lt_of_pos
def ql:=@Go.setRow_heap
def mc:=@Go.mem_ready
def Ac:=@Go.run_storeCells_at
def mp:=@and_self
def sI:=@Go.callsIn_wide
def vn.{u}:=@List.drop_left.{u}
def sV:=@Bool.true_or
def ws.{u}:=@List.take_left.{u}
def uS.{u}:=@List.take_take.{u}
def sM:=@Bool.or_true
def zI.{u}:=@List.take_add_one.{u}
def zM:=@Classical.not_not
def wz:=@Int.add_assoc
end Go
namespace Go.Eng
open Go
inductive T (α:Type) where
 |lf:T α
 |nd (l:T α) (v:Option α) (r:T α):T α
def yV(uH:Nat):Nat->List Bool:=
 Nat.rec (motive:=λ_=>Nat->List Bool) (λ_=>[])
  (λ_ ih n=>Nat.rec (motive:=λ_=>List Bool) [] (λm _=>(Nat.beq (Nat.mod m 2) 0)::ih (Nat.div m 2)) n) uH
def path(n:Nat):List Bool:=yV n n
def T.get{α:Type}(p:List Bool):T α->Option α:=
 List.rec (motive:=λ_=>T α->Option α) (λt=>T.rec (motive:=λ_=>Option α) none (λ_ v _ _ _=>v) t)
  (λb _ ih t=>T.rec (motive:=λ_=>Option α) none (λl _ r _ _=>Bool.rec (motive:=λ_=>Option α) (ih r) (ih l) b) t) p
def T.set{α:Type}(x:Option α)(p:List Bool):T α->T α:=
 List.rec (motive:=λ_=>T α->T α) (λt=>T.rec (motive:=λ_=>T α) (.nd .lf x .lf) (λl _ r _ _=>.nd l x r) t)
  (λb _ ih t=>T.rec (motive:=λ_=>T α) (Bool.rec (motive:=λ_=>T α) (.nd .lf none (ih .lf)) (.nd (ih .lf) none .lf) b)
    (λl v r _ _=>Bool.rec (motive:=λ_=>T α) (.nd l v (ih r)) (.nd (ih l) v r) b) t) p
def Ml:∀(f g n m:Nat),n<=f->m<=g->yV f n=yV g m->n=m:=by
 intro f;induction f with
 |zero=>
  intro g n m hn hm h;have Lu:n=0:=by omega
  subst Lu;cases m with
  |zero=>rfl
  |succ m=>
   cases g with
   |zero=>omega
   |succ g=>exact absurd h (by simp[yV])
 |succ f ih=>
  intro g n m hn hm h;cases n with
  |zero=>
   cases m with
   |zero=>rfl
   |succ m=>
    cases g with
    |zero=>omega
    |succ g=>exact absurd h (by simp[yV])
  |succ n=>
   cases m with
   |zero=>cases g<;>exact absurd h (by simp[yV])
   |succ m=>
    cases g with
    |zero=>omega
    |succ g=>
     have h':(Nat.beq (Nat.mod n 2) 0)::yV f (Nat.div n 2)=(Nat.beq (Nat.mod m 2) 0)::yV g (Nat.div m 2):=h;injection h' with h1 h2;have e1:Nat.div n 2=n/2:=rfl;have e2:Nat.div m 2=m/2:=rfl;have e3:Nat.mod n 2=n % 2:=rfl;have e4:Nat.mod m 2=m % 2:=rfl;have h3:=ih g (n/2) (m/2) (by omega) (by omega) (by rw[<-e1,<-e2];exact h2);rw[e3,e4]at h1;have h4:(n % 2=0)<->(m % 2=0):=by rw[<-dW,<-dW,h1]
     omega
def QE{n m:Nat}(h:path n=path m):n=m:=Ml _ _ _ _ (aS _) (aS _) h
def sO{n m:Nat}(h:n≠m):path n≠path m:=λe=>h (QE e)
def T.jC{α:Type}(x:Option α):∀(p:List Bool) (t:T α),T.get p (T.set x p t)=x:=by
 intro p;induction p with
 |nil=>intro t;cases t<;>rfl
 |cons b p ih=>intro t;cases t<;>cases b<;>exact ih _
def T.xN{α:Type}(p:List Bool):T.get p (.lf:T α)=none:=by cases p<;>rfl
def T.fA{α:Type}(x:Option α):∀(p q:List Bool) (t:T α),p≠q->T.get q (T.set x p t)=T.get q t:=by
 intro p;induction p with
 |nil=>
  intro q t h;cases q with
  |nil=>exact absurd rfl h
  |cons b q=>cases t<;>cases b<;>first|rfl|exact(T.xN q)
 |cons b p ih=>
  intro q t h;cases q with
  |nil=>cases t<;>cases b<;>rfl
  |cons c q=>
   have ht:b=c->p≠q:=λe1 e2=>h (by rw[e1,e2])
   cases t<;>cases b<;>cases c<;>
    first
     |rfl
     |exact T.xN q
     |exact(ih q .lf (ht rfl)).trans (T.xN q)
     |exact ih q _ (ht rfl)
def T.set_set{α:Type}(x y:Option α):∀(p:List Bool) (t:T α),T.set y p (T.set x p t)=T.set y p t:=by
 intro p;induction p with
 |nil=>intro t;cases t<;>rfl
 |cons b p ih=>
  intro t;cases t with
  |lf=>
   cases b
   ·exact cI (T.nd .lf none) (ih .lf)
   ·exact cI (λl=>T.nd l none .lf) (ih .lf)
  |nd l v r=>
   cases b
   ·exact cI (T.nd l v) (ih r)
   ·exact cI (λl=>T.nd l v r) (ih l)
class ak where
 D:Nat->Array ao->Option (List (Nat×List Nat))
 ng:List Nat
 ex:ai->Bool
 Fr:Type
 Kq:Fr->Nat->ae
 Qc:Fr->Nat->ae->Fr
 blank:Fr
 jC:∀R t v,Kq (Qc R t v) t=v
 fA:∀R t u v,t≠u->Kq (Qc R t v) u=Kq R u
 xd:∀t,Kq blank t=ag
def T8{α:Type}(l:List α):Nat->Option α:=
 List.rec (motive:=λ_=>Nat->Option α) (λ_=>none) (λv _ ih n=>Nat.rec (motive:=λ_=>Option α) (some v) (λm _=>ih m) n) l
def Fg{α:Type}(l:List α):∀n,T8 l n=l[n]? :=by
 induction l with
 |nil=>intro n;rfl
 |cons v l ih=>intro n;cases n with|zero=>rfl|succ n=>exact(ih n).trans (by simp)
section
variable [ak]
inductive dO where
 |cells (cs:List ae)
 |ro (cs:List ae)
 |map (es:List ba) (jj:Nat)
 |loop (state:LoopState) (pending:Option bs) (tmps:ak.Fr) (ntmps:Nat) (params:Array Tmp) (assign body:bs)
 |kW (s:ByteArray) (pos:Nat)
 |tc (t:ai) (cs:List ae)
structure AW where
 heap:T dO
 next:Nat
def AW.get(W:AW)(b:Nat):Option dO:=T.get (path b) W.heap
def AW.put(W:AW)(b:Nat)(o:dO):AW:=⟨T.set (some o) (path b) W.heap,W.next⟩
def AW.kill(W:AW)(b:Nat):AW:=⟨T.set none (path b) W.heap,W.next⟩
def AW.new{X:Type}(W:AW)(o:dO)(k:Nat->AW->X):X:=
 AW.rec (motive:=λ_=>X) (λh n=>Nat.rec (motive:=λ_=>X) (k 0 ⟨T.set (some o) (path 0) h,1⟩)
  (λm _=>k (Nat.succ m) ⟨T.set (some o) (path (Nat.succ m)) h,Nat.succ (Nat.succ m)⟩) n) W
def AW.add(W:AW)(o:dO):AW:=⟨T.set (some o) (path W.next) W.heap,W.next+1⟩
def AW.dj{X:Type}(W:AW)(o:dO)(k:Nat->AW->X):W.new o k=k W.next (W.add o):=by obtain⟨h,n⟩:=W;cases n<;>rfl
def AW.bE(W:AW)(b:Nat)(o:dO):(W.put b o).get b=some o:=T.jC _ _ _
def AW.aE(W:AW){b c:Nat}(o:dO)(h:b≠c):(W.put b o).get c=W.get c:=T.fA _ _ _ _ (sO h)
def AW.vH(W:AW)(b:Nat):(W.kill b).get b=none:=T.jC _ _ _
def AW.dL(W:AW){b c:Nat}(h:b≠c):(W.kill b).get c=W.get c:=T.fA _ _ _ _ (sO h)
def AW.a8(W:AW)(o:dO):(W.add o).get W.next=some o:=T.jC _ _ _
def AW.bC(W:AW){c:Nat}(o:dO)(h:W.next≠c):(W.add o).get c=W.get c:=T.fA _ _ _ _ (sO h)
def AW.cG(W:AW)(b:Nat)(o:dO):(W.put b o).next=W.next:=rfl
def AW.dX(W:AW)(b:Nat):(W.kill b).next=W.next:=rfl
def AW.aL(W:AW)(o:dO):(W.add o).next=W.next+1:=rfl
end
structure rB where
 B:Nat
 s:Nat
 e:Nat
abbrev cV:=Nat->Option rB
def ge:Nat:=18446744073709551616
inductive Ee (g:rB) (off l:Nat):Nat->Nat->Prop where
 |known (c:Nat) (h:c<ge):Ee g off l c c
 |open_ (z c':Nat) (hz:0<z) (hl:l<=c') (h:g.s+off+c'*z=g.e) (hb:c'<=maxLen):Ee g off l (ge+z) c'
inductive Su (σ:cV):Fn->Fn->Prop where
 |func (f:gn):Su σ (.func f) (.func f)
 |yield (l:Nat) (g:rB) (h:σ l=some g):Su σ (.yield l) (.yield g.B)
inductive VR (σ:cV):ae->ae->Prop where
 |bool (b:Bool):VR σ (.bool b) (.bool b)
 |int (k:aN) (n:Int):VR σ (.int k n) (.int k n)
 |float (k:FloatKind) (n:Nat):VR σ (.float k n) (.float k n)
 |string (s:ByteArray):VR σ (.string s) (.string s)
 |Gg:VR σ (.pointer none) (.pointer none)
 |ptr (a:aP) (g:rB) (h:σ a.block=some g) (hs:a.spot=none):VR σ (.pointer (some a)) (.pointer (some ⟨g.B,g.s+a.off,none⟩))
 |B9 (l c:Nat):VR σ (.slice none l c) (.slice none l c)
 |slice (a:aP) (l c c':Nat) (g:rB) (h:σ a.block=some g) (hs:a.spot=none) (hc:Ee g a.off l c c'):
   VR σ (.slice (some a) l c) (.slice (some ⟨g.B,g.s+a.off,none⟩) l c')
 |di (a a':aP) (c:Nat) (g:rB) (h:σ a.block=some g) (hc:c=0\/ge<c):VR σ (.slice (some a) 0 c) (.slice (some a') 0 0)
 |II:VR σ (.map none) (.map none)
 |map (r:Nat) (g:rB) (h:σ r=some g):VR σ (.map (some r)) (.map (some g.B))
 |nilFunc:VR σ .nilFunc .nilFunc
 |func (fn CQ:Fn) (fs rJ cs cz:Array ae) (hf:Su σ fn CQ) (h1:fs.size=rJ.size) (h2:∀(i:Nat) (v v':ae),fs[i]? =some v->rJ[i]? =some v'->VR σ v v')
   (h3:cs.size=cz.size) (h4:∀(i:Nat) (v v':ae),cs[i]? =some v->cz[i]? =some v'->VR σ v v'):VR σ (.func fn fs cs) (.func CQ rJ cz)
 |nilIface:VR σ .nilIface .nilIface
 |iface (t:ai) (v v':ae) (h:VR σ v v'):VR σ (.iface t v) (.iface t v')
 |agg (cs cz:Array ae) (h1:cs.size=cz.size) (h2:∀(i:Nat) (v v':ae),cs[i]? =some v->cz[i]? =some v'->VR σ v v'):VR σ (.agg cs) (.agg cz)
 |tuple (cs cz:Array ae) (h1:cs.size=cz.size) (h2:∀(i:Nat) (v v':ae),cs[i]? =some v->cz[i]? =some v'->VR σ v v'):VR σ (.tuple cs) (.tuple cz)
def Sub(σ σ':cV):Prop:=∀b g,σ b=some g->σ' b=some g
def Sub.refl(σ:cV):Sub σ σ:=λ_ _ h=>h
def Sub.trans{σ σ' Eb:cV}(h:Sub σ σ')(k:Sub σ' Eb):Sub σ Eb:=λb g x=>k b g (h b g x)
def Su.mono{σ σ':cV}(hs:Sub σ σ'){f f':Fn}(h:Su σ f f'):Su σ' f f':=by
 cases h with
 |func f=>exact .func f
 |yield l g h=>exact .yield l g (hs _ _ h)
def VR.mono{σ σ':cV}(hs:Sub σ σ'){v v':ae}(h:VR σ v v'):VR σ' v v':=by
 induction h with
 |bool b=>exact .bool b
 |int k n=>exact .int k n
 |float k n=>exact .float k n
 |string s=>exact .string s
 |Gg=>exact .Gg
 |ptr a g h sw=>exact .ptr a g (hs _ _ h) sw
 |B9 l c=>exact .B9 l c
 |slice a l c c' g h sw hc=>exact .slice a l c c' g (hs _ _ h) sw hc
 |di a a' c g h hc=>exact .di a a' c g (hs _ _ h) hc
 |II=>exact .II
 |map r g h=>exact .map r g (hs _ _ h)
 |nilFunc=>exact .nilFunc
 |func fn CQ fs rJ cs cz hf h1 _ h3 _ ih1 ih2=>exact .func fn CQ fs rJ cs cz (hf.mono hs) h1 ih1 h3 ih2
 |nilIface=>exact .nilIface
 |iface t v v' _ ih=>exact .iface t v v' ih
 |agg cs cz h1 _ ih=>exact .agg cs cz h1 ih
 |tuple cs cz h1 _ ih=>exact .tuple cs cz h1 ih
def LR(σ:cV)(l l':List ae):Prop:=l.length=l'.length/\∀(i:Nat) (v v':ae),l[i]? =some v->l'[i]? =some v'->VR σ v v'
def LR.mono{σ σ':cV}(hs:Sub σ σ'){l l':List ae}(h:LR σ l l'):LR σ' l l':=⟨h.1,λi v v' a b=>(h.2 i v v' a b).mono hs⟩
def LR.nil{σ:cV}:LR σ [] []:=⟨rfl,λi v v' a=>by simp at a⟩
def LR.cons{σ:cV}{v v':ae}{l l':List ae}(h:VR σ v v')(hl:LR σ l l'):LR σ (v::l) (v'::l'):=by
 refine⟨by simp[hl.1],λi u u' a b=>?_⟩;cases i with
 |zero=>simp at a b;subst a;subst b;exact h
 |succ i=>simp at a b;exact hl.2 i u u' a b
def LR.of_cons{σ:cV}{v:ae}{l m:List ae}(h:LR σ (v::l) m):∃v' l',m=v'::l'/\VR σ v v'/\LR σ l l':=by
 cases m with
 |nil=>have:=h.1;simp at this
 |cons v' l'=>refine⟨v',l',rfl,h.2 0 v v' (by simp) (by simp),by have:=h.1;simpa using this,λi u u' a b=>h.2 (i+1) u u' (by simpa using a) (by simpa using b)⟩
def LR.of_nil{σ:cV}{m:List ae}(h:LR σ [] m):m=[]:=by have:=h.1;simp at this;exact rO this.symm
def LR.append{σ:cV}{l l' m m':List ae}(h:LR σ l l')(k:LR σ m m'):LR σ (l++m) (l'++m'):=by
 induction l generalizing l' with
 |nil=>have:=h.of_nil;subst this;exact k
 |cons v l ih=>obtain⟨v',TU,rfl,hv,hl⟩:=h.of_cons;exact(ih hl).cons hv
def LR.take{σ:cV}{l l':List ae}(h:LR σ l l')(n:Nat):LR σ (l.take n) (l'.take n):=by
 refine⟨by simp[h.1],λi v v' a b=>?_⟩;rw[ks]at a b;split at a
 ·rename_i hi;rw[ax hi]at b;exact h.2 i v v' a b
 ·cases a
def LR.drop{σ:cV}{l l':List ae}(h:LR σ l l')(n:Nat):LR σ (l.drop n) (l'.drop n):=by refine⟨by simp[h.1],λi v v' a b=>?_⟩;rw[sn]at a b;exact h.2 _ v v' a b
def LR.get{σ:cV}{l l':List ae}(h:LR σ l l'){i:Nat}{v:ae}(hv:l[i]? =some v):∃v',l'[i]? =some v'/\VR σ v v':=by
 have hi:i<l.length:=(dV.1 hv).1;have oI:i<l'.length:=by rw[<-h.1];exact hi
 exact⟨l'[i],dm oI,h.2 i v _ hv (dm oI)⟩
def LR.set{σ:cV}{l l':List ae}(h:LR σ l l')(n:Nat){x x':ae}(hx:VR σ x x'):LR σ (l.set n x) (l'.set n x'):=by
 refine⟨by simp[h.1],λi v v' a b=>?_⟩;rw[rH]at a b;by_cases hn:n=i
 ·subst hn;simp only[bk]at a b;split at a
  ·split at b
   ·simp at a b;subst a;subst b;exact hx
   ·cases b
  ·cases a
 ·rw[ay hn]at a b;exact h.2 i v v' a b
def LR.ux{σ:cV}{a a':Array ae}(h1:a.size=a'.size)(h2:∀(i:Nat) (v v':ae),a[i]? =some v->a'[i]? =some v'->VR σ v v'):LR σ a.toList a'.toList:=
 ⟨by simpa using h1,λi v v' x y=>h2 i v v' (by simpa using x) (by simpa using y)⟩
def LR.arr{σ:cV}{a a':Array ae}(h:LR σ a.toList a'.toList):a.size=a'.size/\∀(i:Nat) (v v':ae),a[i]? =some v->a'[i]? =some v'->VR σ v v':=
 ⟨by simpa using h.1,λi v v' x y=>h.2 i v v' (by simpa using x) (by simpa using y)⟩
def VR.Kg{σ:cV}{a a':Array ae}(h:LR σ a.toList a'.toList):VR σ (.agg a) (.agg a'):=.agg _ _ h.arr.1 h.arr.2
def VR.tuple'{σ:cV}{a a':Array ae}(h:LR σ a.toList a'.toList):VR σ (.tuple a) (.tuple a'):=.tuple _ _ h.arr.1 h.arr.2
def VR.cells{σ:cV}{v v':ae}(h:VR σ v v'):LR σ v.cells.toList v'.cells.toList:=by
 cases h with
 |agg cs cz h1 h2=>exact .ux h1 h2
 |bool b=>exact .cons (.bool b) .nil
 |int k n=>exact .cons (.int k n) .nil
 |float k n=>exact .cons (.float k n) .nil
 |string s=>exact .cons (.string s) .nil
 |Gg=>exact .cons .Gg .nil
 |ptr a g h hs=>exact .cons (.ptr a g h hs) .nil
 |B9 l c=>exact .cons (.B9 l c) .nil
 |slice a l c c' g h hs hc=>exact .cons (.slice a l c c' g h hs hc) .nil
 |di a a' c g h hc=>exact .cons (.di a a' c g h hc) .nil
 |II=>exact .cons .II .nil
 |map r g h=>exact .cons (.map r g h) .nil
 |nilFunc=>exact .cons .nilFunc .nil
 |func fn CQ fs rJ cs cz hf h1 h2 h3 h4=>exact .cons (.func fn CQ fs rJ cs cz hf h1 h2 h3 h4) .nil
 |nilIface=>exact .cons .nilIface .nil
 |iface t v v' h=>exact .cons (.iface t v v' h) .nil
 |tuple cs cz h1 h2=>exact .cons (.tuple cs cz h1 h2) .nil
def VR.undef{σ:cV}:VR σ ag ag:=VR.tuple' (a:=#[]) (a':=#[]) .nil
def cJ:ae->Bool
 |.bool _|.int .. |.string _|.pointer none|.slice none _ _|.map none|.nilFunc|.nilIface|.float .. =>true
 |_=>false
def fY:ae->Bool
 |.agg cs=>cs.toList.all cJ
 |v=>cJ v
def bI:ae->Bool
 |.tuple vs=>vs.toList.all fY
 |.iface _ v=>fY v
 |v=>fY v
def DN{σ:cV}{v v':ae}(hp:cJ v=true)(h:VR σ v v'):v'=v:=by cases h<;>first|rfl|simp[cJ]at hp
def ei{σ:cV}{v:ae}(hp:cJ v=true):VR σ v v:=by
 cases v with
 |bool b=>exact .bool b
 |int k n=>exact .int k n
 |float k n=>exact .float k n
 |string s=>exact .string s
 |pointer a=>cases a with|none=>exact .Gg|some a=>simp[cJ]at hp
 |slice a l c=>cases a with|none=>exact .B9 l c|some a=>simp[cJ]at hp
 |map r=>cases r with|none=>exact .II|some a=>simp[cJ]at hp
 |nilFunc=>exact .nilFunc
 |nilIface=>exact .nilIface
 |_=>simp[cJ]at hp
def LR.QS{σ:cV}{p:ae->Bool}(hp:∀v v',p v=true->VR σ v v'->v'=v):∀{l l':List ae},l.all p=true->LR σ l l'->l'=l:=by
 intro l;induction l with
 |nil=>intro l' _ h;exact h.of_nil
 |cons v l ih=>intro l' ha h;obtain⟨v',TU,rfl,hv,hl⟩:=h.of_cons;simp only[eP,bB]at ha;rw[hp v v' ha.1 hv,ih ha.2 hl]
def LR.kG{σ:cV}{p:ae->Bool}(hp:∀v,p v=true->VR σ v v):∀{l:List ae},l.all p=true->LR σ l l:=by
 intro l;induction l with
 |nil=>intro _;exact .nil
 |cons v l ih=>intro ha;simp only[eP,bB]at ha;exact(ih ha.2).cons (hp v ha.1)
def w4{σ:cV}{v v':ae}(hp:fY v=true)(h:VR σ v v'):v'=v:=by
 cases h with
 |agg cs cz h1 h2=>have:=LR.QS (λv v'=>DN) (show cs.toList.all cJ=true from hp) (LR.ux h1 h2);rw[oD.1 this]
 |_=>first|rfl|simp[fY,cJ]at hp
def qO{σ:cV}{v:ae}(hp:fY v=true):VR σ v v:=by
 cases v with
 |agg cs=>exact VR.Kg (LR.kG (λv=>ei) (show cs.toList.all cJ=true from hp))
 |_=>exact ei hp
def eS{σ:cV}{v v':ae}(hp:bI v=true)(h:VR σ v v'):v'=v:=by
 cases h with
 |tuple cs cz h1 h2=>have:=LR.QS (λv v'=>w4) (show cs.toList.all fY=true from hp) (LR.ux h1 h2);rw[oD.1 this]
 |iface t v v' h=>rw[w4 hp h]
 |agg cs cz h1 h2=>exact w4 (v:=.agg cs) hp (.agg cs cz h1 h2)
 |_=>first|rfl|simp[bI,fY,cJ]at hp
def hX{σ:cV}{v:ae}(hp:bI v=true):VR σ v v:=by
 cases v with
 |tuple cs=>exact VR.tuple' (LR.kG (λv=>qO) (show cs.toList.all fY=true from hp))
 |iface t v=>exact .iface t v v (qO hp)
 |_=>exact qO hp
def GI(i:Nat):List Nat->Bool
 |[]=>false
 |x::l=>Nat.beq x i||GI i l
def qh{i:Nat}{l:List Nat}:GI i l=true<->i∈l:=by
 induction l with
 |nil=>simp[GI]
 |cons x l ih=>simp only[GI,ls,dW,ih,df];exact⟨λh=>h.imp Eq.symm id,λh=>h.imp Eq.symm id⟩
def mB(nt:Nat)(ng:List Nat):ap->Bool
 |.tmp t=>Nat.blt t nt
 |.const v=>bI v
 |.global g=>GI g ng
 |.func _=>true
def tx(σ:cV)(ng:List Nat):Prop:=∀g,g∈ng->∃e,σ g=some ⟨g,0,e⟩
def tx.mono{σ σ':cV}{ng:List Nat}(hs:Sub σ σ')(h:tx σ ng):tx σ' ng:=λg hg=>let⟨e,he⟩:=h g hg;⟨e,hs _ _ he⟩
def jt(nt:Nat)(ng:List Nat)(o:ao):Bool:=o.op.operands.toList.all (mB nt ng)&&(match o.dst with|some d=>Nat.blt d nt|none=>true)
def gu(o:ao):Nat:=
 match o.op with
 |.move _|.assign _|.pick .. |.build .. |.nilCheck _|.unOp .. |.makeInterface .. |.slice .. |.fieldAddr .. |.field .. |.indexAddr .. |.index .. |.extract .. |.typeAssert .. =>0
 |.makeFunc (.func _) _ _=>0
 |.binOp op _ _ _ _=>match op with|.eql|.neq=>1|_=>0
 |.load .. |.lookup .. |.convert .. =>1
 |.call c=>match c.callee with|.builtin .len=>1|_=>3
 |.alloc _|.box .. |.buildSlice .. |.makeSlice .. =>2
 |_=>3
def R3(o:Option ao):Nat:=match o with
 |some o=>(match o.dst with|some d=>d|none=>0)
 |none=>0
def EA(id:Nat)(ops:Array ao):Nat:=(id*128+ops.size)*4096+(R3 ops[0]? +3*R3 ops[ops.size-1]? +7*R3 ops[ops.size/2]?)
def sa(A:List Nat)(o:ao):Nat:=o.after.toList.foldr (λe m=>if Region.binds .any e then Nat.lor (Nat.lor (2^ e.on) (A.getD e.on 0)) m else m) 0
def PS:List ao->List Nat->List Nat
 |[],A=>A
 |o::os,A=>PS os (A++[sa A o])
def Hd(d:Option Tmp)(l:List Tmp):Bool:=match d with|some d=>GI d l|none=>false
def iS(ops:Array ao)(o:ao):List Tmp:=o.dst.toList++o.looksAt ops
structure BH where
 i:Nat
 o:ao
 early:Bool
def x8(ops:Array ao)(A:List Nat):List BH->List (Nat×List Nat)->Bool
 |_,[]=>true
 |pre,(i,re)::ij=>
  match ops[i]? with
  |none=>false
  |some o=>
   let e:=Nat.blt (gu o) 3&& !Hd o.dst (o.looksAt ops)&&pre.all λd=> !Hd o.dst (iS ops d.o)
   pre.all (λd=> !Nat.beq d.i i)&&
   o.after.toList.all (λe=> !Region.binds .any e||pre.any λd=>Nat.beq d.i e.on)&&
   pre.all (λd=> !d.early||(Nat.testBit (A.getD i 0) d.i||(!Hd d.o.dst (o.looksAt ops)&&(e||(!Hd o.dst (iS ops d.o)&&(Nat.beq (gu d.o) 0||Nat.beq (gu d.o) 2||GI d.i re))))))&&
   (e||ij.all λk=>match ops[k.1]? with
     |some ok=>ok.after.toList.any λe=>Region.binds .any e&&pre.all λd=> !Nat.beq d.i e.on
     |none=>false)&&
   x8 ops A (⟨i,o,e⟩::pre) ij
def RG(ops:Array ao):Option (List (Nat×List Nat))->List (Nat×List Nat)
 |some pl=>pl
 |none=>(List.range ops.size).map λi=>(i,[])
def Ep(ops:Array ao)(pl:List (Nat×List Nat)):Bool:=
 let A:=PS ops.toList []
 (List.range ops.size).all (λi=>match ops[i]? with
  |some o=>Nat.beq (A.getD i 0) (sa A o)&&pl.any (λx=>Nat.beq x.1 i)&&(match o.op with|.select .. =>false|_=>true)
  |none=>false)&&
 x8 ops A [] pl
def gK[ak](nt:Nat)(ng:List Nat):bs->Bool
 |.region id ops xE=>ops.toList.all (jt nt ng)&&(!xE||Ep ops (RG ops (ak.D id ops)))
 |.seq a b=>gK nt ng a&&gK nt ng b
 |.cond c a b=>mB nt ng c&&gK nt ng a&&gK nt ng b
 |.block _ b=>gK nt ng b
 |.loop b=>gK nt ng b
 |.scope b=>gK nt ng b
 |.rangeFunc f ps anD bd=>mB nt ng f&&ps.toList.all (λt=>Nat.blt t nt)&&gK nt ng anD&&gK nt ng bd
 |_=>true
def HY[ak](σ:cV)(nt:Nat)(c:bs):Prop:=tx σ ak.ng/\gK nt ak.ng c=true
def HY.mono[ak]{σ σ':cV}{nt:Nat}{c:bs}(hs:Sub σ σ')(h:HY σ nt c):HY σ' nt c:=⟨h.1.mono hs,h.2⟩
section
variable [ak]
def cR(R:ak.Fr)(t:Nat):ae:=ak.Kq R t
def HG(R:ak.Fr)(t:Nat)(v:ae):ak.Fr:=ak.Qc R t v
def eH(R:ak.Fr)(d:Option Tmp)(v:ae):ak.Fr:=match d with|some t=>HG R t v|none=>R
def sE(R:ak.Fr)(t:Nat)(v:ae):cR (HG R t v) t=v:=ak.jC R t v
def pC(R:ak.Fr){t u:Nat}(v:ae)(h:t≠u):cR (HG R t v) u=cR R u:=ak.fA R t u v h
def dS(nt:Nat)(σ:cV)(R:ak.Fr)(tmps:Array ae):Prop:=tmps.size=nt/\∀t,t<nt->VR σ (cR R t) (tmps.getD t ag)
def dS.mono{nt:Nat}{σ σ':cV}(hs:Sub σ σ'){R:ak.Fr}{tmps:Array ae}(h:dS nt σ R tmps):dS nt σ' R tmps:=
 ⟨h.1,λt ht=>(h.2 t ht).mono hs⟩
def dS.set{nt:Nat}{σ:cV}{R:ak.Fr}{tmps:Array ae}(h:dS nt σ R tmps)(d:Nat){v v':ae}(hv:VR σ v v'):
 dS nt σ (HG R d v) (tmps.setIfInBounds d v'):=by
 refine⟨by simp[h.1],λt ht=>?_⟩;by_cases hd:d=t
 ·subst hd;rw[sE];have:d<tmps.size:=by rw[h.1];exact ht
  simpa[E5,this]using hv
 ·rw[pC _ _ hd];have:=h.2 t ht;simpa[Ce hd]using this
def dS.put{nt:Nat}{σ:cV}{R:ak.Fr}{a:aV}(h:dS nt σ R a.tmps)(d:Option Tmp){v v':ae}(hv:VR σ v v'):
 dS nt σ (eH R d v) (a.put d v').tmps:=by
 cases d with
 |none=>exact h
 |some d=>exact h.set d hv
@[simp] theorem mU (a:aV) (d:Option Tmp) (v:ae):(a.put d v).defers=a.defers:=by cases d<;>rfl
def ER(σ:cV)(es fE:List ba):Prop:=
 es.length=fE.length/\∀(i:Nat) (e e':ba),es[i]? =some e->fE[i]? =some e'->VR σ e.key e'.key/\VR σ e.val e'.val/\e.born=e'.born
def ER.mono{σ σ':cV}(hs:Sub σ σ'){es fE:List ba}(h:ER σ es fE):ER σ' es fE:=
 ⟨h.1,λi e e' a b=>let⟨x,y,z⟩:=h.2 i e e' a b;⟨x.mono hs,y.mono hs,z⟩⟩
def kA(σ:cV)(h:Array mj)(g:rB):dO->Prop
 |.cells cs=>∃c t fr,h[g.B]? =some (.cells c t fr)/\(g.s<g.e->fr=(0,0))/\g.s+cs.length<=g.e/\g.e<=c.size/\
  ∀(i:Nat) (v:ae),cs[i]? =some v->∃v',c[g.s+i]? =some v'/\VR σ v v'
 |.ro cs=>∃c t fr,h[g.B]? =some (.cells c t fr)/\g.s+cs.length<=g.e/\
  ∀(i:Nat) (v:ae),cs[i]? =some v->∃v',c[g.s+i]? =some v'/\VR σ v v'
 |.map es jj=>g.s=0/\g.e=1/\∃fE:Array ba,h[g.B]? =some (.map fE jj)/\ER σ es fE.toList
 |.loop st kV R nt ps anD bd=>g.s=0/\g.e=1/\∃r:Loop,h[g.B]? =some (.loop r)/\r.state=st/\r.pending=kV/\dS nt σ R r.tmps/\r.params=ps/\r.assign=anD/\r.body=bd/\HY σ nt anD/\HY σ nt bd/\ps.toList.all (λt=>Nat.blt t nt)=true
 |.kW s pos=>g.s=0/\g.e=1/\h[g.B]? =some (.stringIter s pos)
 |.tc t cs=>g.s=0/\0<g.e/\(g.e<=maxLen/\(ak.ex t=true->cs.length=g.e))/\∃c,h[g.B]? =some (.cells c t (0,0))/\cs.length<=g.e/\g.e=c.size/\
  ∀(i:Nat) (v:ae),cs[i]? =some v->∃v',c[i]? =some v'/\VR σ v v'
def kA.mono{σ σ':cV}(hs:Sub σ σ'){h:Array mj}{g:rB}{o:dO}(k:kA σ h g o):kA σ' h g o:=by
 cases o with
 |cells cs=>obtain⟨c,t,fr,h1,h0,h2,h3,h4⟩:=k;exact⟨c,t,fr,h1,h0,h2,h3,λi v hv=>let⟨v',a,b⟩:=h4 i v hv;⟨v',a,b.mono hs⟩⟩
 |ro cs=>obtain⟨c,t,fr,h1,h2,h4⟩:=k;exact⟨c,t,fr,h1,h2,λi v hv=>let⟨v',a,b⟩:=h4 i v hv;⟨v',a,b.mono hs⟩⟩
 |map es jj=>obtain⟨a,b,fE,h1,h2⟩:=k;exact⟨a,b,fE,h1,h2.mono hs⟩
 |loop st kV R nt ps anD bd=>obtain⟨a,b,r,h1,h2,h3,h4,h5,h6,h7,h8,h9,wI⟩:=k;exact⟨a,b,r,h1,h2,h3,h4.mono hs,h5,h6,h7,h8.mono hs,h9.mono hs,wI⟩
 |kW s pos=>exact k
 |tc t cs=>obtain⟨a1,a2,a3,c,h1,h2,h3,h4⟩:=k;exact⟨a1,a2,a3,c,h1,h2,h3,λi v hv=>let⟨v',a,b⟩:=h4 i v hv;⟨v',a,b.mono hs⟩⟩
def kA.same{σ:cV}{h h':Array mj}{g:rB}{o:dO}(k:kA σ h g o)(e:h'[g.B]? =h[g.B]?):kA σ h' g o:=by
 cases o with
 |cells cs=>obtain⟨c,t,fr,h1,h2⟩:=k;exact⟨c,t,fr,e.trans h1,h2⟩
 |ro cs=>obtain⟨c,t,fr,h1,h2⟩:=k;exact⟨c,t,fr,e.trans h1,h2⟩
 |map es jj=>obtain⟨a,b,fE,h1,h2⟩:=k;exact⟨a,b,fE,e.trans h1,h2⟩
 |loop st kV R nt ps anD bd=>obtain⟨a,b,r,h1,h2⟩:=k;exact⟨a,b,r,e.trans h1,h2⟩
 |kW s pos=>obtain⟨a,b,h1⟩:=k;exact⟨a,b,e.trans h1⟩
 |tc t cs=>obtain⟨a1,a2,a3,c,h1,h2⟩:=k;exact⟨a1,a2,a3,c,e.trans h1,h2⟩
def O2:dO->Bool
 |.ro _=>false
 |_=>true
def Dr{o:dO}(h:∀cs,o≠ .ro cs):O2 o=true:=by cases o<;>first|rfl|exact absurd rfl (h _)
def rwL{o o2:dO}(h:∀cs,o≠ .ro cs):(O2 o||O2 o2)=true:=by rw[Dr h];rfl
def rwR{o o2:dO}(h:∀cs,o≠ .ro cs):(O2 o2||O2 o)=true:=by rw[Dr h];simp
structure bg (σ:cV) (W:AW) (h:Array mj):Prop where
 free:∀b,W.next<=b->W.get b=none
 np:∀b g,σ b=some g->b<W.next/\g.B<h.size
 obj:∀b o g,W.get b=some o->σ b=some g->kA σ h g o
 ny:∀b1 b2 o1 o2 g1 g2,b1≠b2->W.get b1=some o1->W.get b2=some o2->σ b1=some g1->σ b2=some g2->(O2 o1||O2 o2)=true->g1.B≠g2.B\/g1.e<=g2.s\/g2.e<=g1.s
def ZB(σ:cV)(W:AW)(B:Nat):Prop:=∃b g,σ b=some g/\g.B=B/\∀cs,W.get b≠some (.ro cs)
def F5{w w':aq}{a:aP}(h:w'.heap[a.block]? =w.heap[a.block]?):w'.frozen? a=w.frozen? a:=by unfold World.frozen?;rw[h]
def kA.ahi{σ:cV}{w:aq}{g:rB}{o:dO}(k:kA σ w.heap g o)(nS:∀cs,o≠ .ro cs)(fe:g.s<g.e){a:aP}(ha:a.block=g.B):w.frozen? a=false:=by
 unfold World.frozen?;rw[ha];cases o with
 |cells cs=>obtain⟨c,t,fr,h1,h0,_⟩:=k;rw[h1,h0 fe];simp
 |ro cs=>exact absurd rfl (nS cs)
 |map es jj=>obtain⟨_,_,fE,h1,_⟩:=k;rw[h1]
 |loop st kV R nt ps anD bd=>obtain⟨_,_,r,h1,_⟩:=k;rw[h1]
 |kW s pos=>obtain⟨_,_,h1⟩:=k;rw[h1]
 |tc t cs=>obtain⟨_,_,_,c,h1,_⟩:=k;rw[h1];simp
structure eB (σ:cV) (W:AW) (w:aq) (σ':cV) (W':AW) (w':aq):Prop where
 sub:Sub σ σ'
 ro:∀b cs,W.get b=some (.ro cs)->W'.get b=some (.ro cs)
 size:w.heap.size<=w'.heap.size
 os:w'.os=w.os
 tape:w'.tape=w.tape
 output:w'.output=w.output
 dK:∀B,B<w.heap.size->¬ZB σ W B->w'.heap[B]? =w.heap[B]?
 ghost:∀b o,W.get b=some o->σ b=none->W'.get b=some o/\σ' b=none
 grow:∀b g,σ' b=some g->g.B<w.heap.size->σ b=some g\/ZB σ W g.B
def eB.Oc{σ σ':cV}{W W':AW}{w w':aq}(h:eB σ W w σ' W' w'):∀B,B<w.heap.size->ZB σ' W' B->ZB σ W B:=by
 rintro B hB ⟨b,g,hg,rfl,nS⟩;rcases h.grow b g hg hB with h1|h1
 ·exact⟨b,g,h1,rfl,λcs hc=>nS cs (h.ro b cs hc)⟩
 ·exact h1
def eB.refl(σ:cV)(W:AW)(w:aq):eB σ W w σ W w:=⟨.refl _,λ_ _ h=>h,aS _,rfl,rfl,rfl,λ_ _ _=>rfl,λ_ _ h k=>⟨h,k⟩,λ_ _ h _=>.inl h⟩
def eB.trans{σ σ' Eb:cV}{W W' W'':AW}{w w' Pp:aq}(h:eB σ W w σ' W' w')(k:eB σ' W' w' Eb W'' Pp):eB σ W w Eb W'' Pp:=
 ⟨h.sub.trans k.sub,λb cs x=>k.ro b cs (h.ro b cs x),fL h.size k.size,k.os.trans h.os,k.tape.trans h.tape,k.output.trans h.output,
  λB hB hm=>(k.dK B (fg hB h.size) (λm=>hm (h.Oc B hB m))).trans (h.dK B hB hm),
  λb o h1 h2=>let⟨a1,a2⟩:=h.ghost b o h1 h2;k.ghost b o a1 a2,
  λb g hg hB=>by
   rcases k.grow b g hg (fg hB h.size)with h1|h1
   ·exact h.grow b g h1 hB
   ·exact .inr (h.Oc _ hB h1)⟩
def eB.drawn(σ:cV)(W:AW)(w:aq)(n:Nat):eB σ W w σ W {w with drawn:=n}:=⟨.refl _,λ_ _ h=>h,aS _,rfl,rfl,rfl,λ_ _ _=>rfl,λ_ _ h k=>⟨h,k⟩,λ_ _ h _=>.inl h⟩
section
variable {σ:cV} {W:AW} {w w':aq}
def bg.Oc(h:bg σ W w.heap){b:Nat}{o o':dO}{g:rB}(hb:W.get b=some o)(nS:∀cs,o≠ .ro cs)(GO:∀cs,o'≠ .ro cs)(hg:σ b=some g)
 (oJ:w'.heap.size=w.heap.size)(OS:w'.os=w.os)(RT:w'.tape=w.tape)(wT:w'.output=w.output)
 (iF:∀B,B≠g.B->w'.heap[B]? =w.heap[B]?)
 (qr:kA σ w'.heap g o')
 (La:∀b2 o2 g2,b2≠b->W.get b2=some o2->σ b2=some g2->g2.B=g.B->(g.e<=g2.s\/g2.e<=g.s)->kA σ w.heap g2 o2->kA σ w'.heap g2 o2):
 bg σ (W.put b o') w'.heap/\eB σ W w σ (W.put b o') w':=by
 have fe:∀{c:Nat},c≠b->(W.put b o').get c=W.get c:=λhc=>W.aE _ (bL hc)
 refine⟨⟨?_,?_,?_,?_⟩,⟨.refl _,?_,?_,OS,RT,wT,?_,?_,?_⟩⟩
 ·intro c hc;have KZ:=(h.np b g hg).1;have oN:W.next<=c:=hc;rw[fe (by omega)];exact h.free c oN
 ·intro c k hk;have:=h.np c k hk;exact⟨this.1,by rw[oJ];exact this.2⟩
 ·intro c o2 g2 hc hk;by_cases Cs:c=b
  ·subst Cs;rw[AW.bE]at hc;injection hc with hc;subst hc;rw[hg]at hk;injection hk with hk;subst hk;exact qr
  ·rw[fe Cs]at hc;by_cases hB:g2.B=g.B
   ·refine La c o2 g2 Cs hc hk hB ?_ (h.obj c o2 g2 hc hk);rcases h.ny c b o2 o g2 g Cs hc hb hk hg (rwR nS)with h1|h1|h1
    ·exact absurd hB h1
    ·exact .inr h1
    ·exact .inl h1
   ·exact(h.obj c o2 g2 hc hk).same (iF _ hB)
 ·intro b1 b2 o1 o2 g1 g2 aie h1 h2 k1 k2 hr;have e1:∃o1',W.get b1=some o1'/\O2 o1'=O2 o1:=by
   by_cases hx:b1=b
   ·subst hx;rw[AW.bE]at h1;injection h1 with h1;subst h1;exact⟨o,hb,by rw[Dr nS,Dr GO]⟩
   ·rw[fe hx]at h1;exact⟨o1,h1,rfl⟩
  have e2:∃o2',W.get b2=some o2'/\O2 o2'=O2 o2:=by
   by_cases hx:b2=b
   ·subst hx;rw[AW.bE]at h2;injection h2 with h2;subst h2;exact⟨o,hb,by rw[Dr nS,Dr GO]⟩
   ·rw[fe hx]at h2;exact⟨o2,h2,rfl⟩
  obtain⟨o1',e1,q1⟩:=e1;obtain⟨o2',e2,q2⟩:=e2;exact h.ny b1 b2 o1' o2' g1 g2 aie e1 e2 k1 k2 (by rw[q1,q2];exact hr)
 ·intro c cs hc;by_cases Cs:c=b
  ·subst Cs;rw[hb]at hc;injection hc with hc;exact absurd hc (nS cs)
  ·rw[fe Cs];exact hc
 ·rw[oJ];exact aS _
 ·intro B hB hm;by_cases hBg:B=g.B
  ·subst hBg;exact absurd ⟨b,g,hg,rfl,λcs hc=>by rw[hb]at hc;injection hc with hc;exact nS cs hc⟩ hm
  ·exact iF B hBg
 ·intro c o2 hc hk;have Cs:c≠b:=λe=>by subst e;rw[hg]at hk;cases hk
  exact⟨by rw[fe Cs];exact hc,hk⟩
 ·exactλc k hk _=>.inl hk
def bg.Sf(h:bg σ W w.heap){b:Nat}{o o':dO}{g:rB}(hb:W.get b=some o)(nS:∀cs,o≠ .ro cs)(GO:∀cs,o'≠ .ro cs)(hg:σ b=some g)
 (oJ:w'.heap.size=w.heap.size)(OS:w'.os=w.os)(RT:w'.tape=w.tape)(wT:w'.output=w.output)
 (iF:∀B,B≠g.B->w'.heap[B]? =w.heap[B]?)
 {c c':Array ae}{t:ai}(hc:w.heap[g.B]? =some (.cells c t (0,0)))(oN:w'.heap[g.B]? =some (.cells c' t (0,0)))(nK:c'.size=c.size)
 (sj:∀i,i<g.s\/g.e<=i->c'[i]? =c[i]?)(qr:kA σ w'.heap g o'):
 bg σ (W.put b o') w'.heap/\eB σ W w σ (W.put b o') w':=by
 refine h.Oc hb nS GO hg oJ OS RT wT iF qr ?_
 ·intro b2 o2 g2 fe h2 k2 hB hd eG;cases o2 with
  |cells CI=>obtain⟨c0,t0,VN,e1,e0,e2,e3,e4⟩:=eG;rw[hB,hc]at e1;injection e1 with e1;injection e1 with e1 Vq;subst e1;refine⟨c',t,(0,0),by rw[hB];exact oN,λ_=>rfl,e2,by omega,λi v hv=>?_⟩;obtain⟨v',f1,f2⟩:=e4 i v hv;have hi:i<CI.length:=(dV.1 hv).1;exact⟨v',by rw[sj _ (by omega)];exact f1,f2⟩
  |ro CI=>obtain⟨c0,t0,fr,e1,e2,e3⟩:=eG;rw[hB,hc]at e1;injection e1 with e1;injection e1 with e1 Vq;subst e1;refine⟨c',t,(0,0),by rw[hB];exact oN,e2,λi v hv=>?_⟩;have hi:i<CI.length:=(dV.1 hv).1;obtain⟨v',f1,f2⟩:=e3 i v hv;exact⟨v',by rw[sj _ (by omega)];exact f1,f2⟩
  |map es jj=>obtain⟨_,_,fE,e1,_⟩:=eG;rw[hB,hc]at e1;cases e1
  |loop st kV R nt ps anD bd=>obtain⟨_,_,r,e1,_⟩:=eG;rw[hB,hc]at e1;cases e1
  |kW s pos=>obtain⟨_,_,e1⟩:=eG;rw[hB,hc]at e1;cases e1
  |tc t2 CI=>obtain⟨a1,a2,a3,c0,e1,e2,e3,e4⟩:=eG;rw[hB,hc]at e1;injection e1 with e1;injection e1 with e1 Vq;subst e1;subst Vq;refine⟨a1,a2,a3,c',by rw[hB];exact oN,e2,by omega,λi v hv=>?_⟩;obtain⟨v',f1,f2⟩:=e4 i v hv;have hi:i<CI.length:=(dV.1 hv).1;exact⟨v',by rw[sj _ (by omega)];exact f1,f2⟩
def bg.write(h:bg σ W w.heap){b:Nat}{cs cz:List ae}{g:rB}(hb:W.get b=some (.cells cs))(hg:σ b=some g)
 (oJ:w'.heap.size=w.heap.size)(OS:w'.os=w.os)(RT:w'.tape=w.tape)(wT:w'.output=w.output)
 (iF:∀B,B≠g.B->w'.heap[B]? =w.heap[B]?)
 {c c':Array ae}{t:ai}(hc:w.heap[g.B]? =some (.cells c t (0,0)))(oN:w'.heap[g.B]? =some (.cells c' t (0,0)))(nK:c'.size=c.size)
 (sj:∀i,i<g.s\/g.e<=i->c'[i]? =c[i]?)(fb:g.s+cz.length<=g.e)
 (nv:∀(i:Nat) (v:ae),cz[i]? =some v->∃v',c'[g.s+i]? =some v'/\VR σ v v'):
 bg σ (W.put b (.cells cz)) w'.heap/\eB σ W w σ (W.put b (.cells cz)) w':=by
 refine h.Sf hb (λ_=>by simp) (λ_=>by simp) hg oJ OS RT wT iF hc oN nK sj ?_
 ·obtain⟨c0,t0,VN,h1,h0,h2,h3,h4⟩:=h.obj b _ g hb hg;rw[hc]at h1;injection h1 with h1;injection h1 with h1 PO;subst h1;exact⟨c',t,(0,0),oN,λ_=>rfl,fb,by omega,nv⟩
def bg.Zb(h:bg σ W w.heap){b:Nat}{t0:ai}{cs cz:List ae}{g:rB}(hb:W.get b=some (.tc t0 cs))(hg:σ b=some g)
 (oJ:w'.heap.size=w.heap.size)(OS:w'.os=w.os)(RT:w'.tape=w.tape)(wT:w'.output=w.output)
 (iF:∀B,B≠g.B->w'.heap[B]? =w.heap[B]?)
 {c c':Array ae}(hc:w.heap[g.B]? =some (.cells c t0 (0,0)))(oN:w'.heap[g.B]? =some (.cells c' t0 (0,0)))(nK:c'.size=c.size)
 (fb:cz.length=cs.length)
 (nv:∀(i:Nat) (v:ae),cz[i]? =some v->∃v',c'[i]? =some v'/\VR σ v v'):
 bg σ (W.put b (.tc t0 cz)) w'.heap/\eB σ W w σ (W.put b (.tc t0 cz)) w':=by
 obtain⟨a1,a2,a3,c0,h1,h2,h3,h4⟩:=h.obj b _ g hb hg;rw[hc]at h1;injection h1 with h1;injection h1 with h1 PO;subst h1;refine h.Sf hb (λ_=>by simp) (λ_=>by simp) hg oJ OS RT wT iF hc oN nK (λi hi=>?_) ⟨a1,a2,⟨a3.1,λhx=>by rw[fb];exact a3.2 hx⟩,c',oN,by omega,by omega,nv⟩;rw[rk (by omega),rk (by omega)]
def bg.setObj(h:bg σ W w.heap){b:Nat}{o o':dO}{g:rB}{x:mj}(hb:W.get b=some o)(nS:∀cs,o≠ .ro cs)(hg:σ b=some g)(Qs:g.s=0/\g.e=1)
 (Ti:∀c t fr,w.heap[g.B]? ≠some (.cells c t fr))
 (qr:kA σ (w.heap.setIfInBounds g.B x) g o')(GO:∀cs,o'≠ .ro cs:=by intro _ hx;cases hx):
 bg σ (W.put b o') (w.heap.setIfInBounds g.B x)/\eB σ W w σ (W.put b o') {w with heap:=w.heap.setIfInBounds g.B x}:=by
 refine h.Oc (w':={w with heap:=w.heap.setIfInBounds g.B x}) hb nS GO hg (by simp) rfl rfl rfl (λB hB=>?_) qr ?_
 ·simp only[E5];rw[ay (bL hB)]
 ·intro b2 o2 g2 _ _ _ hB hd eG;exfalso;cases o2 with
  |cells CI=>obtain⟨c0,t0,VN,e1,_⟩:=eG;rw[hB]at e1;exact Ti _ _ _ e1
  |ro CI=>obtain⟨c0,t0,fr,e1,_⟩:=eG;rw[hB]at e1;exact Ti _ _ _ e1
  |map es jj=>obtain⟨_,_,_⟩:=eG;omega
  |loop st kV R nt ps anD bd=>obtain⟨_,_,_⟩:=eG;omega
  |kW s pos=>obtain⟨_,_,_⟩:=eG;omega
  |tc t2 CI=>obtain⟨_,_,_,c0,e1,_⟩:=eG;rw[hB]at e1;exact Ti _ _ _ e1
def bR(σ:cV)(b:Nat)(g:rB):cV:=λc=>if c=b then some g else σ c
def dh{b:Nat}{g:rB}(hb:σ b=none):Sub σ (bR σ b g):=λc k hc=>by
 unfold bR;split
 ·rename_i e;subst e;rw[hb]at hc;cases hc
 ·exact hc
def de{b:Nat}{g:rB}:bR σ b g b=some g:=by simp[bR]
def bg.fresh(h:bg σ W w.heap):σ W.next=none:=by
 cases hk:σ W.next with
 |none=>rfl
 |some g=>have:=(h.np _ _ hk).1;omega
def bg.alloc(h:bg σ W w.heap){o:dO}{x:mj}{e:Nat}
 (qr:kA (bR σ W.next ⟨w.heap.size,0,e⟩) (w.heap.push x) ⟨w.heap.size,0,e⟩ o)(nS:∀cs,o≠ .ro cs:=by intro _ hx;cases hx):
 bg (bR σ W.next ⟨w.heap.size,0,e⟩) (W.add o) (w.heap.push x)/\eB σ W w (bR σ W.next ⟨w.heap.size,0,e⟩) (W.add o) {w with heap:=w.heap.push x}:=by
 have Cz:=h.fresh;have hs:Sub σ (bR σ W.next ⟨w.heap.size,0,e⟩):=dh Cz;have eG:∀B,B<w.heap.size->(w.heap.push x)[B]? =w.heap[B]? :=λB hB=>by rw[qd];rw[bZ]
 have fe:∀{c:Nat},c≠W.next->(W.add o).get c=W.get c:=λhc=>W.bC _ (bL hc)
 have mE:∀c g,bR σ W.next ⟨w.heap.size,0,e⟩ c=some g->(c=W.next/\g=⟨w.heap.size,0,e⟩)\/(c≠W.next/\σ c=some g):=λc g hc=>by
  unfold bR at hc;split at hc
  ·rename_i hx;injection hc with hc;exact .inl ⟨hx,hc.symm⟩
  ·rename_i hx;exact .inr ⟨hx,hc⟩
 refine⟨⟨?_,?_,?_,?_⟩,⟨hs,?_,?_,rfl,rfl,rfl,?_,?_,?_⟩⟩
 ·intro c hc;have oN:W.next+1<=c:=hc;rw[fe (by omega)];exact h.free c (by omega)
 ·intro c g hc;rcases mE c g hc with⟨rfl,rfl⟩|⟨_,h2⟩
  ·simp[AW.aL]
  ·have:=h.np c g h2;simp[AW.aL];omega
 ·intro c o2 g hc hk;rcases mE c g hk with⟨rfl,rfl⟩|⟨h1,h2⟩
  ·rw[AW.a8]at hc;injection hc with hc;subst hc;exact qr
  ·rw[fe h1]at hc;exact((h.obj c o2 g hc h2).mono hs).same (eG _ (h.np c g h2).2)
 ·intro b1 b2 o1 o2 g1 g2 FC h1 h2 k1 k2 hr;rcases mE b1 g1 k1 with⟨rfl,rfl⟩|⟨x1,y1⟩
  ·rcases mE b2 g2 k2 with⟨rfl,rfl⟩|⟨x2,y2⟩
   ·exact absurd rfl FC
   ·have:=(h.np _ _ y2).2;exact .inl (by simp only[ne_eq];omega)
  ·rcases mE b2 g2 k2 with⟨rfl,rfl⟩|⟨x2,y2⟩
   ·have:=(h.np _ _ y1).2;exact .inl (by simp only[ne_eq];omega)
   ·rw[fe x1]at h1;rw[fe x2]at h2;exact h.ny _ _ _ _ _ _ FC h1 h2 y1 y2 hr
 ·intro b cs hb;by_cases hx:b=W.next
  ·subst hx;rw[h.free _ (aS _)]at hb;cases hb
  ·rw[fe hx];exact hb
 ·simp
 ·intro B hB _;exact eG B hB
 ·intro c o2 hc hk;have hcn:c≠W.next:=λe=>by subst e;rw[h.free _ (aS _)]at hc;cases hc
  refine⟨by rw[fe hcn];exact hc,?_⟩;unfold bR;rw[ay hcn];exact hk
 ·intro c g hk hB;rcases mE c g hk with⟨rfl,rfl⟩|⟨h1,h2⟩
  ·simp at hB
  ·exact .inl h2
end
end
section
variable [ak]
def dy(B o j:Nat):(⟨B,o,none⟩:aP).add j=⟨B,o+j,none⟩:=by
 unfold Addr.add;split
 ·rename_i h;subst h;rfl
 ·rfl
def mT(a:aP)(j:Nat)(h:a.spot=none):(a.add j).spot=none:=by unfold Addr.add;split<;>simp[h]
def fM(a:aP)(j:Nat):(a.add j).block=a.block:=by unfold Addr.add;split<;>rfl
def nA(a:aP)(j:Nat):(a.add j).off=a.off+j:=by
 unfold Addr.add;split
 ·rename_i h;subst h;rfl
 ·rfl
def Mk(P:ah)(t:ai):Option Bool:=(P.underlying t).map λd=>match d with|.struct _|.array .. =>true|_=>false
def kv(P:ah)(t:ai):Option Nat:=(P.info? t).map (·.size)
def wZ{P:ah}{t:ai}{n:Nat}(h:kv P t=some n):∃i,P.info? t=some i/\i.size=n/\P.cellsOf t=n:=by
 unfold kv at h;cases hi:P.info? t with
 |none=>rw[hi]at h;cases h
 |some i=>rw[hi]at h;simp at h;exact⟨i,rfl,h,by simp[Program.cellsOf,hi,h]⟩
def bz{P:ah}{t:ai}{n:Nat}(h:kv P t=some n)(w:aq):(sizeOf t).run P w=.ok n w:=by
 obtain⟨i,hi,_,h3⟩:=wZ h;have:(sizeOf t).run P w=.ok (P.cellsOf t) w:=by simp[sizeOf,typeInfo,hi,Program.cellsOf]
 rw[this,h3]
def qp{P:ah}{t:ai}{b:Bool}(h:Mk P t=some b)(w:aq):(isAgg t).run P w=.ok b w:=by
 unfold Mk at h;cases hu:P.underlying t with
 |none=>rw[hu]at h;cases h
 |some d=>rw[hu]at h;simp only[cD,fI]at h;subst h;cases d<;>simp[isAgg,bJ hu]
def aI(W:AW)(b:Nat):Option (List ae):=match W.get b with|some (.cells cs)=>some cs|some (.ro cs)=>some cs|some (.tc _ cs)=>some cs|_=>none
section
variable {P:ah} {σ:cV} {W:AW} {w:aq}
def vo(h:bg σ W w.heap){b:Nat}{cs:List ae}{g:rB}(hc:aI W b=some cs)(hg:σ b=some g){i:Nat}{v:ae}(hv:cs[i]? =some v):
 ∃v',w.cell? ⟨g.B,g.s+i,none⟩=some v'/\VR σ v v':=by
 unfold aI at hc;split at hc
 ·rename_i cz eM;injection hc with hc;subst hc;obtain⟨c,t,fr,h1,h0,h2,h3,h4⟩:=h.obj b _ g eM hg;obtain⟨v',f1,f2⟩:=h4 i v hv;exact⟨v',by simp[World.cell?,h1,f1],f2⟩
 ·rename_i cz eM;injection hc with hc;subst hc;obtain⟨c,t,fr,h1,h2,h4⟩:=h.obj b _ g eM hg;obtain⟨v',f1,f2⟩:=h4 i v hv;exact⟨v',by simp[World.cell?,h1,f1],f2⟩
 ·rename_i t cz eM;injection hc with hc;subst hc;obtain⟨a1,a2,a3,c,h1,h2,h3,h4⟩:=h.obj b _ g eM hg;obtain⟨v',f1,f2⟩:=h4 i v hv;exact⟨v',by simp[World.cell?,h1,a1,f1],f2⟩
 ·cases hc
def Sq{α:Type}(l:List α):Nat->List α:=
 List.rec (motive:=λ_=>Nat->List α) (λ_=>[]) (λv t ih n=>Nat.rec (motive:=λ_=>List α) (v::t) (λm _=>ih m) n) l
def D6{α:Type}(l:List α):Nat->Option (List α):=
 List.rec (motive:=λ_=>Nat->Option (List α)) (λn=>Nat.rec (motive:=λ_=>Option (List α)) (some []) (λ_ _=>none) n)
  (λv _ ih n=>Nat.rec (motive:=λ_=>Option (List α)) (some []) (λm _=>Option.rec (motive:=λ_=>Option (List α)) none (λr=>some (v::r)) (ih m)) n) l
def Sy{α:Type}(l:List α):∀n,Sq l n=l.drop n:=by
 induction l with
 |nil=>intro n;simp[Sq]
 |cons v l ih=>intro n;cases n with|zero=>rfl|succ n=>exact(ih n).trans (by simp)
def Nh{α:Type}(l:List α):∀n,D6 l n=if(l.take n).length=n then some (l.take n)else none:=by
 induction l with
 |nil=>intro n;cases n with|zero=>rfl|succ n=>simp[D6]
 |cons v l ih=>
  intro n;cases n with
  |zero=>rfl
  |succ n=>
   show Option.rec (motive:=λ_=>Option (List α)) none (λr=>some (v::r)) (D6 l n)=_;rw[ih n];by_cases h:(l.take n).length=n
   ·rw[ax h,ax (by simp only[Ej,dG,h])];simp
   ·rw[ay h,ay (by simp only[Ej,dG];omega)]
def kg(W:AW)(b off n:Nat):Option (List ae):=
 match aI W b with
 |some cs=>D6 (Sq cs off) n
 |none=>none
def gG(W:AW)(b off n:Nat):kg W b off n=match aI W b with
 |some cs=>let l:=(cs.drop off).take n;if l.length=n then some l else none
 |none=>none:=by
 unfold kg;cases aI W b with
 |none=>rfl
 |some cs=>simp only[Sy,Nh]
def w6(h:bg σ W w.heap){b off n:Nat}{l:List ae}{g:rB}(hr:kg W b off n=some l)(hg:σ b=some g):
 ∃l',LR σ l l'/\l.length=n/\(∀j v,l'[j]? =some v->w.cell? ⟨g.B,g.s+off+j,none⟩=some v)/\(loadCells ⟨g.B,g.s+off,none⟩ n).run P w=.ok l'.toArray w:=by
 rw[gG]at hr;split at hr
 ·rename_i cs hc;simp only at hr;split at hr
  ·rename_i fb;injection hr with hr;have eM:∀j v,l[j]? =some v->∃v',w.cell? ⟨g.B,g.s+off+j,none⟩=some v'/\VR σ v v':=by
    intro j v hj;rw[<-hr,ks]at hj;split at hj
    ·rw[sn]at hj;obtain⟨v',a,b⟩:=vo h hc hg hj;exact⟨v',by rw[lH];exact a,b⟩
    ·cases hj
   have Yn:l.length=n:=by rw[<-hr];exact fb
   let f:Nat->ae:=λj=>(w.cell? ⟨g.B,g.s+off+j,none⟩).getD ag
   refine⟨(List.range n).map f,⟨by simp[Yn],λj v v' a b=>?_⟩,Yn,?_,?_⟩
   ·have hj:j<n:=by rw[<-Yn];exact(dV.1 a).1
    obtain⟨u,h1,h2⟩:=eM j v a;simp[hj,f,h1]at b;subst b;exact h2
   ·intro j v hj;have O9:j<n:=by have:=(dV.1 hj).1;simpa using this
    obtain⟨u,h1,h2⟩:=eM j l[j] (dm (by omega));simp[O9,f,h1]at hj;subst hj;exact h1
   ·have:=run_loadCells (P:=P) w ⟨g.B,g.s+off,none⟩ n f (λj hj=>by rw[dy];obtain⟨u,h1,h2⟩:=eM j l[j] (dm (by omega));simp[f,h1]);exact this
  ·cases hr
 ·cases hr
def iw(P:ah)(W:AW)(t:ai)(x:ae):Option ae:=
 match x with
 |.pointer (some a)=>match Mk P t with
  |some false=>match aI W a.block with
   |some cs=>T8 cs a.off
   |none=>none
  |some true=>match kv P t with
   |some n=>(kg W a.block a.off n).map λl=>.agg l.toArray
   |none=>none
  |none=>none
 |_=>none
def Dd(h:bg σ W w.heap){t:ai}{x x' v:ae}(ha:iw P W t x=some v)(hx:VR σ x x'):
 ∃v',(Instr.loadAt t x').run P w=.ok v' w/\VR σ v v':=by
 unfold iw at ha;split at ha
 ·rename_i a;cases hx with
  |ptr a g hg hs=>
   split at ha
   ·rename_i Y5;split at ha
    ·rename_i cs hc;rw[Fg]at ha;obtain⟨v',h1,h2⟩:=vo h hc hg ha;exact⟨v',by simp[Instr.loadAt,Instr.sureAddr,loadVar,qp Y5,h1],h2⟩
    ·cases ha
   ·rename_i Y5;split at ha
    ·rename_i n hn;cases hr:kg W a.block a.off n with
     |none=>rw[hr]at ha;cases ha
     |some l=>rw[hr]at ha;simp only[cD,fI]at ha;subst ha;obtain⟨l',h1,_,_,h3⟩:=w6 (P:=P) h hr hg;exact⟨.agg l'.toArray,by simp[Instr.loadAt,Instr.sureAddr,loadVar,qp Y5,bz hn,h3],VR.Kg (by simpa using h1)⟩
    ·cases ha
   ·cases ha
 ·cases ha
def one(v:ae):Bool:=v.oneCell'
def YD{v v':ae}(h:VR σ v v'):one v'=one v:=by cases h<;>rfl
def zO{l l':List ae}(h:LR σ l l')(ha:l.all one=true):∀v∈l',v.oneCell'=true:=by
 intro v hv;obtain⟨i,hi⟩:=List.getElem?_of_mem hv;have VQ:i<l.length:=by rw[h.1];exact(dV.1 hi).1
 have:=h.2 i l[i] v (dm VQ) hi;rw[show v.oneCell'=one v from rfl,YD this];exact cr.1 ha _ (gd VQ)
def fN(cs:List ae)(off:Nat)(vs:List ae):List ae:=cs.take off++vs++cs.drop (off+vs.length)
def Zt:ae->Bool:=
 Value.rec (motive_1:=λ_=>Bool) (motive_2:=λ_=>PUnit) (motive_3:=λ_=>PUnit) (λ_=>true) (λ_ _=>true) (λ_ _=>true) (λ_ _ _=>true) (λ_=>true) (λ_=>true) (λ_ _ _=>true) (λ_=>true) (λ_=>true) (λ_ _ _ _ _=>true) true (λ_ _ _=>true) true (λ_ _=>false) (λ_ _=>false) (λ_ _=>.unit) .unit (λ_ _ _ _=>.unit)
def Uq(v:ae):Zt v=one v:=by cases v<;>rfl
def yT(vs:List ae):List ae->Option (List ae):=
 List.rec (motive:=λ_=>List ae->Option (List ae)) (λcs=>some cs)
  (λv _ ih cs=>List.rec (motive:=λ_=>Option (List ae)) none (λ_ t _=>Bool.rec (motive:=λ_=>Option (List ae)) none (Option.rec (motive:=λ_=>Option (List ae)) none (λr=>some (v::r)) (ih t)) (Zt v)) cs) vs
def HO(vs:List ae):∀cs,yT vs cs=if vs.length<=cs.length/\vs.all one=true then some (vs++cs.drop vs.length)else none:=by
 induction vs with
 |nil=>intro cs;simp[yT]
 |cons v vs ih=>
  intro cs;cases cs with
  |nil=>simp[yT]
  |cons c t=>
   show Bool.rec (motive:=λ_=>Option (List ae)) none (Option.rec (motive:=λ_=>Option (List ae)) none (λr=>some (v::r)) (yT vs t)) (Zt v)=_;rw[ih t,Uq];cases h1:one v with
   |false=>simp[h1]
   |true=>
    by_cases h:vs.length<=t.length/\vs.all one=true
    ·rw[ax h,ax (by simp only[dG,eP,h1,h.2];exact⟨by omega,rfl⟩)];simp
    ·rw[ay h,ay (by simp only[dG,eP,h1,je];exactλk=>h ⟨by omega,k.2⟩)]
def Bn(cs:List ae):Nat->List ae->Option (List ae):=
 List.rec (motive:=λ_=>Nat->List ae->Option (List ae)) (λn vs=>Nat.rec (motive:=λ_=>Option (List ae)) (yT vs []) (λ_ _=>none) n)
  (λc t ih n vs=>Nat.rec (motive:=λ_=>Option (List ae)) (yT vs (c::t)) (λm _=>Option.rec (motive:=λ_=>Option (List ae)) none (λr=>some (c::r)) (ih m vs)) n) cs
def xO(cs:List ae):∀(off:Nat) (vs:List ae),Bn cs off vs=if off+vs.length<=cs.length/\vs.all one=true then some (fN cs off vs)else none:=by
 induction cs with
 |nil=>
  intro off vs;cases off with
  |zero=>show yT vs []=_;rw[HO];simp[fN]
  |succ n=>show(none:Option (List ae))=_;rw[ay (by simp)]
 |cons c t ih=>
  intro off vs;cases off with
  |zero=>show yT vs (c::t)=_;rw[HO];simp[fN]
  |succ n=>
   show Option.rec (motive:=λ_=>Option (List ae)) none (λr=>some (c::r)) (Bn t n vs)=_;rw[ih n vs];have e:n+1+vs.length=(n+vs.length)+1:=by omega
   by_cases h:n+vs.length<=t.length/\vs.all one=true
   ·rw[ax h,ax ⟨by simp only[dG];omega,h.2⟩];simp[fN,e]
   ·rw[ay h,ay (by simp only[dG];exactλk=>h ⟨by omega,k.2⟩)]
def lq(W:AW)(b off:Nat)(vs:List ae):Option AW:=
 match W.get b with
 |some (.cells cs)=>(match Bn cs off vs with
  |some l=>some (W.put b (.cells l))
  |none=>none)
 |some (.tc t cs)=>(match Bn cs off vs with
  |some l=>some (W.put b (.tc t l))
  |none=>none)
 |_=>none
def Ip(W:AW)(b off:Nat)(vs:List ae):lq W b off vs=match W.get b with
 |some (.cells cs)=>if off+vs.length<=cs.length/\vs.all one=true then some (W.put b (.cells (fN cs off vs)))else none
 |some (.tc t cs)=>if off+vs.length<=cs.length/\vs.all one=true then some (W.put b (.tc t (fN cs off vs)))else none
 |_=>none:=by
 unfold lq;split
 ·rename_i cs nK;rw[xO];by_cases h:off+vs.length<=cs.length/\vs.all one=true
  ·rw[ax h,ax h]
  ·rw[ay h,ay h]
 ·rename_i t cs nK;rw[xO];by_cases h:off+vs.length<=cs.length/\vs.all one=true
  ·rw[ax h,ax h]
  ·rw[ay h,ay h]
 ·rfl
def jX(c:List ae)(o:Nat)(vs:List ae)(h:o+vs.length<=c.length)(i:Nat):
 (c.take o++vs++c.drop (o+vs.length))[i]? =if o<=i/\i<o+vs.length then vs[i-o]? else c[i]? :=by
 rw[ji,ul];simp only[fT];have hm:min o c.length=o:=by omega
 rw[hm];split
 ·rename_i h1;rw[ks,ax h1,bZ]
 ·rename_i h1;rw[ul];split
  ·rename_i h2;rw[nj]
  ·rename_i h2;rw[bZ,sn];congr 1;omega
def hZ(w:aq)(g B:Nat)(c:Array ae)(h:B≠g):(w.setRow g c).heap[B]? =w.heap[B]? :=by simp only[World.setRow,w5];rw[ay (bL h)]
def qg(h:bg σ W w.heap){b off:Nat}{vs Cp:List ae}{W':AW}{g:rB}(hw:lq W b off vs=some W')(hg:σ b=some g)(hv:LR σ vs Cp):
 ∃w',(storeCells ⟨g.B,g.s+off,none⟩ Cp).run P w=.ok () w'/\bg σ W' w'.heap/\eB σ W w σ W' w':=by
 rw[Ip]at hw;split at hw
 ·rename_i cs eM;split at hw
  ·rename_i pi;injection hw with hw;obtain⟨fb,NL⟩:=pi;obtain⟨c,t,fr,h1,h0,h2,h3,h4⟩:=h.obj b _ g eM hg;have hvl:=hv.1;by_cases Zc:g.s<g.e;case neg=>
    have YZ:Cp=[]:=rO (by omega);have ahy:vs=[]:=rO (by omega);have ahc:cs=[]:=rO (by omega);subst YZ;subst ahy;subst ahc;have E2:off=0:=by simpa using fb
    subst E2;refine⟨w,by simp[storeCells],?_⟩;rw[<-hw];have ahd:fN ([]:List ae) 0 []=[]:=rfl;rw[ahd];refine h.Oc eM (λ_=>by simp) (λ_=>by simp) hg rfl rfl rfl rfl (λ_ _=>rfl) ⟨c,t,fr,h1,h0,h2,h3,h4⟩ (λ_ _ _ _ _ _ _ _ k=>k)
   obtain rfl:=h0 Zc;have px:=Ac (P:=P) g.B (g.s+off) t Cp 0 c w h1 (by omega) (zO hv NL);simp only[ce]at px;refine⟨_,px,?_⟩;rw[<-hw];have zA:=jX c.toList (g.s+off) Cp (by simp;omega);refine h.write (cz:=fN cs off vs) eM hg (by simp[World.setRow]) rfl rfl rfl (λB hB=>hZ w g.B B _ hB) h1 (ql w g.B c _ t _ h1) (by simp;omega) ?_ ?_ ?_
   ·intro i hi;have:=zA i;rw[bZ]at this;simpa using this
   ·simp[fN];omega
   ·intro i v PW;have hsg:=jX cs off vs fb i;rw[show fN cs off vs=cs.take off++vs++cs.drop (off+vs.length)from rfl,hsg]at PW;have lX:=zA (g.s+i);by_cases nv:off<=i/\i<off+vs.length
    ·rw[ax nv]at PW;rw[nj]at lX;obtain⟨v',f1,f2⟩:=hv.get PW;refine⟨v',?_,f2⟩;rw[show g.s+i-(g.s+off)=i-off by omega]at lX;rw[<-f1];simpa using lX
    ·rw[ay nv]at PW;rw[bZ]at lX;obtain⟨v',f1,f2⟩:=h4 i v PW;exact⟨v',by rw[<-f1];simpa using lX,f2⟩
  ·cases hw
 ·rename_i t cs eM;split at hw
  ·rename_i pi;injection hw with hw;obtain⟨fb,NL⟩:=pi;obtain⟨a1,a2,a3,c,h1,h2,h3,h4⟩:=h.obj b _ g eM hg;have hvl:=hv.1;have px:=Ac (P:=P) g.B (g.s+off) t Cp 0 c w h1 (by omega) (zO hv NL);simp only[ce]at px;refine⟨_,px,?_⟩;rw[<-hw];have zA:=jX c.toList (g.s+off) Cp (by simp;omega);refine h.Zb (cz:=fN cs off vs) eM hg (by simp[World.setRow]) rfl rfl rfl (λB hB=>hZ w g.B B _ hB) h1 (ql w g.B c _ t _ h1) (by simp;omega) ?_ ?_
   ·simp[fN];omega
   ·intro i v PW;have hsg:=jX cs off vs fb i;rw[show fN cs off vs=cs.take off++vs++cs.drop (off+vs.length)from rfl,hsg]at PW;have lX:=zA i;by_cases nv:off<=i/\i<off+vs.length
    ·rw[ax nv]at PW;rw[nj]at lX;obtain⟨v',f1,f2⟩:=hv.get PW;refine⟨v',?_,f2⟩;rw[show i-(g.s+off)=i-off by omega]at lX;rw[<-f1];simpa using lX
    ·rw[ay nv]at PW;rw[bZ]at lX;obtain⟨v',f1,f2⟩:=h4 i v PW;exact⟨v',by rw[<-f1];simpa using lX,f2⟩
  ·cases hw
 ·cases hw
def um(P:ah)(W:AW)(t:ai)(x v:ae):Option AW:=
 match x with
 |.pointer (some a)=>match kv P t with
  |some n=>if v.cells.size=n then lq W a.block a.off v.cells.toList else none
  |none=>none
 |_=>none
def Iu(h:bg σ W w.heap){t:ai}{x x' v v':ae}{W':AW}(ha:um P W t x v=some W')(hx:VR σ x x')(hv:VR σ v v'):
 ∃w',(Instr.storeAt t x' v').run P w=.ok () w'/\bg σ W' w'.heap/\eB σ W w σ W' w':=by
 unfold um at ha;split at ha
 ·rename_i a;cases hx with
  |ptr a g hg hs=>
   split at ha
   ·rename_i n hn;split at ha
    ·rename_i oJ;obtain⟨w',h1,h2⟩:=qg (P:=P) h ha hg hv.cells;have agH:v'.cells.size=n:=by have:=hv.cells.1;simp at this;omega
     exact⟨w',by simp[Instr.storeAt,Instr.sureAddr,storeVar,bz hn,agH,h1],h2⟩
    ·cases ha
   ·cases ha
 ·cases ha
def uE(h:bg σ W w.heap)(t:ai){cs cz:List ae}(hc:LR σ cs cz):
 (newRow t cz.toArray).run P w=.ok ⟨w.heap.size,0,none⟩ {w with heap:=w.heap.push (.cells cz.toArray t)}/\
 bR σ W.next ⟨w.heap.size,0,cs.length⟩ W.next=some ⟨w.heap.size,0,cs.length⟩/\
 bg (bR σ W.next ⟨w.heap.size,0,cs.length⟩) (W.add (.cells cs)) (w.heap.push (.cells cz.toArray t))/\
 eB σ W w (bR σ W.next ⟨w.heap.size,0,cs.length⟩) (W.add (.cells cs)) {w with heap:=w.heap.push (.cells cz.toArray t)}:=by
 refine⟨by simp[newRow],de,h.alloc ?_⟩;refine⟨cz.toArray,t,(0,0),by simp,λ_=>rfl,by simp,by simp[hc.1],λi v hv=>?_⟩;obtain⟨v',a,b⟩:=hc.get hv;exact⟨v',by simpa using a,b.mono (dh h.fresh)⟩
def bg.kill(h:bg σ W w.heap){b:Nat}{g0:rB}(hb:∀cs,W.get b≠some (.ro cs))(hg0:σ b=some g0):bg σ (W.kill b) w.heap/\eB σ W w σ (W.kill b) w:=by
 have hk:∀c o,(W.kill b).get c=some o->c≠b/\W.get c=some o:=λc o hc=>by
  by_cases hx:c=b
  ·subst hx;rw[AW.vH]at hc;cases hc
  ·rw[AW.dL _ (bL hx)]at hc;exact⟨hx,hc⟩
 refine⟨⟨?_,h.np,?_,?_⟩,⟨.refl _,?_,aS _,rfl,rfl,rfl,λ_ _ _=>rfl,?_,?_⟩⟩
 ·intro c hc;by_cases hx:c=b
  ·subst hx;exact AW.vH _ _
  ·rw[AW.dL _ (bL hx)];exact h.free c hc
 ·intro c o g hc hg;exact h.obj c o g (hk c o hc).2 hg
 ·intro b1 b2 o1 o2 g1 g2 fe h1 h2 k1 k2 hr;exact h.ny b1 b2 o1 o2 g1 g2 fe (hk _ _ h1).2 (hk _ _ h2).2 k1 k2 hr
 ·intro c cs hc;have hx:c≠b:=λe=>by subst e;exact hb cs hc
  rw[AW.dL _ (bL hx)];exact hc
 ·intro c o2 hc hkn;have Cs:c≠b:=λe=>by subst e;rw[hg0]at hkn;cases hkn
  exact⟨by rw[AW.dL _ (bL Cs)];exact hc,hkn⟩
 ·exactλc g hg _=>.inl hg
end
end
section
variable [ak]
def cd(P:ah){α:Type}(s:Sem α):Option α:=
 Sem.rec (motive:=λ_=>Option α) (λa=>some a) (λ_ _ _ _=>none) (λ_ _ _ _ _=>none) (λ_ _ _=>none) (λ_ _ _=>none) (λ_ _ _ _=>none) (λ_ _ _=>none) (λ_ _ _=>none) (λ_ _ _ _=>none) (λ_ _ _=>none) (λ_ _ _=>none) (λ_ ih=>ih P) (λ_ _ _=>none) (λ_=>none) s
def nP{P:ah}{α:Type}(s:Sem α){a:α}(h:cd P s=some a)(w:aq):s.run P w=.ok a w:=by
 induction s generalizing w with
 |pure b=>simp only[cd]at h;injection h with h;subst h;rfl
 |program k ih=>exact ih P h w
 |load m b k ih=>simp[cd]at h
 |store m b v k ih=>simp[cd]at h
 |new o k ih=>simp[cd]at h
 |shape r k ih=>simp[cd]at h
 |freeze b n k ih=>simp[cd]at h
 |frozen b k ih=>simp[cd]at h
 |getObj r k ih=>simp[cd]at h
 |setObj r o k ih=>simp[cd]at h
 |choose q k ih=>simp[cd]at h
 |sys c k ih=>simp[cd]at h
 |mark m k ih=>simp[cd]at h
 |halt x=>simp[cd]at h
def aA(R:ak.Fr)(o:ap):ae:=
 match o with
 |.tmp t=>cR R t
 |.const v=>v
 |.global g=>.pointer (some ⟨g,0,none⟩)
 |.func f=>.func (.func f) #[] #[]
def Dx{nt:Nat}{ng:List Nat}{σ:cV}{R:ak.Fr}{a:aV}(hR:dS nt σ R a.tmps)(hG:tx σ ng){o:ap}(ho:mB nt ng o=true):VR σ (aA R o) (a.eval o):=by
 cases o with
 |tmp t=>exact hR.2 t (by simpa[mB]using ho)
 |const v=>exact hX ho
 |global g=>obtain⟨e,he⟩:=hG g (qh.1 ho);have:=VR.ptr (σ:=σ) ⟨g,0,none⟩ _ he rfl;simpa[aA,Act.eval]using this
 |func f=>exact .func _ _ _ _ _ _ (.func f) rfl (λi v v' h=>by simp at h) rfl (λi v v' h=>by simp at h)
def vD:Option Next->Option ae
 |some (.value v)=>some v
 |_=>none
def sK:Op->Bool
 |.select .. =>false
 |_=>true
def ic(P:ah)(R:ak.Fr)(o:ao):Option ae:=
 if sK o.op&&o.op.operands.toList.all (λx=>bI (aA R x))then
  match vD (cd P (execOp (aA R) o))with
  |some v=>if bI v then some v else none
  |none=>none
 else none
def Na{P:ah}{σ:cV}{R:ak.Fr}{ρ:ap->ae}{o:ao}{v:ae}(h:ic P R o=some v)
 (hρ:∀x∈o.op.operands,VR σ (aA R x) (ρ x))(w:aq):(execOp ρ o).run P w=.ok (.value v) w/\VR σ v v:=by
 unfold ic at h;split at h
 ·rename_i hc;simp only[bB,cr]at hc;obtain⟨hns,mq⟩:=hc;have adN:execOp (aA R) o=execOp ρ o:=execOp_congr o (λcs b e=>by rw[e]at hns;simp[sK]at hns) (λx hx=>(eS (mq x (by simpa using hx)) (hρ x hx)).symm);rw[adN]at h;split at h
  ·rename_i u hu;split at h
   ·rename_i hp;injection h with h;subst h;cases hr:cd P (execOp ρ o)with
    |none=>rw[hr]at hu;cases hu
    |some nx=>rw[hr]at hu;cases nx<;>first|(simp only[vD]at hu;injection hu with hu;subst hu;exact⟨nP _ hr w,hX hp⟩)|(simp[vD]at hu)
   ·cases h
  ·cases h
 ·cases h
def AR(σ:cV)(a a':Array ae):Prop:=LR σ a.toList a'.toList
def AR.size{σ:cV}{a a':Array ae}(h:AR σ a a'):a.size=a'.size:=by have:=h.1;simpa using this
def AR.set{σ:cV}{a a':Array ae}(h:AR σ a a')(n:Nat){x x':ae}(hx:VR σ x x'):AR σ (a.setIfInBounds n x) (a'.setIfInBounds n x'):=by unfold AR;simp only[ED];exact LR.set h n hx
def Sv{σ:cV}(off:Nat):∀(l l':List ae) (k:Nat) (a a':Array ae),LR σ l l'->AR σ a a'->
 AR σ ((l.zipIdx k).foldl (λcs p=>cs.setIfInBounds (off+p.2) p.1) a) ((l'.zipIdx k).foldl (λcs p=>cs.setIfInBounds (off+p.2) p.1) a'):=by
 intro l;induction l with
 |nil=>intro l' k a a' h ha;have:=h.of_nil;subst this;exact ha
 |cons v l ih=>intro l' k a a' h ha;obtain⟨v',TU,rfl,hv,hl⟩:=h.of_cons;simp only[List.zipIdx_cons,List.foldl_cons];exact ih TU (k+1) _ _ hl (ha.set _ hv)
def PR(σ:cV)(ps Wu:List (Nat×ae)):Prop:=ps.length=Wu.length/\∀(i:Nat) (p p':Nat×ae),ps[i]? =some p->Wu[i]? =some p'->p.1=p'.1/\VR σ p.2 p'.2
def PR.of_cons{σ:cV}{p:Nat×ae}{l m:List (Nat×ae)}(h:PR σ (p::l) m):∃v' l',m=(p.1,v')::l'/\VR σ p.2 v'/\PR σ l l':=by
 cases m with
 |nil=>have:=h.1;simp at this
 |cons q l'=>have h0:=h.2 0 p q (by simp) (by simp);refine⟨q.2,l',?_,h0.2,by have:=h.1;simpa using this,λi u u' a b=>h.2 (i+1) u u' (by simpa using a) (by simpa using b)⟩;rw[h0.1]
def vf{σ:cV}(nk:Nat->Option (Nat×Nat)):∀(ps Wu:List (Nat×ae)) (a a' YW:Array ae),PR σ ps Wu->AR σ a a'->Instr.fill nk a ps=some YW->
 ∃wW,Instr.fill nk a' Wu=some wW/\AR σ YW wW:=by
 intro ps;induction ps with
 |nil=>
  intro Wu a a' YW h ha hf;have:Wu=[]:=by have:=h.1;simp at this;exact rO this.symm
  subst this;simp only[Instr.fill]at hf|-;injection hf with hf;subst hf;exact⟨a',rfl,ha⟩
 |cons p ps ih=>
  intro Wu a a' YW h ha hf;obtain⟨v',l',rfl,hv,hl⟩:=h.of_cons;obtain⟨i,v⟩:=p;simp only[Instr.fill]at hf|-;cases hp:nk i with
  |none=>rw[hp]at hf;cases hf
  |some os=>
   obtain⟨off,size⟩:=os;rw[hp]at hf;simp only at hf|-;have nK:v.cells.size=v'.cells.size:=by have:=hv.cells.1;simpa using this
   rw[<-nK,<-ha.size];split at hf
   ·cases hf
   ·rename_i pi;rw[ay pi];refine ih l' _ _ YW hl ?_ hf;have:=Sv off v.cells.toList v'.cells.toList 0 a a' hv.cells ha;have e1:∀(u:ae) (b:Array ae),Array.foldl (λcs (x:ae×Nat)=>cs.setIfInBounds (off+x.2) x.1) b u.cells.zipIdx=(u.cells.toList.zipIdx 0).foldl (λcs p=>cs.setIfInBounds (off+p.2) p.1) b:=λu b=>by rw[<-Array.foldl_toList,Array.toList_zipIdx]
    rw[<-e1,<-e1]at this;exact this
section
variable {P:ah} {σ:cV} {W:AW} {w:aq}
def jK(P:ah)(t:ai):Option ae:=match(P.info? t).bind (·.zero)with|some z=>if z.cells.toList.all cJ then some z else none|none=>none
def fS{t:ai}{z:ae}(h:jK P t=some z)(w:aq):(zeroValue t).run P w=.ok z w/\z.cells.toList.all cJ=true:=by
 unfold jK at h;split at h
 ·rename_i z0 hz;split at h
  ·rename_i hs;injection h with h;subst h;cases hi:P.info? t with
   |none=>rw[hi]at hz;cases hz
   |some i=>rw[hi]at hz;simp only[bq]at hz;exact⟨by simp[zeroValue,typeInfo,hi,hz],hs⟩
  ·cases h
 ·cases h
def z7{z:ae}(h:z.cells.toList.all cJ=true):AR σ z.cells z.cells:=LR.kG (λ_=>ei) h
def mF(R:ak.Fr)(ps:Array (Nat×ap)):List (Nat×ae):=ps.toList.map λp=>(p.1,aA R p.2)
def w3{R:ak.Fr}{ρ:ap->ae}(ps:Array (Nat×ap))(h:∀p∈ps.toList,VR σ (aA R p.2) (ρ p.2)):
 PR σ (mF R ps) (ps.map λ(i,x)=>(i,ρ x)).toList:=by
 refine⟨by simp[mF],λi p p' a b=>?_⟩;simp only[mF,jf,Array.toList_map]at a b;cases hq:ps.toList[i]? with
 |none=>rw[hq]at a;cases a
 |some q=>rw[hq]at a b;simp at a b;subst a;subst b;exact⟨rfl,h q (oA hq)⟩
def oU(P:ah):List Field->Option (List (Nat×Nat))
 |[]=>some []
 |f::fs=>match kv P f.type,oU P fs with
  |some n,some l=>some ((f.offset,n)::l)
  |_,_=>none
def Er:∀(fs:List Field) (l:List (Nat×Nat)),oU P fs=some l->∀w,((fs.mapM λf=>do pure (f.offset,<-sizeOf f.type)):Sem (List (Nat×Nat))).run P w=.ok l w:=by
 intro fs;induction fs with
 |nil=>intro l h w;simp only[oU]at h;injection h with h;subst h;simp[List.mapM_nil]
 |cons f fs ih=>
  intro l h w;simp only[oU]at h;split at h
  ·rename_i n m hn hm;injection h with h;subst h;have h2:=ih m hm w;simp only[List.mapM_cons,ch,bz hn,b8,ff,h2]
  ·cases h
def yW(vs:List ae):List ae->Option (List ae):=
 List.rec (motive:=λ_=>List ae->Option (List ae)) (λcs=>some cs)
  (λv _ ih cs=>List.rec (motive:=λ_=>Option (List ae)) none (λ_ t _=>Option.rec (motive:=λ_=>Option (List ae)) none (λr=>some (v::r)) (ih t)) cs) vs
def HQ(vs:List ae):∀cs,yW vs cs=if vs.length<=cs.length then some (vs++cs.drop vs.length)else none:=by
 induction vs with
 |nil=>intro cs;simp[yW]
 |cons v vs ih=>
  intro cs;cases cs with
  |nil=>simp[yW]
  |cons c t=>
   show Option.rec (motive:=λ_=>Option (List ae)) none (λr=>some (v::r)) (yW vs t)=_;rw[ih t];by_cases h:vs.length<=t.length
   ·rw[ax h,ax (by simp only[dG];omega)];simp
   ·rw[ay h,ay (by simp only[dG];omega)]
def ET(cs:List ae):Nat->List ae->Option (List ae):=
 List.rec (motive:=λ_=>Nat->List ae->Option (List ae)) (λn vs=>Nat.rec (motive:=λ_=>Option (List ae)) (yW vs []) (λ_ _=>none) n)
  (λc t ih n vs=>Nat.rec (motive:=λ_=>Option (List ae)) (yW vs (c::t)) (λm _=>Option.rec (motive:=λ_=>Option (List ae)) none (λr=>some (c::r)) (ih m vs)) n) cs
def JG(cs:List ae):∀(off:Nat) (vs:List ae),ET cs off vs=if off+vs.length<=cs.length then some (fN cs off vs)else none:=by
 induction cs with
 |nil=>
  intro off vs;cases off with
  |zero=>show yW vs []=_;rw[HQ];simp[fN]
  |succ n=>show(none:Option (List ae))=_;rw[ay (by simp)]
 |cons c t ih=>
  intro off vs;cases off with
  |zero=>show yW vs (c::t)=_;rw[HQ];simp[fN]
  |succ n=>
   show Option.rec (motive:=λ_=>Option (List ae)) none (λr=>some (c::r)) (ET t n vs)=_;rw[ih n vs];have e:n+1+vs.length=(n+vs.length)+1:=by omega
   by_cases h:n+vs.length<=t.length
   ·rw[ax h,ax (by simp only[dG];omega)];simp[fN,e]
   ·rw[ay h,ay (by simp only[dG];omega)]
def Pu(cs:List ae)(o:Nat)(v:ae)(vs:List ae)(h:o+(vs.length+1)<=cs.length):fN (cs.set o v) (o+1) vs=fN cs o (v::vs):=by
 unfold fN;apply tY;intro i;rw[jX _ _ _ (by rw[nf];omega),jX _ _ _ (by simp only[dG];omega)];by_cases h1:i=o
 ·subst h1;rw[bZ,ax (by simp only[dG];omega),rH];simp;omega
 ·by_cases h2:o+1<=i/\i<o+1+vs.length
  ·rw[ax h2,ax (by simp only[dG];omega)];obtain⟨k,rfl⟩:∃k,i=o+1+k:=⟨i-(o+1),by omega⟩;rw[show o+1+k-(o+1)=k by omega,show o+1+k-o=k+1 by omega,BV]
  ·rw[ay h2,ay (by simp only[dG];omega),rH,ay (λe=>h1 e.symm)]
def Dg(off:Nat):∀(vs:List ae) (k:Nat) (cells:Array ae),off+k+vs.length<=cells.size->
 (List.foldl (λ(cs:Array ae) (p:ae×Nat)=>cs.setIfInBounds (off+p.2) p.1) cells (vs.zipIdx k)).toList=fN cells.toList (off+k) vs
 |[],k,cells,_=>by simp[fN]
 |v::vs,k,cells,h=>by rw[List.zipIdx_cons,List.foldl_cons,Dg off vs (k+1) _ (by simp only[Array.size_setIfInBounds];simp only[dG]at h;omega)];rw[ED];exact Pu _ _ _ _ (by simp only[dG]at h;simp;omega)
def Df(nk:Nat->Option (Nat×Nat)):List (Nat×ae)->List ae->Option (List ae)
 |[],cells=>some cells
 |(i,v)::ij,cells=>match nk i with
  |none=>none
  |some (off,size)=>match Nat.beq v.cells.size size with
   |true=>(match ET cells off v.cells.toList with
    |some c=>Df nk ij c
    |none=>none)
   |false=>none
def yz(nk:Nat->Option (Nat×Nat))(cells:Array ae)(l:List (Nat×ae)):Option (Array ae):=(Df nk l cells.toList).map List.toArray
def Cb(nk:Nat->Option (Nat×Nat)):∀(l:List (Nat×ae)) (cells:Array ae),yz nk cells l=Instr.fill nk cells l
 |[],cells=>by simp[yz,Df,Instr.fill]
 |(i,v)::ij,cells=>by
  unfold Instr.fill;show(Df nk ((i,v)::ij) cells.toList).map List.toArray=_;unfold Df;cases nk i with
  |none=>rfl
  |some p=>
   obtain⟨off,size⟩:=p;simp only;by_cases hs:v.cells.size=size
   ·have hb:Nat.beq v.cells.size size=true:=by rw[dW];exact hs
    rw[hb];simp only;rw[JG];by_cases hl:off+v.cells.size<=cells.size
    ·rw[ax (by simpa using hl),ay (by simp[hs];omega)];simp only;rw[<-Cb nk ij];show _=(Df nk ij _).map List.toArray;congr 2;have hf:=Dg off v.cells.toList 0 cells (by simpa using hl);rw[ce]at hf;rw[<-hf,<-Array.foldl_toList,Array.toList_zipIdx]
    ·rw[ay (by simpa using hl),ax (by simp[hs];omega)];rfl
   ·have hb:Nat.beq v.cells.size size=false:=by
     cases hq:Nat.beq v.cells.size size with
     |false=>rfl
     |true=>exact absurd (w9 hq) hs
    rw[hb,ax (by simp[hs])];rfl
def uc(P:ah)(R:ak.Fr)(t:ai)(ps:Array (Nat×ap)):Option ae:=
 match jK P t,P.underlying t with
 |some z,some (.struct fs)=>match oU P fs.toList with
  |some pl=>(yz (pl.toArray[·]?) z.cells (mF R ps)).map .agg
  |none=>none
 |some z,some (.array _ e)=>match kv P e with
  |some n=>(yz (λi=>some (i*n,n)) z.cells (mF R ps)).map .agg
  |none=>none
 |_,_=>none
def JO{R:ak.Fr}{ρ:ap->ae}{t:ai}{ps:Array (Nat×ap)}{v:ae}(h:uc P R t ps=some v)
 (hρ:∀p∈ps.toList,VR σ (aA R p.2) (ρ p.2))(w:aq):
 ∃v',(Instr.build t (ps.map λ(i,x)=>(i,ρ x))).run P w=.ok v' w/\VR σ v v':=by
 have hp:=w3 (σ:=σ) (R:=R) (ρ:=ρ) ps hρ;unfold uc at h;simp only[Cb]at h;split at h
 ·rename_i z fs hz hu;obtain⟨wK,zJ⟩:=fS hz w;split at h
  ·rename_i pl mq;cases hf:Instr.fill (pl.toArray[·]?) z.cells (mF R ps)with
   |none=>rw[hf]at h;cases h
   |some YW=>
    rw[hf]at h;simp only[cD,fI]at h;subst h;obtain⟨wW,h1,h2⟩:=vf _ _ _ _ _ _ hp (z7 zJ) hf;have hm:=Er fs.toList pl mq w;refine⟨.agg wW,?_,VR.Kg h2⟩;have hm':((fs.mapM λf=>do pure (f.offset,<-sizeOf f.type)):Sem (Array (Nat×Nat))).run P w=.ok pl.toArray w:=by rw[Array.mapM_eq_mapM_toList];simp only[Sem.run_map,hm,b8]
    simp only[Instr.build,ch,wK,b8,bJ hu,hm',h1,ff]
  ·cases h
 ·rename_i z len e hz hu;obtain⟨wK,zJ⟩:=fS hz w;split at h
  ·rename_i n hn;cases hf:Instr.fill (λi=>some (i*n,n)) z.cells (mF R ps)with
   |none=>rw[hf]at h;cases h
   |some YW=>rw[hf]at h;simp only[cD,fI]at h;subst h;obtain⟨wW,h1,h2⟩:=vf _ _ _ _ _ _ hp (z7 zJ) hf;exact⟨.agg wW,by simp only[Instr.build,ch,wK,b8,bJ hu,bz hn,h1,ff],VR.Kg h2⟩
  ·cases h
 ·cases h
def EQ(z:ae)(n:Nat):Array ae:=(Array.range n).map (z.cells[· % z.cells.size]!)
def iL(z:ae)(n:Nat):Array ae:=if n=0 then#[]else EQ z n
def pO{z:ae}{n:Nat}(h:n=0):iL z n=#[]:=ax h
def s8{z:ae}{n:Nat}(h:n≠0):iL z n=EQ z n:=ay h
def lZ(P:ah)(R:ak.Fr)(W:AW)(t:ai)(len:Nat)(ps:Array (Nat×ap)):Option (ae×AW):=
 match P.underlying t with
 |some (.slice e)=>match kv P e,jK P e with
  |some n,some z=>
   if len*n<=16777216/\len<ge/\(iL z (len*n)).toList.all cJ=true then
    match Instr.fill (λi=>some (i*n,n)) (iL z (len*n)) (mF R ps)with
    |some c=>some (W.new (.cells c.toList) λb W'=>(Value.slice (some ⟨b,0,none⟩) len len,W'))
    |none=>none
   else none
  |_,_=>none
 |_=>none
def yX(cs:List ae)(len:Nat):List ae:=Nat.rec (motive:=λ_=>List ae) [] (λ_ ih=>cs++ih) len
def FM(cs:List ae):∀(len i:Nat),i<len*cs.length->(yX cs len)[i]? =cs[i % cs.length]?
 |0,i,h=>by simp at h
 |len+1,i,h=>by
  show(cs++yX cs len)[i]? =_;by_cases hi:i<cs.length
  ·rw[uo hi,Nat.mod_eq_of_lt hi]
  ·have h1:len*cs.length+cs.length=(len+1)*cs.length:=by rw[Nat.add_mul,Nat.one_mul]
   rw[ig (by omega),FM cs len (i-cs.length) (by omega)];congr 1;have h2:i=(i-cs.length)+cs.length:=by omega
   generalize i-cs.length=j at h2;rw[h2,Nat.add_mod_right]
def rF(cs:List ae):∀len,(yX cs len).length=len*cs.length
 |0=>by show([]:List ae).length=_;simp
 |len+1=>by show(cs++yX cs len).length=_;rw[cm,rF cs len,Nat.add_mul,Nat.one_mul,Nat.add_comm]
def Bc(cs:List ae)(p:ae->Bool)(h:cs.all p=true):∀len,(yX cs len).all p=true
 |0=>rfl
 |len+1=>by show(cs++yX cs len).all p=true;rw[List.all_append,h,Bc cs p h len];rfl
def H2{z:ae}{len n:Nat}(hn:z.cells.size=n):iL z (len*n)=(yX z.cells.toList len).toArray:=by
 have hl:z.cells.toList.length=n:=by simpa using hn
 apply Array.ext';apply tY;intro i;unfold iL;split
 ·rename_i h0;have:(yX z.cells.toList len).length=0:=by rw[rF,hl,h0]
  rw[jz.1 this]
 ·rename_i h0;by_cases hi:i<len*n
  ·have e1:(EQ z (len*n)).toList[i]? =some (z.cells[i % z.cells.size]!):=by simp[EQ,hi]
   have xq:0<n:=by
    rcases Nat.eq_zero_or_pos n with h|h
    ·subst h;simp at h0
    ·exact h
   have hm:i % n<z.cells.size:=by rw[hn];exact Nat.mod_lt _ xq
   rw[e1,zC,FM _ _ _ (by rw[hl];exact hi),hl,hn];simp[hm]
  ·rw[pH (by simp[EQ];omega),zC,pH (by rw[rF,hl];omega)]
def jl(P:ah)(R:ak.Fr)(W:AW)(t:ai)(len:Nat)(ps:Array (Nat×ap)):Option (ae×AW):=
 match P.underlying t with
 |some (.slice e)=>match kv P e,jK P e with
  |some n,some z=>
   if len*n<=16777216/\len<ge/\(Nat.beq z.cells.size n&&z.cells.toList.all cJ)=true then
    match yz (λi=>some (i*n,n)) (yX z.cells.toList len).toArray (mF R ps)with
    |some c=>some (W.new (.cells c.toList) λb W'=>(Value.slice (some ⟨b,0,none⟩) len len,W'))
    |none=>none
   else none
  |_,_=>none
 |_=>none
def qw{P:ah}{R:ak.Fr}{W:AW}{t:ai}{len:Nat}{ps:Array (Nat×ap)}{r:ae×AW}(h:jl P R W t len ps=some r):lZ P R W t len ps=some r:=by
 unfold jl at h;simp only[Cb]at h;unfold lZ;revert h;generalize P.underlying t=u;intro h;split at h
 ·rename_i e;revert h;generalize kv P e=x;generalize jK P e=y;intro h;split at h
  ·rename_i n z;split at h
   ·rename_i hc;obtain⟨hc1,N8,Qu⟩:=hc;rw[bB,dW]at Qu;have Qx:=H2 (len:=len) Qu.1;try simp only
    rw[Qx,ax ⟨hc1,N8,by rw[zC];exact Bc _ _ Qu.2 _⟩];exact h
   ·cases h
  ·cases h
 ·cases h
def zx(hW:bg σ W w.heap){R:ak.Fr}{ρ:ap->ae}{t:ai}{len:Nat}{ps:Array (Nat×ap)}{v:ae}{W':AW}
 (h:jl P R W t len ps=some (v,W'))(hρ:∀p∈ps.toList,VR σ (aA R p.2) (ρ p.2)):
 ∃σ' v' w',(Instr.buildSlice t len (ps.map λ(i,x)=>(i,ρ x))).run P w=.ok v' w'/\VR σ' v v'/\bg σ' W' w'.heap/\eB σ W w σ' W' w':=by
 have hp:=w3 (σ:=σ) (R:=R) (ρ:=ρ) ps hρ;replace h:=qw h;unfold lZ at h;split at h
 ·rename_i e hu;split at h
  ·rename_i n z hn hz;obtain⟨wK,zJ⟩:=fS hz w;split at h
   ·rename_i hc;obtain⟨hc1,N8,Qu⟩:=hc;split at h
    ·rename_i c hf;injection h with h;rw[AW.dj]at h;injection h with hv hw;obtain⟨wW,h1,h2⟩:=vf _ _ _ _ _ _ hp (LR.kG (σ:=σ) (λ_=>ei) Qu) hf;have yH:=uE (P:=P) hW e (cs:=c.toList) (cz:=wW.toList) h2;refine⟨_,.slice (some ⟨w.heap.size,0,none⟩) len len,{w with heap:=w.heap.push (.cells wW.toList.toArray e)},?_,?_,by rw[<-hw];exact yH.2.2.1,by rw[<-hw];exact yH.2.2.2⟩
     ·show(Instr.buildSlice t len _).run P w=.ok (.slice (some ⟨w.heap.size,0,none⟩) len len) _;have Sk:¬len*n>2^ 24:=by omega
      have Fe:=yH.1;simp only[gi]at Fe;by_cases h0:len*n=0
      ·rw[pO h0]at h1;simp only[Instr.buildSlice,ch,bJ hu,b8,bz hn,ay Sk,ff,ax h0];rw[show(Array.map (λx=>(#[]:Array ae)[x % (#[]:Array ae).size]!) (Array.range (len*n)))=#[]by rw[h0];simp,h1];simp[Fe]
      ·rw[s8 h0]at h1;simp only[Instr.buildSlice,ch,bJ hu,b8,bz hn,ay Sk,ff,ay h0,wK];rw[show(Array.map (λx=>z.cells[x % z.cells.size]!) (Array.range (len*n)))=EQ z (len*n)from rfl,h1];simp[Fe]
     ·rw[<-hv];have:=VR.slice (σ:=bR σ W.next ⟨w.heap.size,0,c.toList.length⟩) ⟨W.next,0,none⟩ len len len _ yH.2.1 rfl (.known len N8);simpa using this
    ·cases h
   ·cases h
  ·cases h
 ·cases h
def kq(P:ah)(W:AW)(t:ai)(l c:ae):Option (ae×AW):=
 match P.underlying t with
 |some (.slice e)=>match kv P e,jK P e,(P.info? e).map (·.bytes),l,c with
  |some n,some z,some bytes,.int _ (.ofNat l),.int _ (.ofNat c)=>
   if l<=c/\c<9223372036854775808/\c*bytes<=281474976710656/\(iL z (c*n)).toList.all cJ=true then
    some (W.new (.cells (iL z (c*n)).toList) λb W'=>(Value.slice (some ⟨b,0,none⟩) l c,W'))
   else none
  |_,_,_,_,_=>none
 |_=>none
def vV{n:Nat}(h:n<9223372036854775808):IntKind.i64.wrap (n:Int)=n:=by
 have e1:IntKind.i64.bits=64:=rfl;have e2:IntKind.i64.signed=true:=rfl;simp only[IntKind.wrap,e1,e2];have:(n:Int) % (2^ 64:Int)=n:=by omega
 rw[this];simp;omega
def Co(hW:bg σ W w.heap){t:ai}{l l' c c':ae}{v:ae}{W':AW}
 (h:kq P W t l c=some (v,W'))(hl:VR σ l l')(hc:VR σ c c'):
 ∃σ' v' w',(Instr.makeSlice t l' c').run P w=.ok v' w'/\VR σ' v v'/\bg σ' W' w'.heap/\eB σ W w σ' W' w':=by
 unfold kq at h;split at h
 ·rename_i e hu;split at h
  ·rename_i n z bytes kl l kc c hn hz hb;cases hl;cases hc;obtain⟨wK,zJ⟩:=fS hz w;split at h
   ·rename_i pi;obtain⟨c1,c2,c3,c4⟩:=pi;injection h with h;rw[AW.dj]at h;injection h with hv hw;have hi:∃i,P.info? e=some i/\i.bytes=bytes:=by
     cases hi:P.info? e with
     |none=>rw[hi]at hb;cases hb
     |some i=>rw[hi]at hb;simp at hb;exact⟨i,rfl,hb⟩
    obtain⟨i,hi,Td⟩:=hi;have Qx:LR σ (iL z (c*n)).toList (iL z (c*n)).toList:=
     LR.kG (λ_=>ei) c4
    have yH:=uE (P:=P) hW e Qx;refine⟨_,.slice (some ⟨w.heap.size,0,none⟩) l c,{w with heap:=w.heap.push (.cells (iL z (c*n)).toList.toArray e)},?_,?_,by rw[<-hw];exact yH.2.2.1,by rw[<-hw];exact yH.2.2.2⟩
    ·show(Instr.makeSlice t _ _).run P w=.ok (.slice (some ⟨w.heap.size,0,none⟩) l c) _;have hwl:IntKind.i64.wrap (Int.ofNat l)=(l:Int):=vV (by omega);have hwc:IntKind.i64.wrap (Int.ofNat c)=(c:Int):=vV c2;have Ci:(typeInfo e).run P w=.ok i w:=by simp[typeInfo,hi]
     have aeZ:(bytes:Int)*(c:Int)<=281474976710656:=by
      have:((c*bytes:Nat):Int)<=281474976710656:=by omega
      rw[Int.natCast_mul,Int.mul_comm]at this;exact this
     have Fe:=yH.1;simp only[gi]at Fe;have Ja:¬(((decide ((c:Int)<0)||decide ((i.bytes:Int)*(c:Int)>2^ 48))||decide ((l:Int)<0)||decide ((l:Int)>(c:Int)))=true):=by rw[Td];simp;omega
     simp only[Instr.makeSlice,ch,bJ hu,b8,asInt,asIntOf,ff,Ci,hwl,hwc];rw[ay (by simpa using Ja)];by_cases h0:c*n=0
     ·rw[pO h0]at Fe|-;simp only[ch,run_askRoom,b8,ot,bz hn,ax h0,ff];rw[show(Array.map (λx=>(#[]:Array ae)[x % (#[]:Array ae).size]!) (Array.range (c*n)))=#[]by rw[h0];simp,Fe];simp
     ·rw[s8 h0]at Fe|-;simp only[ch,run_askRoom,b8,ot,bz hn,ay h0,wK,ff];rw[show(Array.map (λx=>z.cells[x % z.cells.size]!) (Array.range (c*n)))=EQ z (c*n)from rfl,Fe];simp
    ·rw[<-hv];have:=VR.slice (σ:=bR σ W.next ⟨w.heap.size,0,(iL z (c*n)).toList.length⟩) ⟨W.next,0,none⟩ l c c _ yH.2.1 rfl (.known c (by unfold ge;omega));simpa using this
   ·cases h
  ·cases h
 ·cases h
end
end
section
variable [ak]
def OR(σ:cV):Option ae->Option ae->Prop
 |none,none=>True
 |some v,some v'=>VR σ v v'
 |_,_=>False
def lh:ae->Option Nat
 |.int _ (.ofNat n)=>some n
 |_=>none
def gj(v:Option ae)(d:Nat):Option Nat:=match v with|none=>some d|some v=>lh v
def sJ{σ:cV}{v v':ae}{n:Nat}(h:lh v=some n)(hv:VR σ v v'):∃k,v'=.int k (n:Int):=by
 unfold lh at h;split at h
 ·injection h with h;subst h;cases hv;exact⟨_,rfl⟩
 ·cases h
section
variable {P:ah} {σ:cV} {W:AW} {w:aq}
def j4(k:aN)(n y:Nat)(qR:BoundsCode)(h:n<=y)(w:aq):(Instr.sliceBound (.int k (n:Int)) y qR).run P w=.ok n w:=by
 have:0<=(n:Int)/\(n:Int)<=(y:Int):=by omega
 simp[Instr.sliceBound,asIntOf,this]
def lD(sl:Bool)(len cap:Nat){lo hi mx lo' oI mx':Option ae}{l h m:Nat}(h1:OR σ lo lo')(h2:OR σ hi oI)(h3:OR σ mx mx')
 (hl:gj lo 0=some l)(hh:gj hi len=some h)(hm:gj mx cap=some m)(hmx:mx.isSome=true->hi.isSome=true)
 (a1:l<=h)(a2:hi.isSome=true->h<=m)(a3:m<=cap)(w:aq):(Instr.sliceBounds sl len cap lo' oI mx').run P w=.ok (l,h,m) w:=by
 have one:∀{v v':Option ae} {d n:Nat},OR σ v v'->gj v d=some n->(v=none/\v'=none/\n=d)\/(v.isSome=true/\∃k,v'=some (.int k (n:Int))):=by
  intro v v' d n ho hb;cases v with
  |none=>cases v' with
   |none=>simp only[gj]at hb;injection hb with hb;exact .inl ⟨rfl,rfl,hb.symm⟩
   |some v'=>exact ho.elim
  |some v=>cases v' with
   |none=>exact ho.elim
   |some v'=>obtain⟨k,rfl⟩:=sJ hb ho;exact .inr ⟨rfl,k,rfl⟩
 have hA:∀k qR,(Instr.sliceBound (.int k (m:Int)) cap qR).run P w=.ok m w:=λk qR=>j4 k m cap qR a3 w
 have hC:∀k qR,(Instr.sliceBound (.int k (l:Int)) h qR).run P w=.ok l w:=λk qR=>j4 k l h qR a1 w
 rcases one h3 hm with⟨e1,rfl,e3⟩|⟨e1,k3,rfl⟩
 ·subst e3;rcases one h2 hh with⟨f1,rfl,f3⟩|⟨f1,k2,rfl⟩
  ·subst f3;rcases one h1 hl with⟨g1,rfl,g3⟩|⟨g1,k1,rfl⟩
   ·subst g3;simp[Instr.sliceBounds]
   ·simp[Instr.sliceBounds,hC]
  ·have hB:∀qR,(Instr.sliceBound (.int k2 (h:Int)) m qR).run P w=.ok h w:=λqR=>j4 k2 h m qR (a2 f1) w
   rcases one h1 hl with⟨g1,rfl,g3⟩|⟨g1,k1,rfl⟩
   ·subst g3;simp[Instr.sliceBounds,hB]
   ·simp[Instr.sliceBounds,hB,hC]
 ·rcases one h2 hh with⟨f1,rfl,f3⟩|⟨f1,k2,rfl⟩
  ·subst f1;exact absurd (hmx e1) (by simp)
  ·have hB:∀qR,(Instr.sliceBound (.int k2 (h:Int)) m qR).run P w=.ok h w:=λqR=>j4 k2 h m qR (a2 f1) w
   rcases one h1 hl with⟨g1,rfl,g3⟩|⟨g1,k1,rfl⟩
   ·subst g3;simp[Instr.sliceBounds,hA,hB]
   ·simp[Instr.sliceBounds,hA,hB,hC]
def mD(P:ah)(t:ai)(x:ae)(lo hi mx:Option ae):Option ae:=
 match P.underlying t,x with
 |some (.slice e),.slice (some a) len cap=>
  match kv P e,gj lo 0,gj hi len with
  |some z,some l,some h=>
   if l<=h then
    match mx with
    |none=>
     if cap=ge+z/\0<z then(if h<=len then some (.slice (some (a.add (l*z))) (h-l) cap)else none)
     else if cap<ge/\h<=cap then some (.slice (some (if cap=l then a else a.add (l*z))) (h-l) (cap-l))else none
    |some mv=>match gj (some mv) 0 with
     |some m=>if hi.isSome=true/\h<=m/\m<ge/\((cap=ge+z/\0<z/\m<=len)\/(cap<ge/\m<=cap))then some (.slice (some (if m=l then a else a.add (l*z))) (h-l) (m-l))else none
     |none=>none
   else none
  |_,_,_=>none
 |some (.slice e),.slice none len cap=>
  match kv P e,gj lo 0,gj hi len,mx with
  |some _,some l,some h,none=>if l<=h/\h<=cap then some (.slice none (h-l) (cap-l))else none
  |_,_,_,_=>none
 |some (.array n e),.pointer (some a)=>
  match kv P e,gj lo 0,gj hi n,mx with
  |some z,some l,some h,none=>if l<=h/\h<=n/\n<ge then some (.slice (some (if n=l then a else a.add (l*z))) (h-l) (n-l))else none
  |_,_,_,_=>none
 |_,_=>none
def Ee.inv{g:rB}{off l c c':Nat}(h:Ee g off l c c'):(c<ge/\c'=c)\/∃z,0<z/\c=ge+z/\l<=c'/\g.s+off+c'*z=g.e:=by
 cases h with
 |known _ h=>exact .inl ⟨h,rfl⟩
 |open_ z _ hz hl h=>exact .inr ⟨z,hz,rfl,hl,h⟩
def Ee.max{g:rB}{off l c c':Nat}(h:Ee g off l c c'):c'<ge/\(ge<=c->c'<=maxLen):=by
 cases h with
 |known _ h=>exact⟨h,λx=>absurd x (by omega)⟩
 |open_ z _ hz hl h hb=>exact⟨by unfold maxLen at hb;unfold ge;omega,λ_=>hb⟩
def I4{t:ai}{x x' v:ae}{lo hi mx lo' oI mx':Option ae}(h:mD P t x lo hi mx=some v)(hx:VR σ x x')
 (h1:OR σ lo lo')(h2:OR σ hi oI)(h3:OR σ mx mx')(w:aq):∃v',(Instr.sliceAt t x' lo' oI mx').run P w=.ok v' w/\VR σ v v':=by
 unfold mD at h;split at h
 ·rename_i e a len cap hu;split at h
  ·rename_i z l hh hz yd hhi;split at h
   ·rename_i hlh;have run:∀(A':Option aP) (Au m:Nat),gj mx Au=some m->(mx.isSome=true->hi.isSome=true)->(hi.isSome=true->hh<=m)->m<=Au->
     (Instr.sliceAt t (.slice A' len Au) lo' oI mx').run P w=.ok (.slice (if m=l then A' else A'.map (·.add (l*z))) (hh-l) (m-l)) w:=by
     intro A' Au m b1 b2 b3 b4;have hb:=lD (P:=P) true len Au h1 h2 h3 yd hhi b1 b2 hlh b3 b4 w;simp only[Instr.sliceAt,ch,bJ hu,b8,Instr.slice,hb,bz hz,ff]
    cases mx with
    |none=>
     simp only at h;split at h
     ·rename_i qz;obtain⟨rfl,Nr⟩:=qz;split at h
      ·rename_i bi;injection h with h;subst h;cases hx with
       |slice _ _ _ c' g hg hs hc=>
        rcases hc.inv with⟨hk,_⟩|⟨z',wK,Yo,VI,ud⟩
        ·exact absurd hk (by omega)
        ·refine⟨_,run (some _) c' c' rfl (by simp) (λ_=>by omega) (aS _),?_⟩;by_cases yn:c'=l
         ·subst yn;have:hh-c'=0:=by omega
          rw[this,Nat.sub_self,ax rfl];exact .di _ _ _ g (by simpa[fM]using hg) (.inr (by omega))
         ·rw[ay yn];simp only[cD,dy];have agl:z=z':=by omega
          subst agl;have:=VR.slice (σ:=σ) (a.add (l*z)) (hh-l) (ge+z) (c'-l) g (by rw[fM];exact hg) (mT _ _ hs)
           (by rw[nA];refine .open_ z _ Nr (by omega) ?_ (fL (Nat.sub_le _ _) (hc.max.2 (by omega)));rw[Nat.sub_mul];have:l*z<=c'*z:=ut _ (by omega);omega)
          rw[nA]at this;simpa[lH]using this
       |di _ a' _ g hg hc=>
        have Ke:hh=0:=by omega
        have FK:l=0:=by omega
        subst Ke;subst FK;refine⟨_,run (some a') 0 0 rfl (by simp) (λ_=>by omega) (aS _),?_⟩;simp only[bk];exact .di _ _ _ g (by simpa[fM]using hg) (.inr (by omega))
      ·cases h
     ·split at h
      ·rename_i uK oB;injection h with h;subst h;cases hx with
       |slice _ _ _ c' g hg hs hc=>
        rcases hc.inv with⟨hk,rfl⟩|⟨z',wK,Yo,VI,ud⟩
        ·refine⟨_,run (some _) c' c' rfl (by simp) (λ_=>oB.2) (aS _),?_⟩;by_cases yn:c'=l
         ·subst yn;simp only[bk];exact .slice a _ _ _ g hg hs (.known _ (by omega))
         ·rw[ay yn,ay yn];simp only[cD,dy];have:=VR.slice (σ:=σ) (a.add (l*z)) (hh-l) (c'-l) (c'-l) g (by rw[fM];exact hg) (mT _ _ hs) (.known _ (by omega));rw[nA]at this;simpa[lH]using this
        ·exact absurd oB.1 (by omega)
       |di _ a' _ g hg hc=>
        have UF:cap=0:=by omega
        subst UF;have Ke:hh=0:=by omega
        have FK:l=0:=by omega
        subst Ke;subst FK;refine⟨_,run (some a') 0 0 rfl (by simp) (λ_=>by omega) (aS _),?_⟩;simp only[bk];exact .di _ _ _ g (by simpa[fM]using hg) (.inl rfl)
      ·cases h
    |some mv=>
     simp only at h;split at h
     ·rename_i m hm;split at h
      ·rename_i pi;obtain⟨c1,c2,c3,c4⟩:=pi;injection h with h;subst h;cases hx with
       |slice _ _ _ c' g hg hs hc=>
        have hmc:m<=c':=by rcases hc.inv with⟨hk,_⟩|⟨z',wK,Yo,VI,ud⟩<;>omega
        refine⟨_,run (some _) c' m hm (λ_=>c1) (λ_=>c2) hmc,?_⟩;by_cases yn:m=l
        ·subst yn;simp only[bk];exact .slice a _ _ _ g hg hs (.known _ (by omega))
        ·rw[ay yn,ay yn];simp only[cD,dy];have:=VR.slice (σ:=σ) (a.add (l*z)) (hh-l) (m-l) (m-l) g (by rw[fM];exact hg) (mT _ _ hs) (.known _ (by omega));rw[nA]at this;simpa[lH]using this
       |di _ a' _ g hg hc=>
        have hm0:m=0:=by omega
        subst hm0;have Ke:hh=0:=by omega
        have FK:l=0:=by omega
        subst Ke;subst FK;refine⟨_,run (some a') 0 0 hm (λ_=>c1) (λ_=>by omega) (aS _),?_⟩;simp only[bk];exact .di _ _ _ g (by simpa[fM]using hg) (.inl rfl)
      ·cases h
     ·cases h
   ·cases h
  ·cases h
 ·rename_i e len cap hu;split at h
  ·rename_i z l hh hz yd hhi;split at h
   ·rename_i hc;injection h with h;subst h;cases hx;have hb:=lD (P:=P) (mx:=none) true len cap h1 h2 h3 yd hhi rfl (by simp) hc.1 (λ_=>hc.2) (aS _) w;refine⟨.slice none (hh-l) (cap-l),?_,.B9 _ _⟩;simp only[Instr.sliceAt,ch,bJ hu,b8,Instr.slice,hb,bz hz,ff];simp
   ·cases h
  ·cases h
 ·rename_i n e a hu;split at h
  ·rename_i z l hh hz yd hhi;split at h
   ·rename_i hc;injection h with h;subst h;cases hx with
    |ptr _ g hg hs=>
     have hb:=lD (P:=P) (mx:=none) false n n h1 h2 h3 yd hhi rfl (by simp) hc.1 (λ_=>hc.2.1) (aS _) w;refine⟨.slice (some (if n=l then⟨g.B,g.s+a.off,none⟩else(⟨g.B,g.s+a.off,none⟩:aP).add (l*z))) (hh-l) (n-l),?_,?_⟩
     ·simp only[Instr.sliceAt,ch,bJ hu,b8,Instr.sureAddr,ff,hb,bz hz]
     ·by_cases yn:n=l
      ·subst yn;simp only[bk];exact .slice a _ _ _ g hg hs (.known _ (by omega))
      ·rw[ay yn,ay yn];simp only[dy];have:=VR.slice (σ:=σ) (a.add (l*z)) (hh-l) (n-l) (n-l) g (by rw[fM];exact hg) (mT _ _ hs) (.known _ (by omega));rw[nA]at this;simpa[lH]using this
   ·cases h
  ·cases h
 ·cases h
end
end
section
variable [ak]
section
variable {P:ah} {σ:cV} {W:AW} {w w':aq}
def bg.Ft(h:bg σ W w.heap){b off:Nat}{o o':dO}{g:rB}(hb:W.get b=some o)(nS:∀cs,o≠ .ro cs)(hg:σ b=some g)
 (oJ:w'.heap.size=w.heap.size)(OS:w'.os=w.os)(RT:w'.tape=w.tape)(wT:w'.output=w.output)
 (iF:∀B,B≠g.B->w'.heap[B]? =w.heap[B]?)
 {c c':Array ae}{t:ai}(hc:w.heap[g.B]? =some (.cells c t (0,0)))(oN:w'.heap[g.B]? =some (.cells c' t (0,0)))(nK:c'.size=c.size)
 (sj:∀i,i<g.s+off\/g.e<=i->c'[i]? =c[i]?)
 (qr:kA (bR σ W.next ⟨g.B,g.s+off,g.e⟩) w'.heap ⟨g.B,g.s+off,g.e⟩ o'):
 bg (bR σ W.next ⟨g.B,g.s+off,g.e⟩) ((W.kill b).add o') w'.heap/\eB σ W w (bR σ W.next ⟨g.B,g.s+off,g.e⟩) ((W.kill b).add o') w':=by
 have Cz:=h.fresh;have hs:Sub σ (bR σ W.next ⟨g.B,g.s+off,g.e⟩):=dh Cz;have KZ:=h.np b g hg;have hk:∀c o,c≠W.next->((W.kill b).add o').get c=some o->c≠b/\W.get c=some o:=λc o hcn hx=>by
  rw[AW.bC _ _ (by rw[AW.dX];exact bL hcn)]at hx;by_cases Cs:c=b
  ·subst Cs;rw[AW.vH]at hx;cases hx
  ·rw[AW.dL _ (bL Cs)]at hx;exact⟨Cs,hx⟩
 have afm:((W.kill b).add o').get W.next=some o':=AW.a8 (W.kill b) _;have mE:∀c k,bR σ W.next ⟨g.B,g.s+off,g.e⟩ c=some k->(c=W.next/\k=⟨g.B,g.s+off,g.e⟩)\/(c≠W.next/\σ c=some k):=λc k hx=>by
  unfold bR at hx;split at hx
  ·rename_i he;injection hx with hx;exact .inl ⟨he,hx.symm⟩
  ·rename_i he;exact .inr ⟨he,hx⟩
 have XF:∀cs,W.get b≠some (.ro cs):=λcs hx=>by rw[hb]at hx;injection hx with hx;exact nS cs hx
 refine⟨⟨?_,?_,?_,?_⟩,⟨hs,?_,?_,OS,RT,wT,?_,?_,?_⟩⟩
 ·intro x hx;have O0:W.next+1<=x:=hx;cases hy:((W.kill b).add o').get x with
  |none=>rfl
  |some o=>have:=(hk x o (by omega) hy).2;rw[h.free x (by omega)]at this;cases this
 ·intro x k hx;rcases mE x k hx with⟨rfl,rfl⟩|⟨_,h2⟩
  ·exact⟨Nat.lt_succ_self _,by rw[oJ];exact KZ.2⟩
  ·have:=h.np x k h2;exact⟨Nat.lt_succ_of_lt this.1,by rw[oJ];exact this.2⟩
 ·intro x o2 k hx hy;rcases mE x k hy with⟨rfl,rfl⟩|⟨h1,h2⟩
  ·rw[afm]at hx;injection hx with hx;subst hx;exact qr
  ·obtain⟨Pa,Xr⟩:=hk x o2 h1 hx;refine kA.mono hs ?_;have eG:=h.obj x o2 k Xr h2;by_cases hB:k.B=g.B
   ·have hd:=h.ny x b o2 _ k g Pa Xr hb h2 hg (rwR nS);have gq:k.e<=g.s\/g.e<=k.s:=hd.resolve_left (λfe=>fe hB);cases o2 with
    |cells CI=>obtain⟨c0,t0,VN,e1,e0,e2,e3,e4⟩:=eG;rw[hB,hc]at e1;injection e1 with e1;injection e1 with e1 Vq;subst e1;refine⟨c',t,(0,0),by rw[hB];exact oN,λ_=>rfl,e2,by omega,λi v hv=>?_⟩;obtain⟨v',f1,f2⟩:=e4 i v hv;have hi:i<CI.length:=(dV.1 hv).1;exact⟨v',by rw[sj _ (by omega)];exact f1,f2⟩
    |ro CI=>obtain⟨c0,t0,fr,e1,e2,e3⟩:=eG;rw[hB,hc]at e1;injection e1 with e1;injection e1 with e1 Vq;subst e1;refine⟨c',t,(0,0),by rw[hB];exact oN,e2,λi v hv=>?_⟩;have hi:i<CI.length:=(dV.1 hv).1;obtain⟨v',f1,f2⟩:=e3 i v hv;exact⟨v',by rw[sj _ (by omega)];exact f1,f2⟩
    |map es jj=>obtain⟨_,_,fE,e1,_⟩:=eG;rw[hB,hc]at e1;cases e1
    |loop st kV R nt ps anD bd=>obtain⟨_,_,r,e1,_⟩:=eG;rw[hB,hc]at e1;cases e1
    |kW s pos=>obtain⟨_,_,e1⟩:=eG;rw[hB,hc]at e1;cases e1
    |tc t2 CI=>obtain⟨a1,a2,a3,c0,e1,e2,e3,e4⟩:=eG;rw[hB,hc]at e1;injection e1 with e1;injection e1 with e1 Vq;subst e1;subst Vq;refine⟨a1,a2,a3,c',by rw[hB];exact oN,e2,by omega,λi v hv=>?_⟩;obtain⟨v',f1,f2⟩:=e4 i v hv;have hi:i<CI.length:=(dV.1 hv).1;exact⟨v',by rw[sj _ (by omega)];exact f1,f2⟩
   ·exact eG.same (iF _ hB)
 ·intro b1 b2 o1 o2 g1 g2 fe h1 h2 k1 k2 hr;have sub:∀x o2 k,x≠W.next->((W.kill b).add o').get x=some o2->σ x=some k->g.B≠k.B\/g.e<=k.s\/k.e<=g.s+off:=λx o2 k hxn hx hxk=>by
   obtain⟨Pa,Xr⟩:=hk x o2 hxn hx;rcases h.ny b x _ o2 g k (bL Pa) hb Xr hg hxk (rwL nS)with r|r|r
   ·exact .inl r
   ·exact .inr (.inl r)
   ·exact .inr (.inr (by omega))
  rcases mE b1 g1 k1 with⟨rfl,rfl⟩|⟨x1,y1⟩
  ·rcases mE b2 g2 k2 with⟨rfl,rfl⟩|⟨x2,y2⟩
   ·exact absurd rfl fe
   ·exact sub b2 o2 g2 x2 h2 y2
  ·rcases mE b2 g2 k2 with⟨rfl,rfl⟩|⟨x2,y2⟩
   ·rcases sub b1 o1 g1 x1 h1 y1 with r|r|r
    ·exact .inl (bL r)
    ·exact .inr (.inr r)
    ·exact .inr (.inl r)
   ·exact h.ny _ _ _ _ _ _ fe (hk _ _ x1 h1).2 (hk _ _ x2 h2).2 y1 y2 hr
 ·intro x cs0 hx;have Pa:x≠b:=λe=>by subst e;exact XF cs0 hx
  have hxn:W.next≠x:=λe=>by subst e;rw[h.free _ (aS _)]at hx;cases hx
  rw[AW.bC _ _ (by rw[AW.dX];exact hxn),AW.dL _ (bL Pa)];exact hx
 ·rw[oJ];exact aS _
 ·intro B hB hm;exact iF B (λe=>by subst e;exact hm ⟨b,g,hg,rfl,XF⟩)
 ·intro x o2 hx hxk;have Pa:x≠b:=λe=>by subst e;rw[hg]at hxk;cases hxk
  have hxn:W.next≠x:=λe=>by subst e;rw[h.free _ (aS _)]at hx;cases hx
  refine⟨by rw[AW.bC _ _ (by rw[AW.dX];exact hxn),AW.dL _ (bL Pa)];exact hx,?_⟩;unfold bR;rw[ay (bL hxn)];exact hxk
 ·intro x k EB hB;rcases mE x k EB with⟨rfl,rfl⟩|⟨h1,h2⟩
  ·exact .inr ⟨b,g,hg,rfl,XF⟩
  ·exact .inl h2
def bg.XT(h:bg σ W w.heap){b off:Nat}{cs cz:List ae}{g:rB}(hb:W.get b=some (.cells cs))(hg:σ b=some g)
 (oJ:w'.heap.size=w.heap.size)(OS:w'.os=w.os)(RT:w'.tape=w.tape)(wT:w'.output=w.output)
 (iF:∀B,B≠g.B->w'.heap[B]? =w.heap[B]?)
 {c c':Array ae}{t:ai}(hc:w.heap[g.B]? =some (.cells c t (0,0)))(oN:w'.heap[g.B]? =some (.cells c' t (0,0)))(nK:c'.size=c.size)
 (sj:∀i,i<g.s+off\/g.e<=i->c'[i]? =c[i]?)(fb:g.s+off+cz.length<=g.e)
 (nv:∀(i:Nat) (v:ae),cz[i]? =some v->∃v',c'[g.s+off+i]? =some v'/\VR σ v v'):
 bg (bR σ W.next ⟨g.B,g.s+off,g.e⟩) ((W.kill b).add (.cells cz)) w'.heap/\eB σ W w (bR σ W.next ⟨g.B,g.s+off,g.e⟩) ((W.kill b).add (.cells cz)) w':=by
 obtain⟨c0,t0,VN,q1,q0,q2,q3,q4⟩:=h.obj b _ g hb hg;rw[hc]at q1;injection q1 with q1;injection q1 with q1 q1';subst q1;refine h.Ft hb (λ_=>by simp) hg oJ OS RT wT iF hc oN nK sj ⟨c',t,(0,0),oN,λ_=>rfl,fb,by simp only;omega,λi v hv=>?_⟩;obtain⟨v',f1,f2⟩:=nv i v hv;exact⟨v',f1,f2.mono (dh h.fresh)⟩
def bW(W:AW)(x:ae)(m:Nat):Option (List ae):=
 match x with
 |.slice none _ _=>if m=0 then some []else none
 |.slice (some a) len _=>if m=0 then some []else if len=0 then none else kg W a.block a.off m
 |_=>none
def tL(h:bg σ W w.heap){x x':ae}{n z:Nat}{l:List ae}(hr:bW W x (n*z)=some l)(hx:VR σ x x'):
 ∃l',LR σ l l'/\l.length=n*z/\(Builtin.firstCells z n x').run P w=.ok l'.toArray w:=by
 have h0:∀(a':aP),(loadCells a' 0).run P w=.ok #[] w:=λa'=>by simp[loadCells,loadCellsFrom]
 unfold bW at hr;split at hr
 ·split at hr
  ·rename_i hm;injection hr with hr;subst hr;cases hx;exact⟨[],.nil,by simp[hm],by simp[Builtin.firstCells]⟩
  ·cases hr
 ·rename_i a _ _;split at hr
  ·rename_i hm;injection hr with hr;subst hr;cases hx
   ·exact⟨[],.nil,by simp[hm],by simp[Builtin.firstCells,hm,h0]⟩
   ·exact⟨[],.nil,by simp[hm],by simp[Builtin.firstCells,hm,h0]⟩
  ·rename_i hm;split at hr
   ·cases hr
   ·rename_i Ke;cases hx with
    |slice _ _ _ c' g hg hs hc=>obtain⟨l',h1,h2,_,h4⟩:=w6 (P:=P) h hr hg;exact⟨l',h1,h2,by simp[Builtin.firstCells,h4]⟩
    |di _ a' _ g hg hc=>exact absurd rfl Ke
 ·cases hr
def Mc(AP:Nat):∀(r c:Nat),c<=2*AP+192->Builtin.growBy AP r c<=2*AP+192:=by
 intro r;induction r with
 |zero=>intro c h;exact h
 |succ r ih=>
  intro c h;simp only[Builtin.growBy];split
  ·exact h
  ·exact ih _ (by omega)
def ue{AP c:Nat}(h:c<AP):Builtin.nextslicecap AP c<=2*AP+192:=by
 unfold Builtin.nextslicecap;split
 ·omega
 ·split
  ·omega
  ·exact Mc AP 4 c (by omega)
def jo(P:ah)(t:ai):Option ai:=match P.underlying t with|some (.slice e)=>some e|_=>none
def mi{t e:ai}(h:jo P t=some e):P.underlying t=some (.slice e):=by
 unfold jo at h;split at h
 ·rename_i e' hu;injection h with h;subst h;exact hu
 ·cases h
def aO(P:ah)(W:AW)(argTypes:Array ai)(s x:ae):Option (ae×AW):=
 match argTypes.toList with
 |[t0,t1]=>if t0=t1 then
  match jo P t0,s,x with
  |some e,.slice base bD uw,.slice xb n xc=>match kv P e,(P.info? e).map (λi=>(i.zero,i.bytes))with
   |some z,some (some zv,bytes)=>
    if 0<z/\zv.cells.size=z/\bD+n<1099511627776/\(2*(bD+n)+192)*bytes<=281474976710656 then
     if n=0 then(if bD<=uw then some (s,W)else none)
     else match bW W (.slice xb n xc) (n*z),bW W s (bD*z)with
      |some new,some qM=>
       if new.all one=true then
        if uw=ge+z then
         match base with
         |some a=>match W.get a.block with
          |some (.cells _)=>some ((W.kill a.block).new (.cells (qM++new)) λb W'=>(Value.slice (some ⟨b,0,none⟩) (bD+n) (ge+z),W'))
          |some (.tc e' cs)=>if e=e'/\z=1/\a.off=0/\cs.length=bD/\bD≠0/\ak.ex e=false then some ((W.kill a.block).new (.tc e (cs++new)) λb W'=>(Value.slice (some ⟨b,0,none⟩) (bD+n) (ge+1),W'))else none
          |_=>none
         |none=>none
        else if uw<ge then
         match base with
         |some a=>
          if bD+n<=uw then(lq W a.block (a.off+bD*z) new).map λW'=>(Value.slice (some a) (bD+n) uw,W')
          else some (W.new (.cells (qM++new)) λb W'=>(Value.slice (some ⟨b,0,none⟩) (bD+n) (ge+z),W'))
         |none=>if bD=0/\uw=0 then some (W.new (.cells (qM++new)) λb W'=>(Value.slice (some ⟨b,0,none⟩) (bD+n) (ge+z),W'))else none
        else none
       else none
      |_,_=>none
    else none
   |_,_=>none
  |_,_,_=>none
  else none
 |_=>none
def jA(zero:Array ae)(n:Nat):(Builtin.zeroCells zero n).size=n*zero.size:=by simp[Builtin.zeroCells]
def Hk(hW:bg σ W w.heap)(e:ai){z:Nat}{zv:ae}{qM new j9 gE:List ae}{k:Nat}(cap:Nat)
 (h1:LR σ qM j9)(h2:LR σ new gE)(hz:zv.cells.size=z)(Nr:0<z)(fb:qM.length+new.length=k*z)(oB:k<=cap/\cap<=maxLen):
 VR (bR σ W.next ⟨w.heap.size,0,cap*z⟩) (.slice (some ⟨W.next,0,none⟩) k (ge+z)) (.slice (some ⟨w.heap.size,0,none⟩) k cap)/\
  bg (bR σ W.next ⟨w.heap.size,0,cap*z⟩) (W.add (.cells (qM++new))) ((w.drew.alloc (.cells (j9.toArray++gE.toArray++Builtin.zeroCells zv.cells (cap-k)) e)).heap)/\
  eB σ W w (bR σ W.next ⟨w.heap.size,0,cap*z⟩) (W.add (.cells (qM++new))) (w.drew.alloc (.cells (j9.toArray++gE.toArray++Builtin.zeroCells zv.cells (cap-k)) e)):=by
 have oJ:(j9.toArray++gE.toArray++Builtin.zeroCells zv.cells (cap-k)).size=cap*z:=by have ajs:=oB.1;simp only[Array.size_append,pA,jA,hz,<-h1.1,<-h2.1];rw[fb,<-Nat.add_mul];congr 1;omega
 have:=hW.alloc (o:=.cells (qM++new)) (x:=.cells (j9.toArray++gE.toArray++Builtin.zeroCells zv.cells (cap-k)) e) (e:=cap*z) (by
  refine⟨j9.toArray++gE.toArray++Builtin.zeroCells zv.cells (cap-k),e,(0,0),by rw[qd];simp,λ_=>rfl,?_,by rw[oJ];exact aS _,λi v hv=>?_⟩
  ·simp only[cm,fb,aK];exact ut _ oB.1
  ·obtain⟨v',a,b⟩:=(h1.append h2).get hv;refine⟨v',?_,b.mono (dh hW.fresh)⟩;have hi:i<(j9++gE).length:=(dV.1 a).1;rw[aK,wm];rw[ax (by simpa using hi)];simpa using a);have hv:=VR.slice (σ:=bR σ W.next ⟨w.heap.size,0,cap*z⟩) ⟨W.next,0,none⟩ k (ge+z) cap ⟨w.heap.size,0,cap*z⟩ de rfl (.open_ z cap Nr oB.1 (by simp) oB.2);exact⟨by simpa using hv,this.1,⟨this.2.sub,this.2.ro,this.2.size,rfl,rfl,rfl,this.2.dK,this.2.ghost,this.2.grow⟩⟩
def HC(P:ah)(w:aq)(t ty e:ai)(z:Nat)(base:Option aP)(bD c' xc:Nat)(xb:Option aP)
 (hu:P.underlying t=some (.slice e))(hz:kv P e=some z)(bi:bD<=c'):
 (Builtin.append_ #[t,t] ty #[.slice base bD c',.slice xb 0 xc]).run P w=.ok (.slice base bD c') w:=by
 have h0:∀(a':aP),(loadCells a' 0).run P w=.ok #[] w:=λa'=>by simp[loadCells,loadCellsFrom]
 cases base<;>cases xb<;>simp[Builtin.append_,bJ hu,bz hz,Builtin.lenOf,bi,Builtin.firstCells,h0,storeCells]
def qY(P:ah)(w w2:aq)(t ty e:ai)(z:Nat)(b off bD c' n xc:Nat)(xb:Option aP)(gE:List ae)
 (hu:P.underlying t=some (.slice e))(hz:kv P e=some z)
 (qr:(Builtin.firstCells z n (.slice xb n xc)).run P w=.ok gE.toArray w)(bi:bD+n<=c')(px:(storeCells ⟨b,off+bD*z,none⟩ gE).run P w=.ok () w2):
 (Builtin.append_ #[t,t] ty #[.slice (some ⟨b,off,none⟩) bD c',.slice xb n xc]).run P w=.ok (.slice (some ⟨b,off,none⟩) (bD+n) c') w2:=by
 simp[Builtin.append_,bJ hu,bz hz,Builtin.lenOf,bi,qr,dy,px]
def DS{e:ai}{zo:Option ae}{bytes z:Nat}(h:(P.info? e).map (λi=>(i.zero,i.bytes))=some (zo,bytes))(hz:kv P e=some z):
 ∃i,P.info? e=some i/\i.zero=zo/\i.bytes=bytes/\i.size=z:=by
 obtain⟨i,hi,h1,_⟩:=wZ hz;rw[hi]at h;simp at h;exact⟨i,hi,h.1,h.2,h1⟩
def gA(h:bg σ W w.heap){A:Option aP}{n c z:Nat}{x':ae}{l:List ae}(hr:bW W (.slice A n c) (n*z)=some l)(hx:VR σ (.slice A n c) x')(hn:0<n*z):
 ∃a' c' l',x'=.slice (some a') n c'/\LR σ l l'/\l.length=n*z/\(∀j v,l'[j]? =some v->w.cell? (a'.add j)=some v):=by
 unfold bW at hr;split at hr
 ·rw[bZ]at hr;cases hr
 ·rename_i a len cc ud;injection ud with e1 e2 e3;rw[bZ]at hr;split at hr
  ·cases hr
  ·rename_i Ke;subst e1;subst e2;cases hx with
   |slice _ _ _ c' g hg hs hc=>obtain⟨l',h1,h2,h3,_⟩:=w6 (P:=(default:ah)) h hr hg;exact⟨_,c',l',rfl,h1,h2,λj v hj=>by rw[dy];exact h3 j v hj⟩
   |di _ a' _ g hg hc=>exact absurd rfl Ke
 ·cases hr
def Lo(AP qM:Nat)(e:ai)(t:Nat):AP<=(Question.appendCap AP qM e).cut t:=by simp only[Question.cut];omega
def Fk(hW:bg σ W w.heap)(e:ai){cs cz:List ae}{zs:Array ae}{cap:Nat}(h1:LR σ cs cz)(oB:cs.length+zs.size=cap)(h0:0<cs.length)(hm:cap<=maxLen)(Cw:ak.ex e=false){c:Array ae}(hc:c=cz.toArray++zs):
 VR (bR σ W.next ⟨w.heap.size,0,cap⟩) (.slice (some ⟨W.next,0,none⟩) cs.length (ge+1)) (.slice (some ⟨w.heap.size,0,none⟩) cs.length cap)/\
  bg (bR σ W.next ⟨w.heap.size,0,cap⟩) (W.add (.tc e cs)) ((w.drew.alloc (.cells c e)).heap)/\
  eB σ W w (bR σ W.next ⟨w.heap.size,0,cap⟩) (W.add (.tc e cs)) (w.drew.alloc (.cells c e)):=by
 subst hc;have hl:=h1.1;have oJ:(cz.toArray++zs).size=cap:=by simp only[Array.size_append,pA];omega
 have:=hW.alloc (o:=.tc e cs) (x:=.cells (cz.toArray++zs) e) (e:=cap) (by refine⟨rfl,by simp only;omega,⟨hm,λhx=>by rw[Cw]at hx;cases hx⟩,cz.toArray++zs,by rw[qd];simp,by simp only;omega,by simp only;omega,λi v hv=>?_⟩;obtain⟨v',a,b⟩:=h1.get hv;refine⟨v',?_,b.mono (dh hW.fresh)⟩;have hi:i<cz.length:=(dV.1 a).1;rw[wm,ax (by simpa using hi)];simpa using a);have hv:=VR.slice (σ:=bR σ W.next ⟨w.heap.size,0,cap⟩) ⟨W.next,0,none⟩ cs.length (ge+1) cap ⟨w.heap.size,0,cap⟩ de rfl (.open_ 1 cap (by omega) (by omega) (by simp) hm);exact⟨by simpa using hv,this.1,⟨this.2.sub,this.2.ro,this.2.size,rfl,rfl,rfl,this.2.dK,this.2.ghost,this.2.grow⟩⟩
def GK(hW:bg σ W w.heap){argTypes:Array ai}{ty:ai}{s x s' x' v:ae}{W':AW}(h:aO P W argTypes s x=some (v,W'))(hs:VR σ s s')(hx:VR σ x x'):
 ∃σ' v' w',(Builtin.append_ argTypes ty #[s',x']).run P w=.ok v' w'/\VR σ' v v'/\bg σ' W' w'.heap/\eB σ W w σ' W' w':=by
 unfold aO at h;split at h
 ·rename_i t0 t1 oC;have Cg:argTypes=#[t0,t1]:=by rw[<-gi (xs:=argTypes),oC]
  split at h
  ·rename_i ht;subst ht;subst Cg;split at h
   ·rename_i e base bD uw xb n xc he;have hu:=mi he;split at h
    ·rename_i z zv bytes hz Ci;obtain⟨i,hi,hiz,Td,VB⟩:=DS Ci hz;split at h
     ·rename_i hc;obtain⟨Nr,hzs,hsm,hby⟩:=hc;split at h
      ·rename_i Lu;subst Lu;split at h
       ·rename_i bi;injection h with h;injection h with hv hw;subst hv;subst hw;have fin:∀(c':Nat) (B:Option aP) (KQ:Option aP) (yx:Nat),x'=.slice KQ 0 yx->s'=.slice B bD c'->bD<=c'->
         ∃σ' v' w',(Builtin.append_ #[t0,t0] ty #[s',x']).run P w=.ok v' w'/\VR σ' (.slice base bD uw) v'/\bg σ' W w'.heap/\eB σ W w σ' W w':=by
         intro c' B KQ yx e1 e2 e3;subst e1;subst e2;exact⟨σ,_,w,HC P w t0 ty e z B bD c' yx KQ hu hz e3,hs,hW,eB.refl _ _ _⟩
        have hxf:∃KQ yx,x'=.slice KQ 0 yx:=by cases hx<;>exact⟨_,_,rfl⟩
        obtain⟨KQ,yx,rfl⟩:=hxf;cases hs with
        |B9 l c=>exact fin _ _ KQ yx rfl rfl bi
        |slice a l c c' g hg sw lT=>exact fin _ _ KQ yx rfl rfl (by rcases lT.inv with⟨_,h2⟩|⟨_,_,_,h2,_⟩<;>omega)
        |di a a' c g hg lT=>exact fin _ _ KQ yx rfl rfl (by omega)
       ·cases h
      ·rename_i Lu;split at h
       ·rename_i new qM qr eG;split at h
        ·rename_i NL;have hnz:0<n*z:=kF (by omega) Nr;obtain⟨xa,yx,gE,rfl,yH,If,Ti⟩:=gA hW qr hx hnz;obtain⟨j9,TX,OX,xJ⟩:=tL (P:=P) hW eG hs;have hnf:(Builtin.firstCells z n (.slice (some xa) n yx)).run P w=.ok gE.toArray w:=by
          have hl:gE.length=n*z:=by rw[<-yH.1];exact If
          have:=zH (P:=P) w xa gE Ti;rw[hl]at this;simpa[Builtin.firstCells]using this
         have fb:qM.length+new.length=(bD+n)*z:=by rw[OX,If,Nat.add_mul]
         have grow:∀(a':aP) (c':Nat),s'=.slice (some a') bD c'->(0<bD->∀j u,j9[j]? =some u->w.cell? (a'.add j)=some u)->c'<bD+n->
          ∃cap,(bD+n<=cap/\cap<=maxLen)/\(Builtin.append_ #[t0,t0] ty #[s',.slice (some xa) n yx]).run P w=
           .ok (.slice (some ⟨w.heap.size,0,none⟩) (bD+n) cap) (w.drew.alloc (.cells (j9.toArray++gE.toArray++Builtin.zeroCells zv.cells (cap-(bD+n))) e)):=by
          intro a' c' e1 e2 e3;subst e1;have oB:=ue e3;have qK:Builtin.nextslicecap (bD+n) c'*i.bytes<=281474976710656:=by have:=ut i.bytes oB;rw[Td]at this|-;omega
          refine⟨_,⟨Lo _ _ _ _,zD w (bD+n) c' e (by unfold maxLen;omega)⟩,run_append_grow (P:=P) w t0 ty e i zv hu hi hiz a' bD c' j9 (by rw[<-TX.1,OX,VB]) (λj u hj=>?_) xa n yx gE (by rw[<-yH.1,If,VB]) Ti e3 (by omega) qK⟩;refine e2 ?_ j u hj;rcases Nat.eq_zero_or_pos bD with h0|h0
          ·have h1:=OX;rw[h0,Nat.zero_mul,TX.1]at h1;have:=(dV.1 hj).1;omega
          ·exact h0
         have VG:=λ(cap:Nat) (oB:bD+n<=cap/\cap<=maxLen)=>Hk (w:=w) hW e cap TX yH hzs Nr fb oB
         split at h
         ·rename_i qz;split at h
          ·rename_i a;split at h
           ·rename_i cs eM;injection h with h;rw[AW.dj]at h;injection h with hv hw;have nS:∀cs,W.get a.block≠some (.ro cs):=λcs hx=>by rw[eM]at hx;cases hx
            have hmp:∃g0,σ a.block=some g0:=by cases hs with|slice _ _ _ c' g hg sw lT=>exact⟨g,hg⟩|di _ a' _ g hg lT=>exact⟨g,hg⟩
            obtain⟨g0,hg0⟩:=hmp;obtain⟨hWk,hEk⟩:=hW.kill nS hg0;have WF:∀(cap:Nat),(bD+n<=cap/\cap<=maxLen)->(Builtin.append_ #[t0,t0] ty #[s',.slice (some xa) n yx]).run P w=
             .ok (.slice (some ⟨w.heap.size,0,none⟩) (bD+n) cap) (w.drew.alloc (.cells (j9.toArray++gE.toArray++Builtin.zeroCells zv.cells (cap-(bD+n))) e))->
             ∃σ' v' w',(Builtin.append_ #[t0,t0] ty #[s',.slice (some xa) n yx]).run P w=.ok v' w'/\VR σ' v v'/\bg σ' W' w'.heap/\eB σ W w σ' W' w':=by
             intro cap oB eA;obtain⟨g1,g2,g3⟩:=Hk (w:=w) hWk e cap TX yH hzs Nr fb oB;exact⟨_,_,_,eA,by rw[<-hv];exact g1,by rw[<-hw];exact g2,by rw[<-hw];exact hEk.trans g3⟩
            cases hs with
            |di _ a' _ g hg lT=>obtain⟨cap,h1,h2⟩:=grow a' 0 rfl (λhx=>absurd hx (by omega)) (by omega);exact WF cap h1 h2
            |slice _ _ _ c' g hg sw lT=>
             rcases lT.inv with⟨hk,_⟩|⟨z',wK,Yo,VI,ud⟩
             ·exact absurd hk (by omega)
             ·have zJ:z'=z:=by omega
              subst zJ;obtain⟨c0,ct,VN,q1,q0,q2,q3,q4⟩:=hW.obj a.block _ g eM hg;by_cases qK:bD+n<=c'
              ·have hcz:0<c'*z':=kF (by omega) Nr;obtain rfl:=q0 (by omega);have aeZ:(bD+n)*z'<=c'*z':=ut _ qK;have hml:bD*z'+n*z'=(bD+n)*z':=(Nat.add_mul _ _ _).symm;have px:=Ac (P:=P) g.B (g.s+a.off+bD*z') ct gE 0 c0 w q1 (by rw[<-yH.1,If];omega) (zO yH NL);simp only[ce]at px;have eA:=qY P w _ t0 ty e z' g.B (g.s+a.off) bD c' n yx (some xa) gE hu hz hnf qK px;have ahY:gE.length=n*z':=by rw[<-yH.1];exact If
               have amE:j9.length=bD*z':=by rw[<-TX.1];exact OX
               have zA:=jX c0.toList (g.s+a.off+bD*z') gE (by simp;omega);have aba:∀j u,qM[j]? =some u->∃u',c0[g.s+a.off+j]? =some u'/\VR σ u u':=by
                intro j u hj;have hj2:j<bD*z':=by rw[<-OX];exact(dV.1 hj).1
                have US:0<bD*z':=by omega
                obtain⟨a2,c2,l2,e2,l2r,l2l,WQ⟩:=gA hW eG (VR.slice a bD _ c' g hg sw lT) US;injection e2 with e2 _ _;injection e2 with e2;subst e2;obtain⟨u',f1,f2⟩:=l2r.get hj;have:=WQ j u' f1;rw[dy]at this;simp only[World.cell?,q1,vb,fJ,bG]at this;exact⟨u',this,f2⟩
               have Ga:=hW.XT (w':=w.setRow g.B (c0.toList.take (g.s+a.off+bD*z')++gE++c0.toList.drop (g.s+a.off+bD*z'+gE.length)).toArray)
                (b:=a.block) (off:=a.off) (cz:=qM++new) eM hg (by simp[World.setRow]) rfl rfl rfl (λB hB=>hZ w g.B B _ hB) q1 (ql w g.B c0 _ ct _ q1) (by simp;omega)
                (by intro j hj;have:=zA j;rw[bZ]at this;simpa using this)
                (by rw[cm,fb];omega)
                (by
                  intro j u hj;have h2:=zA (g.s+a.off+j);rw[ul]at hj;split at hj
                  ·rename_i hjl;rw[bZ]at h2;obtain⟨u',f1,f2⟩:=aba j u hj;exact⟨u',by rw[<-f1];simpa using h2,f2⟩
                  ·rename_i hjl;have O9:=(dV.1 hj).1;rw[nj]at h2;obtain⟨u',f1,f2⟩:=yH.get hj;rw[show g.s+a.off+j-(g.s+a.off+bD*z')=j-qM.length by omega,f1]at h2;exact⟨u',by simpa using h2,f2⟩)
               have VM:=VR.slice (σ:=bR σ W.next ⟨g.B,g.s+a.off,g.e⟩) ⟨W.next,0,none⟩ (bD+n) (ge+z') c' ⟨g.B,g.s+a.off,g.e⟩ de rfl (.open_ z' c' Nr qK (by simp only[ce];exact ud) (lT.max.2 (by omega)));simp only[ce]at VM;exact⟨_,_,_,eA,by rw[<-hv];exact VM,by rw[<-hw];exact Ga.1,by rw[<-hw];exact Ga.2⟩
              ·obtain⟨cap,h1,h2⟩:=grow _ c' rfl (λUS j u hj=>by
                have ze:0<bD*z':=kF US Nr;obtain⟨a2,c2,l2,e2,l2r,l2l,WQ⟩:=gA hW eG (VR.slice a bD _ c' g hg sw lT) ze;injection e2 with e2 _ _;injection e2 with e2;subst e2;have E9:(Builtin.firstCells z' bD (.slice (some ⟨g.B,g.s+a.off,none⟩) bD c')).run P w=.ok l2.toArray w:=by have:=zH (P:=P) w ⟨g.B,g.s+a.off,none⟩ l2 WQ;rw[<-l2r.1,l2l]at this;simpa[Builtin.firstCells]using this
                rw[xJ]at E9;injection E9 with E9 _;have:j9=l2:=by simpa using E9
                rw[this]at hj;exact WQ j u hj) (by omega);exact WF cap h1 h2
           ·rename_i e' cs eM;split at h;case isFalse=>cases h
            rename_i Qu;obtain⟨rfl,rfl,E2,yn,US,Hu⟩:=Qu;injection h with h;rw[AW.dj]at h;injection h with hv hw;have nS:∀cs,W.get a.block≠some (.ro cs):=λcs hx=>by rw[eM]at hx;cases hx
            have ahY:gE.length=n:=by rw[<-yH.1,If,jR]
            have adg:new.length=n:=by rw[If,jR]
            cases hs with
            |di _ a' _ g hg lT=>exact absurd rfl US
            |slice _ _ _ c' g hg sw lT=>
             rcases lT.inv with⟨hk,_⟩|⟨z',wK,Yo,VI,ud⟩
             ·unfold ge at hk qz;omega
             ·have zJ:z'=1:=by omega
              subst zJ;obtain⟨a1,a2,a3,c,q1,q2,q3,q4⟩:=hW.obj a.block _ g eM hg;have ahO:c'=c.size:=by omega
              have Zc:(⟨g.B,g.s+a.off,none⟩:aP)=⟨g.B,0,none⟩:=by rw[a1,E2]
              rw[Zc];have Cw:∃j9:List ae,LR σ cs j9/\∀(j:Nat) (u:ae),j9[j]? =some u->c[j]? =some u:=by
               have gY:∀j,j<cs.length->j<c.size:=λj hj=>by omega
               refine⟨c.toList.take cs.length,⟨by rw[fT];simp;omega,λj u u' h1 h2=>?_⟩,λj u hj=>?_⟩
               ·obtain⟨v',f1,f2⟩:=q4 j u h1;rw[ks]at h2;split at h2
                ·rw[rn,f1]at h2;injection h2 with h2;subst h2;exact f2
                ·cases h2
               ·rw[ks]at hj;split at hj
                ·simpa using hj
                ·cases hj
              obtain⟨Yt,aa5,lm⟩:=Cw;have aij:=aa5.1;have hap:=aa5.append yH;by_cases qK:bD+n<=c'
              ·have px:=Ac (P:=P) g.B (0+bD*1) e gE 0 c w q1 (by omega) (zO yH NL);simp only[ce]at px;have eA:=qY P w _ t0 ty e 1 g.B 0 bD c' n yx (some xa) gE hu hz hnf qK px;have zA:=jX c.toList (0+bD*1) gE (by simp;omega);have Ga:=hW.Ft (w':=w.setRow g.B (c.toList.take (0+bD*1)++gE++c.toList.drop (0+bD*1+gE.length)).toArray) (b:=a.block) (off:=0) (o':=.tc e (cs++new))
                (c':=(c.toList.take (0+bD*1)++gE++c.toList.drop (0+bD*1+gE.length)).toArray) eM (λ_=>by simp) hg (by simp[World.setRow]) rfl rfl rfl (λB hB=>hZ w g.B B _ hB) q1 (ql w g.B c _ e _ q1) (by simp;omega)
                (λj hj=>by rw[rk (by simp;omega),rk (by omega)])
                ⟨by simp only;omega,a2,⟨a3.1,λhx=>by rw[Hu]at hx;cases hx⟩,_,ql w g.B c _ e _ q1,by simp only[cm];omega,by simp;omega,λj u hj=>by
                  have h2:=zA j;rw[ul]at hj;split at hj
                  ·rename_i hjl;rw[bZ]at h2;obtain⟨u',f1,f2⟩:=q4 j u hj;exact⟨u',by rw[<-f1];simpa using h2,f2.mono (dh hW.fresh)⟩
                  ·rename_i hjl;have O9:=(dV.1 hj).1;rw[nj]at h2;obtain⟨u',f1,f2⟩:=yH.get hj;rw[show j-(0+bD*1)=j-cs.length by omega,f1]at h2;exact⟨u',by simpa using h2,f2.mono (dh hW.fresh)⟩⟩
               have VM:=VR.slice (σ:=bR σ W.next ⟨g.B,g.s+0,g.e⟩) ⟨W.next,0,none⟩ (bD+n) (ge+1) c' ⟨g.B,g.s+0,g.e⟩ de rfl (.open_ 1 c' (by omega) qK (by simp only;omega) (lT.max.2 (by omega)));simp only[a1,ce]at VM;refine⟨_,_,_,eA,by rw[<-hv];exact VM,?_,?_⟩
               ·rw[<-hw];simpa only[a1,ce]using Ga.1
               ·rw[<-hw];simpa only[a1,ce]using Ga.2
              ·have oB:=ue (show c'<bD+n by omega);have aeN:Builtin.nextslicecap (bD+n) c'*i.bytes<=281474976710656:=by have:=ut i.bytes oB;rw[Td]at this|-;omega
               have eA:=run_append_grow (P:=P) w t0 ty e i zv hu hi hiz ⟨g.B,0,none⟩ bD c' Yt (by rw[<-aij,VB];omega) (λj u hj=>by
                have:=lm j u hj;rw[dy];simp[World.cell?,q1,this]) xa n yx gE (by rw[VB];omega) Ti (by omega) (by omega) aeN;obtain⟨hWk,hEk⟩:=hW.kill nS hg;have hge:=grownCap_ge w (bD+n) c' e;obtain⟨g1,g2,g3⟩:=Fk (w:=w) hWk e (cs:=cs++new) (cz:=Yt++gE) (zs:=Builtin.zeroCells zv.cells (grownCap w (bD+n) c' e-(bD+n))) (cap:=grownCap w (bD+n) c' e) hap
                (by rw[cm,jA,hzs];omega) (by rw[cm];omega) (zD w (bD+n) c' e (by unfold maxLen;omega)) Hu
                (c:=Yt.toArray++gE.toArray++Builtin.zeroCells zv.cells (grownCap w (bD+n) c' e-(bD+n))) (by simp)
               rw[cm,adg,yn]at g1;exact⟨_,_,_,eA,by rw[<-hv];exact g1,by rw[<-hw];exact g2,by rw[<-hw];exact hEk.trans g3⟩
           ·cases h
          ·cases h
         ·split at h
          ·rename_i uK amj;split at h
           ·rename_i a;have aix:∀(g:rB) (c':Nat),σ a.block=some g->a.spot=none->Ee g a.off bD uw c'->s'=.slice (some ⟨g.B,g.s+a.off,none⟩) bD c'->0<bD->∀j u,j9[j]? =some u->w.cell? ((⟨g.B,g.s+a.off,none⟩:aP).add j)=some u:=by
             intro g c' hg sw lT Qs US j u hj;have ze:0<bD*z:=kF US Nr;obtain⟨a2,c2,l2,e2,l2r,l2l,WQ⟩:=gA hW eG (VR.slice a bD _ c' g hg sw lT) ze;injection e2 with e2 _ _;injection e2 with e2;subst e2;have E9:(Builtin.firstCells z bD (.slice (some ⟨g.B,g.s+a.off,none⟩) bD c')).run P w=.ok l2.toArray w:=by have:=zH (P:=P) w ⟨g.B,g.s+a.off,none⟩ l2 WQ;rw[<-l2r.1,l2l]at this;simpa[Builtin.firstCells]using this
             rw[<-Qs,xJ]at E9;injection E9 with E9 _;have:j9=l2:=by simpa using E9
             rw[this]at hj;exact WQ j u hj
            split at h
            ·rename_i qK;cases Wq:lq W a.block (a.off+bD*z) new with
             |none=>rw[Wq]at h;cases h
             |some W2=>
              rw[Wq]at h;simp only[cD,fI,nE]at h;obtain⟨hv,hw⟩:=h;subst hw;cases hs with
              |di _ a' _ g hg lT=>omega
              |slice _ _ _ c' g hg sw lT=>
               rcases lT.inv with⟨hk,rfl⟩|⟨z',wK,Yo,VI,ud⟩
               ·obtain⟨w2,k1,k2,k3⟩:=qg (P:=P) hW Wq hg yH;have eA:=qY P w w2 t0 ty e z g.B (g.s+a.off) bD c' n yx (some xa) gE hu hz hnf qK (by rw[lH];exact k1);refine⟨σ,_,w2,eA,?_,k2,k3⟩;rw[<-hv];exact .slice a _ _ _ g hg sw (.known _ hk)
               ·omega
            ·rename_i qK;injection h with h;rw[AW.dj]at h;injection h with hv hw;have fin:∀(cap:Nat),(bD+n<=cap/\cap<=maxLen)->(Builtin.append_ #[t0,t0] ty #[s',.slice (some xa) n yx]).run P w=
              .ok (.slice (some ⟨w.heap.size,0,none⟩) (bD+n) cap) (w.drew.alloc (.cells (j9.toArray++gE.toArray++Builtin.zeroCells zv.cells (cap-(bD+n))) e))->
              ∃σ' v' w',(Builtin.append_ #[t0,t0] ty #[s',.slice (some xa) n yx]).run P w=.ok v' w'/\VR σ' v v'/\bg σ' W' w'.heap/\eB σ W w σ' W' w':=by
              intro cap oB eA
              obtain⟨g1,g2,g3⟩:=VG cap oB
              exact⟨_,_,_,eA,by rw[<-hv];exact g1,by rw[<-hw];exact g2,by rw[<-hw];exact g3⟩
             cases hs with
             |di _ a' _ g hg lT=>obtain⟨cap,h1,h2⟩:=grow a' 0 rfl (λhx=>absurd hx (by omega)) (by omega);exact fin cap h1 h2
             |slice _ _ _ c' g hg sw lT=>
              have yn:c'<bD+n:=by rcases lT.inv with⟨_,h2⟩|⟨_,_,h2,_,_⟩<;>omega
              obtain⟨cap,h1,h2⟩:=grow _ c' rfl (aix g c' hg sw lT rfl) yn;exact fin cap h1 h2
           ·split at h
            ·rename_i h00;obtain⟨rfl,rfl,Hu⟩:=h00;injection h with h;rw[AW.dj]at h;injection h with hv hw;cases hs;have aaS:j9=[]:=by have:=TX.1;rw[OX,Nat.zero_mul]at this;exact rO this.symm
             subst aaS;have qK:n*i.bytes<=281474976710656:=by have:=ut i.bytes (show n<=2*(0+n)+192 by omega);rw[Td]at this|-;omega
             have eA:=run_append_nil (P:=P) w t0 ty e i zv hu hi hiz xa n yx gE (by rw[<-yH.1,If,VB]) Ti (by omega) (by omega) qK;obtain⟨g1,g2,g3⟩:=VG _ ⟨Lo (0+n) 0 e (w.tape w.drawn (.appendCap n 0 e)),by simpa[grownCap]using zD w n 0 e (by unfold maxLen;omega)⟩;simp only[aK]at g1 g2 g3 hv;refine⟨_,_,_,eA,by rw[<-hv];exact g1,?_,?_⟩
             ·rw[<-hw];simpa[grownCap]using g2
             ·rw[<-hw];simpa[grownCap]using g3
            ·cases h
          ·cases h
        ·cases h
       ·cases h
     ·cases h
    ·cases h
   ·cases h
  ·cases h
 ·cases h
def Bt(P:ah)(W:AW)(argTypes:Array ai)(s x:ae):Option (ae×AW):=
 match argTypes.toList with
 |[t0,t1]=>match P.underlying t1 with
  |some .string=>match jo P t0,s,x with
   |some e,.slice base bD uw,.string str=>match kv P e,(P.info? e).map (λi=>(i.zero,i.bytes))with
    |some 1,some (some (Value.int IntKind.u8 (.ofNat 0)),1)=>
     if bD+str.size<1099511627776 then
      if str.size=0 then(if bD<=uw then some (s,W)else none)
      else match base with
       |some a=>if uw=ge+1/\a.off=0 then match W.get a.block with
        |some (.tc e' cs)=>if e=e'/\cs.length=bD/\bD≠0/\ak.ex e=false then some ((W.kill a.block).new (.tc e (cs++Lib.strCells str)) λb W'=>(Value.slice (some ⟨b,0,none⟩) (bD+str.size) (ge+1),W'))else none
        |_=>none
        else none
       |none=>if bD=0/\uw=0/\ak.ex e=false then some (W.new (.tc e (Lib.strCells str)) λb W'=>(Value.slice (some ⟨b,0,none⟩) (0+str.size) (ge+1),W'))else none
     else none
    |_,_=>none
   |_,_,_=>none
  |_=>none
 |_=>none
def rh(σ:cV)(s:ByteArray):LR σ (Lib.strCells s) (Lib.strCells s):=by
 refine⟨rfl,λi v v' h1 h2=>?_⟩;rw[h1]at h2;injection h2 with h2;subst h2;unfold Lib.strCells at h1;rw[jf]at h1;cases hx:s.data.toList[i]? with
 |none=>rw[hx]at h1;cases h1
 |some b=>rw[hx]at h1;injection h1 with h1;subst h1;exact .int _ _
def Ew(hW:bg σ W w.heap){argTypes:Array ai}{ty:ai}{s x s' x' v:ae}{W':AW}(h:Bt P W argTypes s x=some (v,W'))(hs:VR σ s s')(hx:VR σ x x'):
 ∃σ' v' w',(Builtin.append_ argTypes ty #[s',x']).run P w=.ok v' w'/\VR σ' v v'/\bg σ' W' w'.heap/\eB σ W w σ' W' w':=by
 unfold Bt at h;split at h
 ·rename_i t0 t1 oC;have Cg:argTypes=#[t0,t1]:=by rw[<-gi (xs:=argTypes),oC]
  subst Cg;split at h
  ·rename_i U7;split at h
   ·rename_i e base bD uw str he;have hu:=mi he;cases hx;split at h
    ·rename_i hz Ci;obtain⟨i,hi,hiz,Td,VB⟩:=DS Ci hz;split at h
     ·rename_i hsm;have hmx:∀n sc,n<=maxLen->grownCap w n sc e<=maxLen:=λn sc hn=>zD w n sc e hn
      have hml:bD+str.size<=maxLen:=by unfold maxLen;omega
      split at h
      ·rename_i Lu;split at h
       ·rename_i bi;injection h with h;injection h with hv hw;subst hv;subst hw;have h00:∀(a':aP),(loadCells a' 0).run P w=.ok #[] w:=λa'=>by simp[loadCells,loadCellsFrom]
        have fin:∀(c':Nat) (B:Option aP),s'=.slice B bD c'->bD<=c'->∃σ' v' w',(Builtin.append_ #[t0,t1] ty #[s',.string str]).run P w=.ok v' w'/\VR σ' (.slice base bD uw) v'/\bg σ' W w'.heap/\eB σ W w σ' W w':=by intro c' B e2 e3;subst e2;have hf:=Lib.run_firstCells_string (P:=P) w 1 str;rw[Lu]at hf;have hsc:Lib.strCells str=[]:=rO (by rw[ju];exact Lu);rw[hsc]at hf;refine⟨σ,_,w,?_,hs,hW,eB.refl _ _ _⟩;cases B<;>simp[Builtin.append_,bJ hu,bJ U7,bz hz,Builtin.lenOf,Lu,e3,hf,storeCells]
        cases hs with
        |B9 l c=>exact fin _ _ rfl bi
        |slice a l c c' g hg sw lT=>exact fin _ _ rfl (by rcases lT.inv with⟨_,h2⟩|⟨_,_,_,h2,_⟩<;>omega)
        |di a a' c g hg lT=>exact fin _ _ rfl (by omega)
       ·cases h
      ·rename_i Lu;split at h
       ·rename_i a;split at h
        ·rename_i pi;obtain⟨qz,E2⟩:=pi;split at h
         ·rename_i e' cs eM;split at h
          ·rename_i Qu;obtain⟨rfl,yn,US,Hu⟩:=Qu;injection h with h;rw[AW.dj]at h;injection h with hv hw;have nS:∀cs,W.get a.block≠some (.ro cs):=λcs hx=>by rw[eM]at hx;cases hx
           cases hs with
           |di _ a' _ g hg lT=>exact absurd rfl US
           |slice _ _ _ c' g hg sw lT=>
            rcases lT.inv with⟨hk,_⟩|⟨z',wK,Yo,VI,ud⟩
            ·unfold ge at hk qz;omega
            ·have zJ:z'=1:=by omega
             subst zJ;obtain⟨a1,a2,a3,c,q1,q2,q3,q4⟩:=hW.obj a.block _ g eM hg;have ahO:c'=c.size:=by omega
             have Zc:(⟨g.B,g.s+a.off,none⟩:aP)=⟨g.B,0,none⟩:=by rw[a1,E2]
             rw[Zc];have Cw:∃j9:List ae,LR σ cs j9/\∀(j:Nat) (u:ae),j9[j]? =some u->c[j]? =some u:=by
              have gY:∀j,j<cs.length->j<c.size:=λj hj=>by omega
              refine⟨c.toList.take cs.length,⟨by rw[fT];simp;omega,λj u u' h1 h2=>?_⟩,λj u hj=>?_⟩
              ·obtain⟨v',f1,f2⟩:=q4 j u h1;rw[ks]at h2;split at h2
               ·rw[rn,f1]at h2;injection h2 with h2;subst h2;exact f2
               ·cases h2
              ·rw[ks]at hj;split at hj
               ·simpa using hj
               ·cases hj
             obtain⟨j9,TX,lm⟩:=Cw;have OX:=TX.1;have hap:=TX.append (rh σ str);by_cases qK:bD+str.size<=c'
             ·have eA:=Lib.run_append_room_string (P:=P) w t0 t1 ty e i hu U7 hi VB g.B bD c' c q1 str qK (by omega);have zA:=jX c.toList bD (Lib.strCells str) (by rw[ju];simp;omega);rw[ju]at zA;have Ga:=hW.Ft (w':=w.setRow g.B (c.toList.take bD++Lib.strCells str++c.toList.drop (bD+str.size)).toArray) (b:=a.block) (off:=0) (o':=.tc e (cs++Lib.strCells str))
               (c':=(c.toList.take bD++Lib.strCells str++c.toList.drop (bD+str.size)).toArray) eM (λ_=>by simp) hg (by simp[World.setRow]) rfl rfl rfl (λB hB=>hZ w g.B B _ hB) q1 (ql w g.B c _ e _ q1) (by simp[ju];omega)
               (λj hj=>by rw[rk (by simp[ju];omega),rk (by omega)])
               ⟨by simp only;omega,a2,⟨a3.1,λhx=>by rw[Hu]at hx;cases hx⟩,_,ql w g.B c _ e _ q1,by simp only[cm,ju];omega,by simp[ju];omega,λj u hj=>by
                 have h2:=zA j;rw[ul]at hj;split at hj
                 ·rename_i hjl;rw[bZ]at h2;obtain⟨u',f1,f2⟩:=q4 j u hj;exact⟨u',by rw[<-f1];simpa using h2,f2.mono (dh hW.fresh)⟩
                 ·rename_i hjl;have O9:=(dV.1 hj).1;rw[ju]at O9;rw[nj]at h2;obtain⟨u',f1,f2⟩:=(rh σ str).get hj;rw[yn]at f1;rw[f1]at h2;exact⟨u',by simpa using h2,f2.mono (dh hW.fresh)⟩⟩
              have VM:=VR.slice (σ:=bR σ W.next ⟨g.B,g.s+0,g.e⟩) ⟨W.next,0,none⟩ (bD+str.size) (ge+1) c' ⟨g.B,g.s+0,g.e⟩ de rfl (.open_ 1 c' (by omega) qK (by simp only;omega) (lT.max.2 (by omega)));simp only[a1,ce]at VM;refine⟨_,_,_,eA,by rw[<-hv];exact VM,?_,?_⟩
              ·rw[<-hw];simpa only[a1,ce]using Ga.1
              ·rw[<-hw];simpa only[a1,ce]using Ga.2
             ·have oB:=ue (show c'<bD+str.size by omega);have eA:=Lib.run_append_grow_string (P:=P) w t0 t1 ty e i (.int .u8 0) hu U7 hi hiz ⟨g.B,0,none⟩ bD c' j9 (by rw[<-OX,VB];omega) (λj u hj=>by
               have:=lm j u hj;rw[dy];simp[World.cell?,q1,this]) str (by omega) (by omega) (by rw[Td];omega);obtain⟨hWk,hEk⟩:=hW.kill nS hg;have hge:=grownCap_ge w (bD+str.size) c' e;obtain⟨g1,g2,g3⟩:=Fk (w:=w) hWk e (cs:=cs++Lib.strCells str) (cz:=j9++Lib.strCells str) (zs:=Builtin.zeroCells (Value.int .u8 0).cells (grownCap w (bD+str.size) c' e-(bD+str.size))) (cap:=grownCap w (bD+str.size) c' e) hap
               (by rw[cm,ju,jA,show(Value.int IntKind.u8 0).cells.size=1 from rfl];omega) (by rw[cm,ju];omega) (hmx _ _ hml) Hu
               (c:=j9.toArray++(Lib.strCells str).toArray++Builtin.zeroCells (Value.int .u8 0).cells (grownCap w (bD+str.size) c' e-(bD+str.size))) (by simp)
              rw[cm,ju,yn]at g1;exact⟨_,_,_,eA,by rw[<-hv];exact g1,by rw[<-hw];exact g2,by rw[<-hw];exact hEk.trans g3⟩
          ·cases h
         ·cases h
        ·cases h
       ·split at h
        ·rename_i h00;obtain⟨rfl,rfl,Hu⟩:=h00;injection h with h;rw[AW.dj]at h;injection h with hv hw;cases hs;have qK:str.size*i.bytes<=281474976710656:=by rw[Td];omega
         have eA:=run_append_nil_string (P:=P) w t0 t1 ty e i (.int .u8 0) hu U7 hi hiz str (by omega) (by omega) qK;have hge:=grownCap_ge w str.size 0 e;obtain⟨g1,g2,g3⟩:=Fk (w:=w) hW e (cs:=Lib.strCells str) (cz:=Lib.strCells str) (zs:=Builtin.zeroCells (Value.int .u8 0).cells (grownCap w str.size 0 e-str.size)) (cap:=grownCap w str.size 0 e) (rh σ str)
          (by rw[ju,jA,show(Value.int IntKind.u8 0).cells.size=1 from rfl];omega) (by rw[ju];omega) (hmx _ _ (by omega)) Hu
          (c:=str.data.map (λb=>Value.int .u8 b.toNat)++Builtin.zeroCells (Value.int .u8 0).cells (grownCap w str.size 0 e-str.size)) (by congr 1;apply Array.ext';simp[Lib.strCells])
         rw[ju]at g1;exact⟨_,_,_,eA,by rw[<-hv,aK];exact g1,by rw[<-hw];exact g2,by rw[<-hw];exact g3⟩
        ·cases h
     ·cases h
    ·cases h
   ·cases h
  ·cases h
 ·cases h
def uV(P:ah)(W:AW)(argTypes:Array ai)(s x:ae):Option (ae×AW):=
 match argTypes.toList with
 |[t0,t1]=>if t0=t1 then aO P W argTypes s x else Bt P W argTypes s x
 |_=>none
def Fl(hW:bg σ W w.heap){argTypes:Array ai}{ty:ai}{s x s' x' v:ae}{W':AW}(h:uV P W argTypes s x=some (v,W'))(hs:VR σ s s')(hx:VR σ x x'):
 ∃σ' v' w',(Builtin.append_ argTypes ty #[s',x']).run P w=.ok v' w'/\VR σ' v v'/\bg σ' W' w'.heap/\eB σ W w σ' W' w':=by
 unfold uV at h;split at h
 ·split at h
  ·exact GK hW h hs hx
  ·exact Ew hW h hs hx
 ·cases h
def pK(x:ae):Option ae:=match x with
 |.slice none _ _=>some (.pointer none)
 |.slice (some a) l c=>if l≠0/\c≠0 then some (.pointer (some a))else none
 |_=>none
def Az{x x' v:ae}{ts:Array ai}{ty:ai}(h:pK x=some v)(hx:VR σ x x'):∃v',(Builtin.unsafeSliceData_ ts ty #[x']).run P w=.ok v' w/\VR σ v v':=by
 unfold pK at h;split at h
 ·injection h with h;subst h;cases hx;exact⟨_,Lib.run_unsafeSliceData_nil _ _ _ _ _,.Gg⟩
 ·split at h
  ·rename_i a l c hc;injection h with h;subst h;cases hx with
   |slice _ _ _ c' g hg hs lT=>exact⟨_,Lib.run_unsafeSliceData_row _ _ _ _ _ _ (by rcases lT.inv with⟨_,h2⟩|⟨_,_,_,h2,_⟩<;>omega),.ptr a g hg hs⟩
   |di _ a' _ g hg lT=>exact absurd rfl hc.1
  ·cases h
 ·cases h
def byteOf(v:ae):Option UInt8:=match v with
 |.int .u8 (.ofNat n)=>if n<256 then some (UInt8.ofNat n)else none
 |_=>none
def L9{v:ae}{x:UInt8}(h:byteOf v=some x):v=.int .u8 x.toNat:=by
 unfold byteOf at h;split at h
 ·rename_i n;split at h
  ·rename_i hn;injection h with h;subst h;have:(UInt8.ofNat n).toNat=n:=by simp;omega
   rw[this];rfl
  ·cases h
 ·cases h
def vT:List ae->Option (List UInt8):=List.rec (motive:=λ_=>Option (List UInt8)) (some []) (λv _ ih=>match byteOf v with
 |some b=>ih.map (λl=>b::l)
 |none=>none)
def rM:∀{cs:List ae} {l:List UInt8},vT cs=some l->cs.length=l.length/\∀(j:Nat) (x:UInt8),l[j]? =some x->cs[j]? =some (.int .u8 x.toNat)
 |[],l,h=>by injection h with h;subst h;exact⟨rfl,λj x hj=>by simp at hj⟩
 |v::cs,l,h=>by
  have h':(match byteOf v with
   |some b=>(vT cs).map (λl=>b::l)
   |none=>none)=some l:=h;cases hv:byteOf v with
  |none=>rw[hv]at h';cases h'
  |some b0=>
   rw[hv]at h';cases hb:vT cs with
   |none=>rw[hb]at h';cases h'
   |some l0=>
    rw[hb]at h';injection h' with h';subst h';obtain⟨h1,h2⟩:=rM hb;refine⟨by simp[h1],λj x hj=>?_⟩;cases j with
    |zero=>simp only[D7,fI]at hj|-;subst hj;exact L9 hv
    |succ j=>simpa using h2 j x (by simpa using hj)
def OL(w:aq)(a:aP)(m:Nat){c:Array ae}{t:ai}{fr:Nat×Nat}(h:w.heap[a.block]? =some (.cells c t fr)):∃fr',(w.freeze a m).heap[a.block]? =some (.cells c t fr'):=by
 unfold World.freeze;split
 ·exact⟨fr,h⟩
 ·obtain⟨lo,hi⟩:=fr;simp only[w5,ax,h,cD];exact⟨_,rfl⟩
def OF(w:aq)(a:aP)(m:Nat){B:Nat}(h:B≠a.block):(w.freeze a m).heap[B]? =w.heap[B]? :=by
 unfold World.freeze;split
 ·rfl
 ·simp only[w5];rw[ay (bL h)]
def Gh(w:aq)(a:aP)(m:Nat):(w.freeze a m).heap.size=w.heap.size:=by
 unfold World.freeze;split
 ·rfl
 ·simp
def MR(w:aq)(a:aP)(m:Nat):(w.freeze a m).os=w.os/\(w.freeze a m).tape=w.tape/\(w.freeze a m).output=w.output:=by unfold World.freeze;split<;>exact⟨rfl,rfl,rfl⟩
def bg.Tr(h:bg σ W w.heap){b:Nat}{t:ai}{cs:List ae}{g:rB}(hb:W.get b=some (.tc t cs))(hg:σ b=some g)(m:Nat):
 bg σ (W.kill b) (w.freeze ⟨g.B,0,none⟩ m).heap/\eB σ W w σ (W.kill b) (w.freeze ⟨g.B,0,none⟩ m):=by
 have nS:∀cs,W.get b≠some (.ro cs):=λcs hx=>by rw[hb]at hx;cases hx
 have hk:∀c o,(W.kill b).get c=some o->c≠b/\W.get c=some o:=λc o hc=>by
  by_cases hx:c=b
  ·subst hx;rw[AW.vH]at hc;cases hc
  ·rw[AW.dL _ (bL hx)]at hc;exact⟨hx,hc⟩
 obtain⟨a1,a2,a3,c,q1,q2,q3,q4⟩:=h.obj b _ g hb hg;obtain⟨fr',oC⟩:=OL w ⟨g.B,0,none⟩ m q1;have oJ:=Gh w ⟨g.B,0,none⟩ m;obtain⟨os1,os2,os3⟩:=MR w ⟨g.B,0,none⟩ m;have iF:∀B,B≠g.B->(w.freeze ⟨g.B,0,none⟩ m).heap[B]? =w.heap[B]? :=λB hB=>OF w ⟨g.B,0,none⟩ m hB
 obtain⟨k1,k2⟩:=h.kill nS hg;refine⟨⟨k1.free,λb2 g2 h2=>by rw[oJ];exact h.np b2 g2 h2,λx o2 g2 hx hy=>?_,k1.ny⟩,⟨.refl _,k2.ro,by rw[oJ];exact aS _,os1,os2,os3,λB hB hm=>?_,k2.ghost,λx g2 hx _=>.inl hx⟩⟩
 ·obtain⟨Pa,Xr⟩:=hk x o2 hx;have eG:=h.obj x o2 g2 Xr hy;by_cases hB:g2.B=g.B
  ·have hd:g2.e<=g.s\/g.e<=g2.s:=(h.ny x b o2 _ g2 g Pa Xr hb hy hg (rwR (λ_ hx=>by cases hx))).resolve_left (λfe=>fe hB);cases o2 with
   |cells CI=>obtain⟨c0,t0,VN,e1,e0,e2,e3,e4⟩:=eG;rw[hB,q1]at e1;injection e1 with e1;injection e1 with e1 Vq agW;subst e1;exact⟨c,t,fr',by rw[hB];exact oC,λgY=>by omega,e2,e3,e4⟩
   |ro CI=>obtain⟨c0,t0,VN,e1,e2,e3⟩:=eG;rw[hB,q1]at e1;injection e1 with e1;injection e1 with e1 Vq agW;subst e1;exact⟨c,t,fr',by rw[hB];exact oC,e2,e3⟩
   |map es jj=>obtain⟨_,_,fE,e1,_⟩:=eG;rw[hB,q1]at e1;cases e1
   |loop st kV R nt ps anD bd=>obtain⟨_,_,r,e1,_⟩:=eG;rw[hB,q1]at e1;cases e1
   |kW s pos=>obtain⟨_,_,e1⟩:=eG;rw[hB,q1]at e1;cases e1
   |tc t2 CI=>obtain⟨b1,b2,b3,_⟩:=eG;omega
  ·exact eG.same (iF _ hB)
 ·exact iF B (λe=>by subst e;exact hm ⟨b,g,hg,rfl,nS⟩)
def kM(P:ah)(W:AW)(argTypes:Array ai)(p n:ae):Option (ae×AW):=match argTypes.toList with
 |[pt,_]=>match p,n with
  |.pointer q,.int .i64 (.ofNat m)=>if m=0 then some (.string .empty,W)else match q with
   |some a=>match P.underlying pt,W.get a.block with
    |some (.pointer e),some (.tc e' cs)=>if e=e'/\a.off=0/\m<=cs.length/\m<1099511627776 then match kv P e,vT (cs.take m)with
     |some 1,some l=>some (.string ⟨l.toArray⟩,W.kill a.block)
     |_,_=>none
     else none
    |_,_=>none
   |none=>none
  |_,_=>none
 |_=>none
def ww(hW:bg σ W w.heap){argTypes:Array ai}{ty:ai}{p n p' n' v:ae}{W':AW}(h:kM P W argTypes p n=some (v,W'))(hp:VR σ p p')(hn:VR σ n n'):
 ∃σ' v' w',(Builtin.unsafeString_ argTypes ty #[p',n']).run P w=.ok v' w'/\VR σ' v v'/\bg σ' W' w'.heap/\eB σ W w σ' W' w':=by
 unfold kM at h;split at h
 ·rename_i pt it oC;have Cg:argTypes=#[pt,it]:=by rw[<-gi (xs:=argTypes),oC]
  subst Cg;split at h
  ·rename_i q m;cases hn;split at h
   ·rename_i hm0;injection h with h;injection h with h1 h2;subst h1;subst h2;subst hm0;obtain⟨q',rfl⟩:∃q',p'=.pointer q':=by cases hp<;>exact⟨_,rfl⟩
    exact⟨σ,_,w,Lib.run_unsafeString_none w pt it ty q',.string _,hW,eB.refl _ _ _⟩
   ·rename_i hm0;split at h
    ·rename_i a;split at h
     ·rename_i e e' cs hu eM;split at h
      ·rename_i hc;obtain⟨rfl,E2,hmc,hmb⟩:=hc;split at h
       ·rename_i l hz hl;injection h with h;injection h with h1 h2;subst h1;subst h2;cases hp with
        |ptr _ g hg hs=>
         obtain⟨a1,a2,a3,c,q1,q2,q3,q4⟩:=hW.obj a.block _ g eM hg;obtain⟨b1,b2⟩:=rM hl;obtain⟨_,_,_,hcz⟩:=wZ hz;have fb:m=l.length:=by rw[<-b1,fT];omega
         have Zc:(⟨g.B,g.s+a.off,none⟩:aP)=⟨g.B,0,none⟩:=by rw[a1,E2]
         obtain⟨f1,f2⟩:=hW.Tr eM hg m;refine⟨σ,_,_,?_,.string _,f1,f2⟩;rw[Zc,fb];refine Lib.run_unsafeString_row w pt it ty e hu hcz g.B c.size (by simp[World.shape?,q1]) l (λe=>by subst e;simp at fb;omega) (by omega) (by omega) ?_;intro j x hj;have h3:=b2 j x hj;rw[ks]at h3;split at h3
         ·obtain⟨v',g1,g2⟩:=q4 j _ h3;cases g2;rw[dy];simp[World.cell?,q1,g1]
         ·cases h3
       ·cases h
      ·cases h
     ·cases h
    ·cases h
  ·cases h
 ·cases h
def o5(P:ah)(W:AW)(s d:ai)(x:ae):Option ae:=match x with
 |.slice (some a) n c=>(match P.underlying s,P.underlying d with
  |some (.slice e),some .string=>(match P.underlying e with
   |some (.int .u8)=>(match bW W (.slice (some a) n c) n with
    |some cs=>(match vT cs with
     |some l=>some (.string ⟨l.toArray⟩)
     |none=>none)
    |none=>none)
   |_=>none)
  |_,_=>none)
 |_=>none
def Ax(P:ah)(W:AW)(s d:ai)(x:ae)(alt:Option ae):Option ae:=match x with
 |.slice (some a) n c=>o5 P W s d (.slice (some a) n c)
 |_=>alt
def C0(hW:bg σ W w.heap){s d:ai}{x x' v:ae}(h:o5 P W s d x=some v)(hx:VR σ x x'):∃v',(convert s d x').run P w=.ok v' w/\VR σ v v':=by
 unfold o5 at h;split at h;case h_2=>cases h
 rename_i a n c;split at h;case h_2=>cases h
 rename_i e hs hd;split at h;case h_2=>cases h
 rename_i he;split at h;case h_2=>cases h
 rename_i cs nK;split at h;case h_2=>cases h
 rename_i l hl;injection h with h;subst h;obtain⟨b1,b2⟩:=rM hl;rcases Nat.eq_zero_or_pos n with rfl|hn
 ·obtain rfl:cs=[]:=by unfold bW at nK;simp only[ax]at nK;injection nK with nK;exact nK.symm
  obtain rfl:l=[]:=jz.1 (by rw[<-b1];rfl);obtain⟨a',c',rfl⟩:∃a' c',x'=.slice (some a') 0 c':=by cases hx<;>exact⟨_,_,rfl⟩
  refine⟨.string ByteArray.empty,?_,.string _⟩;rw[run_convert_bytes_string w s d e _ 0 c' hs he hd,run_bytesToString w _ 0 c' [] (by simp[loadCells,loadCellsFrom])];rfl
 ·obtain⟨a',c',l',rfl,h1,h2,h3⟩:=gA (z:=1) hW (by rw[jR];exact nK) hx (by omega);refine⟨_,?_,.string _⟩;rw[jR]at h2;have Yn:l.length=n:=by rw[<-b1,h2]
  rw[run_convert_bytes_string w s d e _ n c' hs he hd,run_bytesToString w _ n c' (l.map λb=>(b.toNat:Int)) ?_]
  ·rw[foldl_push_bytes];congr 2;have:((λn:Int=>UInt8.ofNat n.toNat)∘λb:UInt8=>(b.toNat:Int))=id:=by funext b;simp
   simp[ByteArray.empty,ByteArray.emptyWithCapacity,this];rfl
  ·have:=zH (P:=P) w a' (l.map λb=>Value.int .u8 (b.toNat:Int)) (λj u hj=>by
    rw[jf]at hj;cases hlj:l[j]? with
    |none=>rw[hlj]at hj;cases hj
    |some y=>rw[hlj]at hj;injection hj with hj;subst hj;obtain⟨u',g1,g2⟩:=h1.get (b2 j y hlj);have:=h3 j u' g1;cases g2;exact this);simp only[ox,Yn]at this;rw[this,List.map_map];rfl
end
end
section
variable [ak]
section
variable {P:ah} {σ:cV} {W:AW} {w:aq}
def KM(P:ah)(W:AW)(argTypes:Array ai)(d x:ae):Option (ae×AW):=
 match argTypes.toList with
 |t0::_=>match jo P t0,d,x with
  |some e,.slice base dl _,.slice xb sl xc=>match kv P e with
   |some z=>
    if Nat.min sl dl=0 then some (goInt 0,W)
    else if z=0 then none
    else match bW W (.slice xb sl xc) (Nat.min sl dl*z),base with
     |some new,some a=>(lq W a.block a.off new).map λW'=>(goInt (Nat.min sl dl),W')
     |_,_=>none
   |none=>none
  |_,_,_=>none
 |[]=>none
def MU(hW:bg σ W w.heap){argTypes:Array ai}{ty:ai}{d x d' x' v:ae}{W':AW}(h:KM P W argTypes d x=some (v,W'))(hd:VR σ d d')(hx:VR σ x x'):
 ∃v' w',(Builtin.copy_ argTypes ty #[d',x']).run P w=.ok v' w'/\VR σ v v'/\bg σ W' w'.heap/\eB σ W w σ W' w':=by
 have h0:∀(a':aP),(loadCells a' 0).run P w=.ok #[] w:=λa'=>by simp[loadCells,loadCellsFrom]
 unfold KM at h;split at h
 ·rename_i t0 ij oC;have Cg:argTypes=(t0::ij).toArray:=by rw[<-oC]
  subst Cg;split at h
  ·rename_i e base dl dc xb sl xc he;have hu:=mi he;split at h
   ·rename_i z hz;have ZR:∃KQ yx,x'=.slice KQ sl yx:=by cases hx<;>exact⟨_,_,rfl⟩
    obtain⟨KQ,yx,rfl⟩:=ZR;have Uy:∃b' c',d'=.slice b' dl c':=by cases hd<;>exact⟨_,_,rfl⟩
    obtain⟨db',dc',rfl⟩:=Uy;split at h
    ·rename_i hn;injection h with h;injection h with hv hw;subst hv;subst hw;refine⟨goInt 0,w,?_,.int _ _,hW,eB.refl _ _ _⟩;have hf:(Builtin.firstCells z 0 (.slice KQ sl yx)).run P w=.ok #[] w:=by cases KQ<;>simp[Builtin.firstCells,h0]
     have C5:min sl dl=0:=hn;cases db'<;>simp[Builtin.copy_,bJ hu,Builtin.lenOf,bz hz,hf,storeCells,hn,goInt]
    ·rename_i hn;split at h
     ·cases h
     ·rename_i Nr;split at h
      ·rename_i new a hr;cases Wq:lq W a.block a.off new with
       |none=>rw[Wq]at h;cases h
       |some W2=>
        rw[Wq]at h;simp only[cD,fI,nE]at h;obtain⟨hv,hw⟩:=h;subst hw;subst hv;obtain⟨gE,h1,h2,h3⟩:=tL (P:=P) hW hr hx;cases hd with
        |di _ a' _ g hg lT=>exact absurd (Nat.min_zero _) hn
        |slice _ _ _ c' g hg sw lT=>obtain⟨w2,k1,k2,k3⟩:=qg (P:=P) hW Wq hg h1;refine⟨goInt (Nat.min sl dl),w2,?_,.int _ _,k2,k3⟩;have C5:Nat.min sl dl=min sl dl:=rfl;rw[C5]at h3;simp[Builtin.copy_,bJ hu,Builtin.lenOf,bz hz,h3,k1,goInt]
      ·cases h
   ·cases h
  ·cases h
 ·cases h
def EE(P:ah)(W:AW)(argTypes:Array ai)(x:ae):Option AW:=
 match argTypes.toList with
 |t0::_=>match jo P t0,x with
  |some e,.slice base n _=>match kv P e,jK P e with
   |some z,some zv=>
    if n=0 then some W
    else match base with
     |none=>none
     |some a=>if(Builtin.zeroCells zv.cells n).toList.all cJ=true/\0<z then lq W a.block a.off (Builtin.zeroCells zv.cells n).toList else none
   |_,_=>none
  |_,_=>none
 |[]=>none
def Jw(hW:bg σ W w.heap){argTypes:Array ai}{ty:ai}{x x':ae}{W':AW}(h:EE P W argTypes x=some W')(hx:VR σ x x'):
 ∃w',(Builtin.clear_ argTypes ty #[x']).run P w=.ok (.tuple #[]) w'/\bg σ W' w'.heap/\eB σ W w σ W' w':=by
 unfold EE at h;split at h
 ·rename_i t0 ij oC;have Cg:argTypes=(t0::ij).toArray:=by rw[<-oC]
  subst Cg;split at h
  ·rename_i e base n c he;have hu:=mi he;split at h
   ·rename_i z zv hz hzv;obtain⟨wK,zJ⟩:=fS hzv w;split at h
    ·rename_i hn;subst hn;injection h with h;subst h;refine⟨w,?_,hW,eB.refl _ _ _⟩;cases hx<;>simp[Builtin.clear_,bJ hu]
    ·rename_i hn;split at h
     ·cases h
     ·rename_i a;split at h
      ·rename_i hc;cases hx with
       |di _ a' _ g hg lT=>exact absurd rfl hn
       |slice _ _ _ c' g hg sw lT=>obtain⟨w2,k1,k2,k3⟩:=qg (P:=P) hW h hg (LR.kG (σ:=σ) (λ_=>ei) hc.1);refine⟨w2,?_,k2,k3⟩;obtain⟨m,rfl⟩:∃m,n=m+1:=⟨n-1,by omega⟩;simp[Builtin.clear_,bJ hu,wK,k1]
      ·cases h
   ·cases h
  ·cases h
 ·cases h
def Uj(k:aN)(n:Int)(h:k.min<=n/\n<=k.max):k.wrap n=n:=by obtain⟨h1,h2⟩:=h;cases k<;>simp[IntKind.wrap,IntKind.min,IntKind.max,IntKind.signed,IntKind.bits]at * <;>omega
def yQ(k:aN)(n:Int):Int:=if k.min<=n/\n<=k.max then n else k.wrap n
def wi(k:aN)(n:Int):yQ k n=k.wrap n:=by
 unfold yQ;split
 ·rename_i h;exact(Uj k n h).symm
 ·rfl
def ua(k:aN)(n:Int):ae:=
 Int.rec (motive:=λ_=>ae) (λa=>Nat.rec (motive:=λ_=>ae) (.int k (.ofNat 0)) (λm _=>.int k (.ofNat (Nat.succ m))) a)
  (λa=>Nat.rec (motive:=λ_=>ae) (.int k (.negSucc 0)) (λm _=>.int k (.negSucc (Nat.succ m))) a) n
def pr(k:aN)(n:Int):ua k n=.int k n:=by
 cases n with
 |ofNat a=>cases a<;>rfl
 |negSucc a=>cases a<;>rfl
def CD(op:BinOp)(k:aN)(a b:Int):Option ae:=
 match op with
 |.add=>some (ua k (yQ k (a+b)))
 |.sub=>some (ua k (yQ k (a-b)))
 |.mul=>some (ua k (yQ k (a*b)))
 |.eql=>some (.bool (decide (a=b)))
 |.neq=>some (.bool (!decide (a=b)))
 |.lss=>some (.bool (decide (a<b)))
 |.leq=>some (.bool (decide (a<=b)))
 |.gtr=>some (.bool (decide (b<a)))
 |.geq=>some (.bool (decide (b<=a)))
 |_=>none
def mh(P:ah)(W:AW)(t:ai)(x y:ae):Option Bool:=
 match P.underlying t,x,y with
 |some (.pointer _),.pointer none,.pointer b=>some b.isNone
 |some (.pointer _),.pointer (some _),.pointer none=>some false
 |some (.pointer e),.pointer (some a),.pointer (some b)=>match kv P e with
  |some (_+1)=>match W.get a.block,W.get b.block with
   |some (.cells ca),some (.cells cb)=>if a.block=b.block then some (decide (a.off=b.off))else if a.off<ca.length/\b.off<cb.length then some false else none
   |_,_=>none
  |_=>none
 |some (.slice _),.slice none _ _,.slice b _ _=>some b.isNone
 |some (.slice _),.slice (some _) _ _,.slice none _ _=>some false
 |some (.map _ _),.map none,.map b=>some b.isNone
 |some (.map _ _),.map (some _),.map none=>some false
 |some (.func _ _ _),.nilFunc,.nilFunc=>some true
 |some (.func _ _ _),.nilFunc,.func _ _ _=>some false
 |some (.func _ _ _),.func _ _ _,.nilFunc=>some false
 |_,_,_=>none
def QB(hW:bg σ W w.heap){t:ai}{x y x' y':ae}{b:Bool}(h:mh P W t x y=some b)(hx:VR σ x x')(hy:VR σ y y')(d:Nat):
 (Op.equalIn (d+1) t x' y').run P w=.ok b w:=by
 unfold mh at h;split at h
 ·rename_i e b0 hu;injection h with h;subst h;cases hx;cases hy<;>simp[Op.equalIn,bJ hu]
 ·rename_i e a0 hu;injection h with h;subst h;cases hx;cases hy;simp[Op.equalIn,bJ hu]
 ·rename_i e a0 b0 hu;split at h
  ·rename_i n hn;split at h
   ·split at h
    ·rename_i UY;injection h with h;subst h;cases hx with
     |ptr _ g hg hs=>
      cases hy with
      |ptr _ g2 GM lX=>
       rw[<-UY,hg]at GM;injection GM with GM;subst GM;have ahC:((⟨g.B,g.s+a0.off,none⟩:aP)==⟨g.B,g.s+b0.off,none⟩)=decide (a0.off=b0.off):=by rw[oi];simp
       simp[Op.equalIn,bJ hu,bz hn,sameAddr,ahC]
    ·rename_i ca cb hca Cs UY;split at h
     ·rename_i nv;injection h with h;subst h;cases hx with
      |ptr _ g hg hs=>
       cases hy with
       |ptr _ g2 GM lX=>
        obtain⟨c1,t1,fr1,p1,p0,p2,p3,_⟩:=hW.obj _ _ g hca hg;obtain rfl:=p0 (by omega);obtain⟨c2,t2,fr2,q1,q0,q2,q3,_⟩:=hW.obj _ _ g2 Cs GM;obtain rfl:=q0 (by omega);have hd:=hW.ny _ _ _ _ g g2 UY hca Cs hg GM rfl;have fe:(⟨g.B,g.s+a0.off,none⟩:aP)≠⟨g2.B,g2.s+b0.off,none⟩:=by
         intro he;injection he with e1 e2 _;rcases hd with r|r|r
         ·exact r e1
         ·omega
         ·omega
        simp[Op.equalIn,bJ hu,bz hn,run_sameAddr_other w fe p1 q1]
     ·cases h
   ·cases h
  ·cases h
 ·rename_i e _ _ b0 _ _ hu;injection h with h;subst h;cases hx;cases hy<;>simp[Op.equalIn,bJ hu]
 ·rename_i e a0 _ _ _ _ hu;injection h with h;subst h;cases hx<;>cases hy<;>simp[Op.equalIn,bJ hu]
 ·rename_i k e b0 hu;injection h with h;subst h;cases hx;cases hy<;>simp[Op.equalIn,bJ hu]
 ·rename_i k e a0 hu;injection h with h;subst h;cases hx;cases hy;simp[Op.equalIn,bJ hu]
 ·rename_i ps rs vv hu;injection h with h;subst h;cases hx;cases hy;simp[Op.equalIn,bJ hu]
 ·rename_i ps rs vv _ _ _ hu;injection h with h;subst h;cases hx;cases hy;simp[Op.equalIn,bJ hu]
 ·rename_i ps rs vv _ _ _ hu;injection h with h;subst h;cases hx;cases hy;simp[Op.equalIn,bJ hu]
 ·cases h
end
end
section
variable [ak]
section
variable {P:ah} {σ:cV} {W:AW} {w:aq}
def FR(σ:cV):Option (Nat×ae)->Option (Nat×ae)->Prop
 |none,none=>True
 |some (i,v),some (j,v')=>i=j/\VR σ v v'
 |_,_=>False
def ER.of_cons{e:ba}{l m:List ba}(h:ER σ (e::l) m):∃e' l',m=e'::l'/\VR σ e.key e'.key/\VR σ e.val e'.val/\e.born=e'.born/\ER σ l l':=by
 cases m with
 |nil=>have:=h.1;simp at this
 |cons e' l'=>have h0:=h.2 0 e e' (by simp) (by simp);exact⟨e',l',rfl,h0.1,h0.2.1,h0.2.2,by have:=h.1;simpa using this,λi u u' a b=>h.2 (i+1) u u' (by simpa using a) (by simpa using b)⟩
def ER.of_nil{m:List ba}(h:ER σ [] m):m=[]:=by have:=h.1;simp at this;exact rO this.symm
def ER.nil:ER σ [] []:=⟨rfl,λi e e' a=>by simp at a⟩
def fU(es:List ba):Bool:=es.all λe=>bI e.key
def HV(kind:TypeDesc)(k:ae):∀(es fE:List ba) (i:Nat) (r:Option (Nat×ae)),ER σ es fE->fU es=true->Instr.findNow kind k es i=some r->
 ∃r',Instr.findNow kind k fE i=some r'/\FR σ r r':=by
 intro es;induction es with
 |nil=>intro fE i r h _ hf;have:=h.of_nil;subst this;simp only[Instr.findNow]at hf|-;injection hf with hf;subst hf;exact⟨none,rfl,aB⟩
 |cons e es ih=>
  intro fE i r h hp hf;obtain⟨e',l',rfl,hk,hv,_,hl⟩:=h.of_cons;simp only[fU,eP,bB]at hp;have O1:=eS hp.1 hk;simp only[Instr.findNow]at hf|-;rw[O1];cases hs:Instr.sameNow kind k e.key with
  |none=>rw[hs]at hf;cases hf
  |some b=>
   rw[hs]at hf;cases b with
   |true=>simp only at hf|-;injection hf with hf;subst hf;exact⟨_,rfl,rfl,hv⟩
   |false=>simp only at hf|-;exact ih l' (i+1) r hl hp.2 hf
def OC(P:ah)(kt:ai)(k:ae):List ba->Nat->Option (Option (Nat×ae))
 |[],_=>some none
 |e::es,i=>match cd P (Op.equal kt k e.key)with
  |some true=>some (some (i,e.val))
  |some false=>OC P kt k es (i+1)
  |none=>none
def rV(kt:ai)(k:ae):∀(es fE:List ba) (i:Nat) (r:Option (Nat×ae)),ER σ es fE->fU es=true->OC P kt k es i=some r->
 ∃r',(Instr.findAsking kt k fE i).run P w=.ok r' w/\FR σ r r':=by
 intro es;induction es with
 |nil=>intro fE i r h _ hf;have:=h.of_nil;subst this;simp only[OC]at hf;injection hf with hf;subst hf;exact⟨none,rfl,aB⟩
 |cons e es ih=>
  intro fE i r h hp hf;obtain⟨e',l',rfl,hk,hv,_,hl⟩:=h.of_cons;simp only[fU,eP,bB]at hp;have O1:=eS hp.1 hk;simp only[OC]at hf;cases hs:cd P (Op.equal kt k e.key)with
  |none=>rw[hs]at hf;cases hf
  |some b=>
   rw[hs]at hf;have hr:=nP _ hs w;rw[<-O1]at hr;cases b with
   |true=>simp only at hf;injection hf with hf;subst hf;exact⟨some (i,e'.val),by simp[Instr.findAsking,hr],rfl,hv⟩
   |false=>simp only at hf;obtain⟨r',h1,h2⟩:=ih l' (i+1) r hl hp.2 hf;exact⟨r',by simp[Instr.findAsking,hr,h1],h2⟩
def Po(P:ah)(kt:ai)(k:ae)(es:List ba):Option (Option (Nat×ae)):=
 if bI k=true/\fU es=true then
  match P.underlying kt with
  |some kind=>match Instr.findNow kind k es 0 with
   |some r=>some r
   |none=>none
  |none=>none
 else none
def uq(P:ah)(kt:ai)(k:ae)(es:List ba):Option (Option (Nat×ae)):=
 match Po P kt k es with
 |some r=>some r
 |none=>if bI k=true/\fU es=true then
  match P.underlying kt with
  |some (.array n e)=>(match Instr.findNow (.array n e) k es 0 with|some _=>none|none=>OC P kt k es 0)
  |some (.struct fs)=>(match Instr.findNow (.struct fs) k es 0 with|some _=>none|none=>OC P kt k es 0)
  |_=>none
  else none
def wq(kind:TypeDesc)(k:ae):∀(es fE:List ba) (i:Nat),ER σ es fE->fU es=true->Instr.findNow kind k es i=none->Instr.findNow kind k fE i=none:=by
 intro es;induction es with
 |nil=>intro fE i h _ hf;simp[Instr.findNow]at hf
 |cons e es ih=>
  intro fE i h hp hf;obtain⟨e',l',rfl,hk,hv,_,hl⟩:=h.of_cons;simp only[fU,eP,bB]at hp;have O1:=eS hp.1 hk;simp only[Instr.findNow]at hf|-;rw[O1];cases hs:Instr.sameNow kind k e.key with
  |none=>rfl
  |some b=>
   rw[hs]at hf;cases b with
   |true=>simp at hf
   |false=>simp only at hf|-;exact ih l' (i+1) hl hp.2 hf
def o6{kt:ai}{k k':ae}{es fE:List ba}{r:Option (Nat×ae)}(h:uq P kt k es=some r)(hk:VR σ k k')(he:ER σ es fE):
 ∃r',(Instr.findKey kt k' fE).run P w=.ok r' w/\FR σ r r'/\k'=k:=by
 unfold uq at h;split at h
 ·rename_i r0 h0;injection h with h;subst h;unfold Po at h0;split at h0
  ·rename_i hc;have O1:=eS hc.1 hk;subst O1;split at h0
   ·rename_i kind hu;split at h0
    ·rename_i r1 h1;injection h0 with h0;subst h0;obtain⟨r',a,b⟩:=HV kind k' es fE 0 r1 he hc.2 h1;exact⟨r',by simp[Instr.findKey,bJ hu,a],b,rfl⟩
    ·cases h0
   ·cases h0
  ·cases h0
 ·split at h
  ·rename_i hc;have O1:=eS hc.1 hk;subst O1;split at h
   ·rename_i n e hu;split at h
    ·cases h
    ·rename_i h1;obtain⟨r',a,b⟩:=rV (P:=P) (w:=w) kt k' es fE 0 r he hc.2 h;exact⟨r',by simp[Instr.findKey,bJ hu,wq _ _ es fE 0 he hc.2 h1,a],b,rfl⟩
   ·rename_i fs hu;split at h
    ·cases h
    ·rename_i h1;obtain⟨r',a,b⟩:=rV (P:=P) (w:=w) kt k' es fE 0 r he hc.2 h;exact⟨r',by simp[Instr.findKey,bJ hu,wq _ _ es fE 0 he hc.2 h1,a],b,rfl⟩
   ·cases h
  ·cases h
def sd(P:ah)(empty:Bool)(kt:ai)(k:ae):Bool:=
 bI k&&(cd P (Instr.checkKey empty 10000 kt k)).isSome
def jp{empty:Bool}{kt:ai}{k k':ae}(h:sd P empty kt k=true)(hk:VR σ k k')(w:aq):(Instr.checkKey empty 10000 kt k').run P w=.ok () w:=by
 simp only[sd,bB]at h;rw[eS h.1 hk];cases hp:cd P (Instr.checkKey empty 10000 kt k)with
 |none=>rw[hp]at h;simp at h
 |some u=>exact nP _ hp w
def zT{z:ae}(h:z.cells.toList.all cJ=true):VR σ z z:=by
 cases z with
 |agg cs=>exact VR.Kg (LR.kG (λ_=>ei) h)
 |_=>exact ei (by simpa[Value.cells]using h)
def zW(hW:bg σ W w.heap){r:Nat}{g:rB}{es:List ba}{c:Nat}(hr:W.get r=some (.map es c))(hg:σ r=some g):
 g.s=0/\g.e=1/\∃fE:Array ba,w.heap[g.B]? =some (.map fE c)/\ER σ es fE.toList:=hW.obj r _ g hr hg
def run_getObj_map{B:Nat}{es:Array ba}{c:Nat}(h:w.heap[B]? =some (.map es c)):(getObj B).run P w=.ok (.map es c) w:=by simp[getObj,Sem.run,h]
def jE{B:Nat}{es:Array ba}{c:Nat}(o:mj)(h:w.heap[B]? =some (.map es c)):(setObj B o).run P w=.ok () {w with heap:=w.heap.setIfInBounds B o}:=by simp[setObj,Sem.run,h]
def tW(P:ah)(e:ai)(ok:Bool)(r:Option (Nat×ae)):Option ae:=
 match r with
 |some (_,v)=>some (if ok then .tuple #[v,.bool true]else v)
 |none=>match jK P e with
  |some z=>some (if ok then .tuple #[z,.bool false]else z)
  |none=>none
def kR(P:ah)(W:AW)(t:ai)(m k:ae)(ok:Bool):Option ae:=
 match P.underlying t,m with
 |some (.map kt e),.map none=>if sd P true kt k then tW P e ok none else none
 |some (.map kt e),.map (some r)=>match W.get r with
  |some (.map es _)=>if sd P es.isEmpty kt k then match uq P kt k es with
   |some r=>tW P e ok r
   |none=>none
   else none
  |_=>none
 |_,_=>none
def Fi{a b a' b':ae}(h1:VR σ a a')(h2:VR σ b b'):VR σ (.tuple #[a,b]) (.tuple #[a',b']):=VR.tuple' (by simpa using LR.cons h1 (.cons h2 .nil))
def Ib(kt:ai)(d:TypeDesc)(hu:P.underlying kt=some d)(k:ae):(Instr.findKey kt k []).run P w=.ok none w:=by simp[Instr.findKey,bJ hu,Instr.findNow]
def CJ{kt:ai}(h:P.underlying kt=none)(empty:Bool)(d:Nat)(k:ae):(Instr.checkKey empty (d+1) kt k).run P w=.halt (.stuck "no such type") w:=by simp[Instr.checkKey,underlying,h]
def G0{empty:Bool}{kt:ai}{k:ae}(h:sd P empty kt k=true):∃d,P.underlying kt=some d:=by
 simp only[sd,bB]at h;cases hp:cd P (Instr.checkKey empty 10000 kt k)with
 |none=>rw[hp]at h;simp at h
 |some u=>
  have hr:=nP (P:=P) _ hp default;cases hd:P.underlying kt with
  |some d=>exact⟨d,rfl⟩
  |none=>exfalso;have h1:(Instr.checkKey empty 10000 kt k).run P default=.halt (.stuck "no such type") default:=CJ hd empty 9999 k;rw[h1]at hr;cases hr
def yv{es:List ba}{fE:Array ba}(h:ER σ es fE.toList):fE.isEmpty=es.isEmpty:=by obtain⟨l⟩:=fE;have h1:=h.1;cases es<;>cases l<;>first|rfl|(simp at h1;done)|simp
def Fp(fE:Array ba)(i:Nat):(fE.eraseIdxIfInBounds i).toList=fE.toList.eraseIdx i:=by
 unfold Array.eraseIdxIfInBounds;split
 ·simp
 ·rename_i hi;rw[List.eraseIdx_of_length_le];simp;omega
def L3(fE:Array ba)(i:Nat)(hi:i<fE.size)(k v:ae):fE.modify i (λe=>{e with key:=k,val:=v})=fE.setIfInBounds i {fE[i]with key:=k,val:=v}:=by
 apply Array.ext_getElem?;intro n;rw[w5,E5];by_cases hn:i=n
 ·subst hn;simp[hi]
 ·simp[hn]
def Ie(hW:bg σ W w.heap){t:ai}{m k m' k' v:ae}{ok:Bool}(h:kR P W t m k ok=some v)(hm:VR σ m m')(hk:VR σ k k'):
 ∃v',(Instr.lookup t m' k' ok).run P w=.ok v' w/\VR σ v v':=by
 unfold kR at h;split at h
 ·rename_i kt e hu;split at h
  ·rename_i MJ;cases hm;obtain⟨d,hd⟩:=G0 MJ;simp only[tW]at h;split at h
   ·rename_i z hz;injection h with h;subst h;obtain⟨wK,zJ⟩:=fS hz w;refine⟨if ok then .tuple #[z,.bool false]else z,?_,?_⟩
    ·simp[Instr.lookup,bJ hu,jp MJ hk w,Ib kt d hd,wK]
    ·cases ok
     ·exact zT zJ
     ·exact Fi (zT zJ) (.bool false)
   ·cases h
  ·cases h
 ·rename_i kt e r hu;split at h
  ·rename_i es c hr;split at h
   ·rename_i MJ;split at h
    ·rename_i fr hf;cases hm with
     |map _ g hg=>
      obtain⟨g1,g2,fE,g3,g4⟩:=zW hW hr hg;obtain⟨r',f1,f2,f3⟩:=o6 (w:=w) hf hk g4;have P5:=yv g4;cases fr with
      |some p=>
       cases r' with
       |none=>exact f2.elim
       |some p'=>
        simp only[tW]at h;injection h with h;subst h;refine⟨if ok then .tuple #[p'.2,.bool true]else p'.2,?_,?_⟩
        ·simp only[Instr.lookup,ch,bJ hu,b8,run_getObj_map g3,ff,P5,jp MJ hk w,f1]
        ·cases ok
         ·exact f2.2
         ·exact Fi f2.2 (.bool true)
      |none=>
       cases r' with
       |some p'=>exact f2.elim
       |none=>
        simp only[tW]at h;split at h
        ·rename_i z hz;injection h with h;subst h;obtain⟨wK,zJ⟩:=fS hz w;refine⟨if ok then .tuple #[z,.bool false]else z,?_,?_⟩
         ·simp only[Instr.lookup,ch,bJ hu,b8,run_getObj_map g3,ff,P5,jp MJ hk w,f1,wK]
         ·cases ok
          ·exact zT zJ
          ·exact Fi (zT zJ) (.bool false)
        ·cases h
    ·cases h
   ·cases h
  ·cases h
 ·cases h
def jh(P:ah)(W:AW)(t:ai)(m k v:ae):Option AW:=
 match P.underlying t,m with
 |some (.map kt _),.map (some r)=>match W.get r with
  |some (.map es c)=>if sd P false kt k then match uq P kt k es with
   |some (some (i,_))=>match es[i]? with
    |some e=>if Instr.sameBits 10000 e.key k=true/\bI e.key=true then some (W.put r (.map (es.set i {e with key:=k,val:=v}) c))else none
    |none=>none
   |some none=>some (W.put r (.map (es++[{key:=k,val:=v,born:=c}]) (c+1)))
   |none=>none
   else none
  |_=>none
 |_,_=>none
def ER.set{es fE:List ba}(h:ER σ es fE)(i:Nat){e e':ba}(hk:VR σ e.key e'.key)(hv:VR σ e.val e'.val)(hb:e.born=e'.born):ER σ (es.set i e) (fE.set i e'):=by
 refine⟨by simp[h.1],λj a b x y=>?_⟩;rw[rH]at x y;by_cases hn:i=j
 ·subst hn;simp only[bk]at x y;split at x
  ·split at y
   ·simp at x y;subst x;subst y;exact⟨hk,hv,hb⟩
   ·cases y
  ·cases x
 ·rw[ay hn]at x y;exact h.2 j a b x y
def ER.snoc{es fE:List ba}(h:ER σ es fE){e e':ba}(hk:VR σ e.key e'.key)(hv:VR σ e.val e'.val)(hb:e.born=e'.born):ER σ (es++[e]) (fE++[e']):=by
 refine⟨by simp[h.1],λj a b x y=>?_⟩;rw[ul]at x y;rw[<-h.1]at y;split at x
 ·rename_i hj;rw[ax hj]at y;exact h.2 j a b x y
 ·rename_i hj;rw[ay hj]at y;cases hjj:j-es.length with
  |zero=>rw[hjj]at x y;simp at x y;subst x;subst y;exact⟨hk,hv,hb⟩
  |succ n=>rw[hjj]at x;simp at x
def ER.erase{es fE:List ba}(h:ER σ es fE)(i:Nat):ER σ (es.eraseIdx i) (fE.eraseIdx i):=by
 refine⟨by simp[List.length_eraseIdx,h.1],λj a b x y=>?_⟩;rw[List.getElem?_eraseIdx]at x y;split at x
 ·rename_i hj;rw[ax hj]at y;exact h.2 _ a b x y
 ·rename_i hj;rw[ay hj]at y;exact h.2 _ a b x y
def zP(hW:bg σ W w.heap){r:Nat}{g:rB}{es T2:List ba}{fE:Array ba}{c c2:Nat}(hr:W.get r=some (.map es c))(hg:σ r=some g)(h1:g.s=0)(h2:g.e=1)(h3:w.heap[g.B]? =some (.map fE c))
 (Vm:Array ba)(he:ER σ T2 Vm.toList):
 bg σ (W.put r (.map T2 c2)) (w.heap.setIfInBounds g.B (.map Vm c2))/\eB σ W w σ (W.put r (.map T2 c2)) {w with heap:=w.heap.setIfInBounds g.B (.map Vm c2)}:=by
 have gY:g.B<w.heap.size:=(dB.1 h3).1;exact hW.setObj hr (λ_ hx=>by cases hx) hg ⟨h1,h2⟩ (λc t fr hx=>by rw[h3]at hx;cases hx)
  ⟨h1,h2,Vm,by simp[gY],he⟩
def B8(hW:bg σ W w.heap){t:ai}{m k v m' k' v':ae}{W':AW}(h:jh P W t m k v=some W')(hm:VR σ m m')(hk:VR σ k k')(hv:VR σ v v'):
 ∃w',(Instr.mapUpdate t m' k' v').run P w=.ok () w'/\bg σ W' w'.heap/\eB σ W w σ W' w':=by
 unfold jh at h;split at h
 ·rename_i kt e r hu;split at h
  ·rename_i es c hr;split at h
   ·rename_i MJ;cases hm with
    |map _ g hg=>
     obtain⟨g1,g2,fE,g3,g4⟩:=zW hW hr hg;split at h
     ·rename_i i u hf;obtain⟨r',f1,f2,f3⟩:=o6 (w:=w) hf hk g4;subst f3;split at h
      ·rename_i en hen;split at h
       ·rename_i hsb;injection h with h;subst h;cases r' with
        |none=>exact f2.elim
        |some p=>
         obtain⟨j,u'⟩:=p;obtain⟨rfl,_⟩:=f2;have oI:i<fE.size:=by have h0:=(dV.1 hen).1;have:=g4.1;simp at this;omega
         have ag8:fE[i]? =some fE[i]:=gp oI;have hee:=g4.2 i en fE[i] hen (by simp[oI]);have agG:fE[i].key=en.key:=eS hsb.2 hee.1;obtain⟨q1,q2⟩:=zP (c2:=c) hW hr hg g1 g2 g3 (fE.setIfInBounds i {fE[i]with key:=k',val:=v'}) (T2:=es.set i {en with key:=k',val:=v})
          (by rw[ED];exact g4.set i (e:={en with key:=k',val:=v}) (e':={fE[i]with key:=k',val:=v'}) hk hv hee.2.2)
         refine⟨_,?_,q1,q2⟩;have Ys:=L3 fE i oI k' v';have hks:(Instr.keyThatStays (((fE[i]?).map (·.key)).getD k') k').run P w=.ok k' w:=by rw[ag8];simp only[cD,pB,agG,Instr.keyThatStays];rw[ax hsb.1];rfl
         simp only[Instr.mapUpdate,ch,bJ hu,b8,run_getObj_map g3,jp MJ hk w,f1,hks,Ys];exact jE _ g3
       ·cases h
      ·cases h
     ·rename_i hf;obtain⟨r',f1,f2,f3⟩:=o6 (w:=w) hf hk g4;subst f3;injection h with h;subst h;cases r' with
      |some p=>exact f2.elim
      |none=>
       obtain⟨q1,q2⟩:=zP (c2:=c+1) hW hr hg g1 g2 g3 (fE.push {key:=k',val:=v',born:=c}) (T2:=es++[{key:=k',val:=v,born:=c}])
        (by rw[Array.toList_push];exact g4.snoc (e:={key:=k',val:=v,born:=c}) (e':={key:=k',val:=v',born:=c}) hk hv rfl)
       refine⟨_,?_,q1,q2⟩;simp only[Instr.mapUpdate,ch,bJ hu,b8,run_getObj_map g3,jp MJ hk w,f1];exact jE _ g3
     ·cases h
   ·cases h
  ·cases h
 ·cases h
def mb(P:ah)(W:AW)(argTypes:Array ai)(m k:ae):Option AW:=
 match argTypes.toList with
 |t::_=>match P.underlying t,m with
  |some (.map kt _),.map none=>if sd P true kt k then some W else none
  |some (.map kt _),.map (some r)=>match W.get r with
   |some (.map es c)=>if sd P es.isEmpty kt k then match uq P kt k es with
    |some (some (i,_))=>some (W.put r (.map (es.eraseIdx i) c))
    |some none=>some (W.put r (.map es c))
    |none=>none
    else none
   |_=>none
  |_,_=>none
 |[]=>none
def Ha(hW:bg σ W w.heap){argTypes:Array ai}{ty:ai}{m k m' k':ae}{W':AW}(h:mb P W argTypes m k=some W')(hm:VR σ m m')(hk:VR σ k k'):
 ∃w',(Builtin.delete_ argTypes ty #[m',k']).run P w=.ok (.tuple #[]) w'/\bg σ W' w'.heap/\eB σ W w σ W' w':=by
 unfold mb at h;split at h
 ·rename_i t ij oC;have Cg:argTypes=(t::ij).toArray:=by rw[<-oC]
  subst Cg;split at h
  ·rename_i kt e hu;split at h
   ·rename_i MJ;injection h with h;subst h;cases hm;refine⟨w,?_,hW,eB.refl _ _ _⟩;simp[Builtin.delete_,bJ hu,jp MJ hk w]
   ·cases h
  ·rename_i kt e r hu;split at h
   ·rename_i es c hr;split at h
    ·rename_i MJ;cases hm with
     |map _ g hg=>
      obtain⟨g1,g2,fE,g3,g4⟩:=zW hW hr hg;have P5:=yv g4;split at h
      ·rename_i i u hf;obtain⟨r',f1,f2,f3⟩:=o6 (w:=w) hf hk g4;subst f3;injection h with h;subst h;cases r' with
       |none=>exact f2.elim
       |some p=>
        obtain⟨j,u'⟩:=p;obtain⟨rfl,_⟩:=f2;obtain⟨q1,q2⟩:=zP (c2:=c) hW hr hg g1 g2 g3 (fE.eraseIdxIfInBounds i) (T2:=es.eraseIdx i)
         (by rw[Fp];exact g4.erase i)
        refine⟨_,?_,q1,q2⟩;have hso:=jE (P:=P) (.map (fE.eraseIdxIfInBounds i) c) g3;simp[Builtin.delete_,bJ hu,run_getObj_map g3,P5,jp MJ hk w,f1,hso]
      ·rename_i hf;obtain⟨r',f1,f2,f3⟩:=o6 (w:=w) hf hk g4;subst f3;injection h with h;subst h;cases r' with
       |some p=>exact f2.elim
       |none=>obtain⟨q1,q2⟩:=zP (c2:=c) hW hr hg g1 g2 g3 fE (T2:=es) g4;refine⟨_,?_,q1,q2⟩;have hso:=jE (P:=P) (.map fE c) g3;simp[Builtin.delete_,bJ hu,run_getObj_map g3,P5,jp MJ hk w,f1,hso]
      ·cases h
    ·cases h
   ·cases h
  ·cases h
 ·cases h
end
end
section
variable [ak]
def vi(P:ah)(t:ai)(cs:Array ae)(off:Nat):Option ae:=
 match Mk P t with
 |some true=>match kv P t with
  |some n=>some (.agg (cs.extract off (off+n)))
  |none=>none
 |some false=>cs[off]?
 |none=>none
def Rq(P:ah)(g:ai->ae->ae->Option Bool)(xs ys:Array ae):List Field->Option Bool
 |[]=>some true
 |f::fs=>if f.name= "_" then none else match vi P f.type xs f.offset,vi P f.type ys f.offset with
  |some a,some b=>(match g f.type a b with
   |some true=>Rq P g xs ys fs
   |some false=>some false
   |none=>none)
  |_,_=>none
def xU(P:ah):Nat->ai->ae->ae->Option Bool
 |0,_,_,_=>none
 |n+1,t,x,y=>match P.underlying t with
  |some (.int _)=>(match x,y with
   |.int k a,.int k' b=>if k=k' then some (a==b)else none
   |_,_=>none)
  |some .bool=>(match x,y with
   |.bool a,.bool b=>some (a==b)
   |_,_=>none)
  |some (.struct fs)=>(match x,y with
   |.agg xs,.agg ys=>if P.stoodInHeld t=true then none else Rq P (xU P n) xs ys fs.toList
   |_,_=>none)
  |_=>none
def BD(P:ah)(t:ai)(x y:ae):Option Bool:=match x,y with
 |.agg _,.agg _=>if P.eqGuardType P.depth t=true then none else xU P 8 t x y
 |_,_=>none
def pn(P:ah)(W:AW)(op:BinOp)(t:ai)(x y:ae):Option ae:=
 match x,y with
 |.int k a,.int k' b=>if k=k' then CD op k a b else none
 |_,_=>match op with
  |.eql=>(match mh P W t x y with
   |some b=>some (.bool b)
   |none=>(BD P t x y).map .bool)
  |.neq=>(match mh P W t x y with
   |some b=>some (.bool !b)
   |none=>(BD P t x y).map λb=>.bool !b)
  |_=>none
def lz(t:ai)(cs:List ae):dO:=match cs with
 |[.pointer none,.slice none 0 0]=>.tc t [.pointer none,.slice none 0 0]
 |cs=>.cells cs
def CY(P:ah)(o:ao)(R:ak.Fr)(W:AW):Option (ae×AW):=
 match o.op with
 |.move x|.assign x=>some (aA R x,W)
 |.pick c a b=>match aA R c with
  |.bool true=>some (aA R a,W)
  |.bool false=>some (aA R b,W)
  |_=>none
 |.alloc t=>match jK P t with
  |some z=>some (W.new (lz t z.cells.toList) λb W'=>(Value.pointer (some ⟨b,0,none⟩),W'))
  |none=>none
 |.box _ x=>some (W.new (.cells (aA R x).cells.toList) λb W'=>(Value.pointer (some ⟨b,0,none⟩),W'))
 |.build t ps=>(uc P R t ps).map λv=>(v,W)
 |.buildSlice t len ps=>jl P R W t len ps
 |.load t a=>(iw P W t (aA R a)).map λv=>(v,W)
 |.store t a x=>(um P W t (aA R a) (aA R x)).map λW'=>(ag,W')
 |.nilCheck x=>match aA R x with
  |.pointer (some a)=>some (.pointer (some a),W)
  |.func (.func f) a b=>some (.func (.func f) a b,W)
  |.func (.yield l) a b=>some (.func (.yield l) a b,W)
  |.iface t v=>some (.iface t v,W)
  |_=>none
 |.binOp op t x y _=>match pn P W op t (aA R x) (aA R y)with
  |some v=>some (v,W)
  |none=>(ic P R o).map λv=>(v,W)
 |.unOp .. =>(ic P R o).map λv=>(v,W)
 |.convert s d x=>(Ax P W s d (aA R x) (ic P R o)).map λv=>(v,W)
 |.makeInterface t x=>match P.underlying t with
  |some (.interface _)=>none
  |some _=>some (.iface t (aA R x),W)
  |none=>none
 |.makeFunc (.func f) first ie=>some (.func (.func f) (first.map (aA R)) (ie.map (aA R)),W)
 |.makeMap t r=>match r with
  |none=>some (W.new (.map [] 0) λb W'=>(Value.map (some b),W'))
  |some h=>match P.underlying t,aA R h with
   |some (.map _ _),.int _ _=>some (W.new (.map [] 0) λb W'=>(Value.map (some b),W'))
   |_,_=>none
 |.makeSlice t l c=>kq P W t (aA R l) (aA R c)
 |.slice t x lo hi mx=>match mD P t (aA R x) (lo.map (aA R)) (hi.map (aA R)) (mx.map (aA R))with
  |some v=>some (v,W)
  |none=>(ic P R o).map λv=>(v,W)
 |.fieldAddr s x f=>match P.underlying s,aA R x with
  |some (.struct fs),.pointer (some a)=>match fs[f]? with
   |some fl=>match kv P fl.type with
    |some (_+1)=>some (.pointer (some (a.add fl.offset)),W)
    |_=>none
   |none=>none
  |_,_=>none
 |.field t x f=>match P.underlying t,aA R x with
  |some (.struct fs),.agg cs=>match fs[f]? with
   |some fl=>(vi P fl.type cs fl.offset).map λv=>(v,W)
   |none=>none
  |_,_=>none
 |.indexAddr t x i=>match P.underlying t,aA R x,lh (aA R i)with
  |some (.slice e),.slice (some a) len _,some n=>match kv P e with
   |some z=>if n<len then some (.pointer (some (a.add (n*z))),W)else none
   |none=>none
  |some (.array len e),.pointer (some a),some n=>match kv P e with
   |some z=>if n<len then some (.pointer (some (a.add (n*z))),W)else none
   |none=>none
  |_,_,_=>none
 |.index t x i=>match P.underlying t,aA R x,lh (aA R i)with
  |some (.array len e),.agg cs,some n=>match kv P e with
   |some z=>if n<len then(vi P e cs (n*z)).map λv=>(v,W)else none
   |none=>none
  |_,_,_=>(ic P R o).map λv=>(v,W)
 |.lookup t m k ok=>(kR P W t (aA R m) (aA R k) ok).map λv=>(v,W)
 |.mapUpdate t m k v=>(jh P W t (aA R m) (aA R k) (aA R v)).map λW'=>(ag,W')
 |.extract x i=>match aA R x with
  |.tuple vs=>(vs[i]?).map λv=>(v,W)
  |_=>none
 |.typeAssert x _ t ok=>match P.underlying t,aA R x with
  |some (.interface _),_=>none
  |some _,.iface u v=>if u=t then some (if ok then .tuple #[v,.bool true]else v,W)else none
  |_,_=>none
 |.range t x=>match P.underlying t,aA R x with
  |some .string,.string s=>some (W.new (.kW s 0) λb W'=>(Value.pointer (some ⟨b,0,none⟩),W'))
  |_,_=>none
 |.next it true=>match aA R it with
  |.pointer (some ⟨b,0,_⟩)=>match W.get b with
   |some (.kW s pos)=>if pos<s.size then some (.tuple #[.bool true,goInt pos,.int .i32 (Utf8.decode s pos).1],W.put b (.kW s (pos+(Utf8.decode s pos).2)))else some (.tuple #[.bool false],W)
   |_=>none
  |_=>none
 |_=>none
section
variable {P:ah} {σ:cV} {W:AW} {w:aq}
def VR.gx{b:Bool}{v:ae}(h:VR σ (.bool b) v):v=.bool b:=by cases h;rfl
def VR.Am{b:ByteArray}{v:ae}(h:VR σ (.string b) v):v=.string b:=by cases h;rfl
def VR.wo{a:aP}{v:ae}(h:VR σ (.pointer (some a)) v):∃g,σ a.block=some g/\a.spot=none/\v=.pointer (some ⟨g.B,g.s+a.off,none⟩):=by
 cases h with
 |ptr a g h hs=>exact⟨g,h,hs,rfl⟩
def VR.NI{a:aP}{l c:Nat}{v:ae}(h:VR σ (.slice (some a) l c) v):(∃g c',σ a.block=some g/\a.spot=none/\Ee g a.off l c c'/\v=.slice (some ⟨g.B,g.s+a.off,none⟩) l c')\/(l=0/\∃a',v=.slice (some a') 0 0):=by
 cases h with
 |slice a l c c' g h hs hc=>exact .inl ⟨g,c',h,hs,hc,rfl⟩
 |di a a' c g h hc=>exact .inr ⟨rfl,a',rfl⟩
def VR.wU{t:ai}{u v:ae}(h:VR σ (.iface t u) v):∃u',VR σ u u'/\v=.iface t u':=by
 cases h with
 |iface t u u' h=>exact⟨u',h,rfl⟩
def VR.KK{cs:Array ae}{v:ae}(h:VR σ (.agg cs) v):∃cz,LR σ cs.toList cz.toList/\v=.agg cz:=by
 cases h with
 |agg cs cz h1 h2=>exact⟨cz,.ux h1 h2,rfl⟩
def VR.Nv{cs:Array ae}{v:ae}(h:VR σ (.tuple cs) v):∃cz,LR σ cs.toList cz.toList/\v=.tuple cz:=by
 cases h with
 |tuple cs cz h1 h2=>exact⟨cz,.ux h1 h2,rfl⟩
def VR.jU{fn:Fn}{fs cs:Array ae}{v:ae}(h:VR σ (.func fn fs cs) v):∃CQ rJ cz,Su σ fn CQ/\LR σ fs.toList rJ.toList/\LR σ cs.toList cz.toList/\v=.func CQ rJ cz:=by
 cases h with
 |func fn CQ fs rJ cs cz hf h1 h2 h3 h4=>exact⟨CQ,rJ,cz,hf,.ux h1 h2,.ux h3 h4,rfl⟩
def VR.nT{k:aN}{n:Int}{v:ae}(h:VR σ (.int k n) v):v=.int k n:=by cases h;rfl
def tf{t:ai}{cs cz:Array ae}{off:Nat}{v:ae}(h:vi P t cs off=some v)(hc:LR σ cs.toList cz.toList)(w:aq):
 ∃v',(part t cz off).run P w=.ok v' w/\VR σ v v':=by
 unfold vi at h;split at h
 ·rename_i ha;split at h
  ·rename_i n hn;injection h with h;subst h;refine⟨.agg (cz.extract off (off+n)),by simp[part,qp ha,bz hn],VR.Kg ?_⟩;simp only[Array.toList_extract,Fq];exact(hc.drop off).take _
  ·cases h
 ·rename_i ha;obtain⟨v',h1,h2⟩:=hc.get (i:=off) (v:=v) (by simpa using h);refine⟨v',?_,h2⟩;have PO:cz[off]? =some v':=by simpa using h1
  simp[part,qp ha,PO]
 ·cases h
def VR.wj{xs:Array ae}{v:ae}(h:VR σ (.agg xs) v):∃ys,v=.agg ys/\LR σ xs.toList ys.toList:=by
 cases h with
 |agg _ cz h1 h2=>exact⟨cz,rfl,by simpa using h1,λi v v' a b=>h2 i v v' (by simpa using a) (by simpa using b)⟩
def Qa:∀(n:Nat) {t:ai} {x y x' y':ae} {b:Bool},xU P n t x y=some b->VR σ x x'->VR σ y y'->∀d,(Op.equalIn (n+d) t x' y').run P w=.ok b w:=by
 intro n;induction n with
 |zero=>intro t x y x' y' b h;cases h
 |succ n ih=>
  intro t x y x' y' b h hx hy d;rw[show n+1+d=(n+d)+1 by omega];unfold xU at h;split at h
  ·rename_i k0 hu;split at h
   ·rename_i k a k' c;split at h
    ·rename_i hk;subst hk;injection h with h;subst h;rw[hx.nT,hy.nT];exact run_equalIn_int w _ t k k0 a c hu
    ·cases h
   ·cases h
  ·rename_i hu;split at h
   ·rename_i a c;injection h with h;subst h;rw[hx.gx,hy.gx];exact run_equalIn_bool' w _ t a c hu
   ·cases h
  ·rename_i fs hu;split at h
   ·rename_i xs ys;split at h
    ·cases h
    rename_i px;obtain⟨xs',rfl,ZR⟩:=hx.wj;obtain⟨ys',rfl,hys⟩:=hy.wj;have hfo:P.fieldsOf t=fs:=by unfold Program.fieldsOf;rw[hu]
    rw[run_equalIn_struct w (n+d) t xs' ys' (by rw[hfo];exact hu) (by simpa using px),hfo];generalize fs.toList=l at h;induction l with
    |nil=>injection h with h;subst h;simp[Op.eqFields]
    |cons f l ihl=>
     unfold Rq at h;split at h
     ·cases h
     rename_i oQ;split at h
     ·rename_i a c ha hc;obtain⟨a',ra,va⟩:=tf (P:=P) ha ZR w;obtain⟨c',rc,vc⟩:=tf (P:=P) hc hys w;unfold Op.eqFields;rw[ax oQ,ch,ra,b8,ch,rc,b8,ch];split at h
      ·rename_i he;rw[ih he va vc d,b8];simpa using ihl h
      ·rename_i he;injection h with h;subst h;rw[ih he va vc d,b8];simp
      ·cases h
     ·cases h
   ·cases h
  ·cases h
def Rt(P:ah)(W:AW)(t:ai)(a b:Array ae):mh P W t (.agg a) (.agg b)=none:=by
 unfold mh;cases P.underlying t with
 |none=>rfl
 |some d=>cases d<;>rfl
def Du{P:ah}{t:ai}{x y:ae}{b:Bool}(h:BD P t x y=some b)(W:AW):mh P W t x y=none:=by
 unfold BD at h;split at h
 ·exact Rt P W t _ _
 ·cases h
def GL{t:ai}{x y x' y':ae}{b:Bool}(h:BD P t x y=some b)(hx:VR σ x x')(hy:VR σ y y')(p q:ap):
 (do eqGuard .eql t p q x' y';binOp .eql t x' y':Sem ae).run P w=.ok (.bool b) w/\(do eqGuard .neq t p q x' y';binOp .neq t x' y':Sem ae).run P w=.ok (.bool !b) w:=by
 unfold BD at h;split at h
 ·rename_i xs ys;split at h
  ·cases h
  rename_i hg;obtain⟨xs',rfl,ZR⟩:=hx.wj;obtain⟨ys',rfl,hys⟩:=hy.wj;have hr:(Op.equalIn 10000 t (.agg xs') (.agg ys')).run P w=.ok b w:=Qa (w:=w) 8 h hx hy 9992;have KR:P.eqGuardType P.depth t=false:=by simpa using hg
  refine⟨?_,?_⟩
  ·rw[ch,run_eqGuard_agg _ _ _ _ _ _ _ KR,b8,run_eql_struct,hr,b8]
  ·rw[ch,run_eqGuard_agg _ _ _ _ _ _ _ KR,b8,run_neq_struct,hr,b8]
 ·cases h
def Q0(hW:bg σ W w.heap){op:BinOp}{t yt:ai}{x y:ap}{ρ:ap->ae}{u u' v:ae}{dst:Option Tmp}{type:ai}{pos:String}{after:Array Edge}{guard:Option (Nat×Bool)}
 (h:pn P W op t u u'=some v)(hx:VR σ u (ρ x))(hy:VR σ u' (ρ y)):
 ∃v',(execOp ρ {dst,op:=.binOp op t x y yt,type,pos,after,guard}).run P w=.ok (.value v') w/\VR σ v v':=by
 unfold pn at h;split at h
 ·rename_i k a k' b;split at h
  ·rename_i hk;subst hk;have ex:ρ x=.int k a:=hx.nT;have ey:ρ y=.int k b:=hy.nT;refine⟨v,?_,?_⟩
   ·have hg:∀(A B:ae),(eqGuard op t x y (.int k a) (.int k b)).run P w=.ok () w:=by intro _ _;unfold eqGuard;split<;>simp
    simp only[execOp,ex,ey,ch,hg .nilIface .nilIface,b8];unfold CD at h;split at h<;>(try(cases h;done))<;>(injection h with h;subst h;try simp only[pr,wi])<;>
     simp[binOp,Op.intArith,Op.intCmp,bne]<;>(try rfl)
   ·unfold CD at h;split at h<;>(try(cases h;done))<;>(injection h with h;subst h;try simp only[pr])<;>first|exact .int _ _|exact .bool _
  ·cases h
 ·have key:∀b,mh P W t u u'=some b->(Op.equal t (ρ x) (ρ y)).run P w=.ok b w:=λb hb=>QB hW hb hx hy 9999
  have shp:∀b,mh P W t u u'=some b->(∀(op:BinOp),(eqGuard op t x y (ρ x) (ρ y)).run P w=.ok () w)/\(binOp .eql t (ρ x) (ρ y)=(do pure (.bool (<-Op.equal t (ρ x) (ρ y)))))/\(binOp .neq t (ρ x) (ρ y)=(do pure (.bool (!(<-Op.equal t (ρ x) (ρ y)))))):=by
   intro b hb;unfold mh at hb;split at hb<;>first
    |(cases hb;done)
    |(generalize ρ x=rx at *
      generalize ρ y=ry at *
      cases hx<;>cases hy<;>refine⟨λop=>?_,rfl,rfl⟩<;>(unfold eqGuard;split<;>simp))
  split at h
  ·cases he:mh P W t u u' with
   |none=>
    rw[he]at h;cases ht:BD P t u u' with
    |none=>rw[ht]at h;cases h
    |some b=>rw[ht]at h;simp only[cD,fI]at h;subst h;have:=(GL (w:=w) ht hx hy x y).1;exact⟨.bool b,by simp only[execOp];rw[ch,this];rfl,.bool b⟩
   |some b=>rw[he]at h;simp only[fI]at h;subst h;obtain⟨s1,s2,s3⟩:=shp b he;exact⟨.bool b,by simp[execOp,s1,s2,key b he],.bool b⟩
  ·cases he:mh P W t u u' with
   |none=>
    rw[he]at h;cases ht:BD P t u u' with
    |none=>rw[ht]at h;cases h
    |some b=>rw[ht]at h;simp only[cD,fI]at h;subst h;have:=(GL (w:=w) ht hx hy x y).2;exact⟨.bool (!b),by simp only[execOp];rw[ch,this];rfl,.bool _⟩
   |some b=>rw[he]at h;simp only[fI]at h;subst h;obtain⟨s1,s2,s3⟩:=shp b he;exact⟨.bool (!b),by simp[execOp,s1,s3,key b he],.bool _⟩
  ·cases h
def tq(P:ah)(σ:cV)(W:AW)(w:aq)(s:Sem Next)(v:ae)(W':AW):Prop:=
 ∃σ' nx v' w',s.run P w=.ok nx w'/\(nx=.value v'\/(nx=.skip/\v'=ag))/\VR σ' v v'/\bg σ' W' w'.heap/\eB σ W w σ' W' w'
def tq.value{s:Sem ae}{v v':ae}{nx:Sem Next}(hn:nx=(do pure (.value (<-s))))(hW:bg σ W w.heap)(h:s.run P w=.ok v' w)(hv:VR σ v v'):tq P σ W w nx v W:=
 ⟨σ,.value v',v',w,by rw[hn];simp[h],.inl rfl,hv,hW,eB.refl _ _ _⟩
def tq.jN{s:Sem ae}{v:ae}{W':AW}{nx:Sem Next}(hn:nx=(do pure (.value (<-s))))(h:∃σ' v' w',s.run P w=.ok v' w'/\VR σ' v v'/\bg σ' W' w'.heap/\eB σ W w σ' W' w'):tq P σ W w nx v W':=by obtain⟨σ',v',w',h1,h2,h3,h4⟩:=h;exact⟨σ',.value v',v',w',by rw[hn];simp[h1],.inl rfl,h2,h3,h4⟩
def tq.unit{s:Sem Unit}{W':AW}{nx:Sem Next}(hn:nx=(do s;pure .skip))(h:∃w',s.run P w=.ok () w'/\bg σ W' w'.heap/\eB σ W w σ W' w'):tq P σ W w nx ag W':=by obtain⟨w',h1,h2,h3⟩:=h;exact⟨σ,.skip,ag,w',by rw[hn];simp[h1],.inr ⟨rfl,rfl⟩,.undef,h2,h3⟩
def tq.same{v v':ae}{nx:Sem Next}(hn:nx=pure (.value v'))(hW:bg σ W w.heap)(hv:VR σ v v'):tq P σ W w nx v W:=
 ⟨σ,.value v',v',w,by rw[hn];rfl,.inl rfl,hv,hW,eB.refl _ _ _⟩
def tq.VU{R:ak.Fr}{ρ:ap->ae}{o:ao}{v:ae}(hW:bg σ W w.heap)(h:ic P R o=some v)(hρ:∀x∈o.op.operands,VR σ (aA R x) (ρ x)):tq P σ W w (execOp ρ o) v W:=by obtain⟨h1,h2⟩:=Na (P:=P) h hρ w;exact⟨σ,.value v,v,w,h1,.inl rfl,h2,hW,eB.refl _ _ _⟩
def Tl(hW:bg σ W w.heap)(t:ai){cs cz:List ae}(hc:LR σ cs cz):
 ∃σ' v' w',((do pure (.pointer (some (<-newRow t cz.toArray)))):Sem ae).run P w=.ok v' w'/\VR σ' (.pointer (some ⟨W.next,0,none⟩)) v'/\bg σ' (W.add (.cells cs)) w'.heap/\eB σ W w σ' (W.add (.cells cs)) w':=by
 obtain⟨h1,h2,h3,h4⟩:=uE (P:=P) hW t hc;have hv:=VR.ptr (σ:=bR σ W.next ⟨w.heap.size,0,cs.length⟩) ⟨W.next,0,none⟩ _ h2 rfl;exact⟨_,.pointer (some ⟨w.heap.size,0,none⟩),{w with heap:=w.heap.push (.cells cz.toArray t)},by simp[h1],by simpa using hv,h3,h4⟩
def DC(t:ai)(cs:List ae):∀ds,lz t cs≠ .ro ds:=by intro ds;unfold lz;split<;>simp
def Cq{σ:cV}{h:Array mj}{B:Nat}{t:ai}{cs cz:List ae}(hc:LR σ cs cz)(hB:h[B]? =some (.cells cz.toArray t (0,0))):kA σ h ⟨B,0,cs.length⟩ (lz t cs):=by
 have hl:=hc.1;unfold lz;split
 ·refine⟨rfl,by simp,⟨by simp[maxLen],λ_=>rfl⟩,cz.toArray,hB,by simp,by simpa using hl,λi v hv=>?_⟩;obtain⟨v',a,b⟩:=hc.get hv;exact⟨v',by simpa using a,b⟩
 ·refine⟨cz.toArray,t,(0,0),hB,λ_=>rfl,by simp,by simp[hl],λi v hv=>?_⟩;obtain⟨v',a,b⟩:=hc.get hv;exact⟨v',by simpa using a,b⟩
def Qp(hW:bg σ W w.heap)(t:ai){cs cz:List ae}(hc:LR σ cs cz):
 ∃σ' v' w',((do pure (.pointer (some (<-newRow t cz.toArray)))):Sem ae).run P w=.ok v' w'/\VR σ' (.pointer (some ⟨W.next,0,none⟩)) v'/\bg σ' (W.add (lz t cs)) w'.heap/\eB σ W w σ' (W.add (lz t cs)) w':=by
 have hv:=VR.ptr (σ:=bR σ W.next ⟨w.heap.size,0,cs.length⟩) ⟨W.next,0,none⟩ _ de rfl;obtain⟨h3,h4⟩:=hW.alloc (o:=lz t cs) (x:=.cells cz.toArray t) (e:=cs.length) (Cq (hc.mono (dh hW.fresh)) (by simp)) (DC t cs);exact⟨_,.pointer (some ⟨w.heap.size,0,none⟩),{w with heap:=w.heap.push (.cells cz.toArray t)},by simp[newRow],by simpa using hv,h3,h4⟩
def Ju{R:ak.Fr}{ρ:ap->ae}{x:Option ap}(h:∀y,x=some y->VR σ (aA R y) (ρ y)):OR σ (x.map (aA R)) (x.map ρ):=by
 cases x with
 |none=>trivial
 |some y=>exact h y rfl
def Aa{R:ak.Fr}{ρ:ap->ae}(a:Array ap)(h:∀y∈a,VR σ (aA R y) (ρ y)):LR σ (a.map (aA R)).toList (a.map ρ).toList:=by
 refine⟨by simp,λi v v' x y=>?_⟩;simp only[Array.toList_map,jf]at x y;cases hq:a.toList[i]? with
 |none=>rw[hq]at x;cases x
 |some q=>rw[hq]at x y;simp at x y;subst x;subst y;exact h q (by simpa using oA hq)
def KP(hW:bg σ W w.heap):
 ∃σ' v' w',((do pure (.map (some (<-newObj (.map #[] 0))))):Sem ae).run P w=.ok v' w'/\VR σ' (.map (some W.next)) v'/\bg σ' (W.add (.map [] 0)) w'.heap/\eB σ W w σ' (W.add (.map [] 0)) w':=by
 have h:=hW.alloc (o:=.map [] 0) (x:=.map #[] 0) (e:=1) ⟨rfl,rfl,#[],by rw[qd];simp,.nil⟩;exact⟨_,.map (some w.heap.size),{w with heap:=w.heap.push (.map #[] 0)},by simp,.map _ _ de,h.1,h.2⟩
set_option maxHeartbeats 1000000 in
def Lw(hW:bg σ W w.heap){o:ao}{R:ak.Fr}{ρ:ap->ae}{v:ae}{W':AW}(h:CY P o R W=some (v,W'))(hρ:∀x∈o.op.operands,VR σ (aA R x) (ρ x)):
 tq P σ W w (execOp ρ o) v W':=by
 have Hh:∀u,ic P R o=some u->tq P σ W w (execOp ρ o) u W:=λu hu=>.VU hW hu hρ
 have gb:∀(x:Option ae),(x.map λv=>(v,W))=some (v,W')->x=some v/\W'=W:=by
  intro x hx;cases x with
  |none=>cases hx
  |some u=>simp at hx;exact⟨by rw[hx.1],hx.2.symm⟩
 have VO:∀(x:Option AW),(x.map λW'=>(ag,W'))=some (v,W')->x=some W'/\v=ag:=by
  intro x hx;cases x with
  |none=>cases hx
  |some u=>simp at hx;exact⟨by rw[hx.2],hx.1.symm⟩
 obtain⟨dst,op,type,pos,after,guard⟩:=o;cases op<;>simp only[CY]at h<;>simp only[Op.operands]at hρ;case move x=>injection h with h;injection h with h1 h2;subst h1;subst h2;exact .same rfl hW (hρ x (by simp))
 case assign x=>injection h with h;injection h with h1 h2;subst h1;subst h2;exact .same rfl hW (hρ x (by simp))
 case pick c a b=>
  have hc:=hρ c (by simp);split at h<;>(try(cases h;done))<;>rename_i lT<;>rw[lT]at hc
  ·injection h with h;injection h with h1 h2;subst h1;subst h2;have:=hc.gx;exact⟨σ,.value (ρ a),ρ a,w,by simp[execOp,this,asBool],.inl rfl,hρ a (by simp),hW,eB.refl _ _ _⟩
  ·injection h with h;injection h with h1 h2;subst h1;subst h2;have:=hc.gx;exact⟨σ,.value (ρ b),ρ b,w,by simp[execOp,this,asBool],.inl rfl,hρ b (by simp),hW,eB.refl _ _ _⟩
 case alloc t=>
  split at h
  ·rename_i z hz;injection h with h;rw[AW.dj]at h;injection h with h1 h2;subst h1;subst h2;obtain⟨wK,zJ⟩:=fS hz w;refine .jN rfl ?_;obtain⟨σ',v',w',a,b,c⟩:=Qp (P:=P) hW t (cs:=z.cells.toList) (cz:=z.cells.toList) (z7 zJ);refine⟨σ',v',w',?_,b,c⟩;rw[<-a];simp[Instr.alloc,wK,newVar]
  ·cases h
 case box t x=>injection h with h;rw[AW.dj]at h;injection h with h1 h2;subst h1;subst h2;refine .jN rfl ?_;obtain⟨σ',v',w',a,b,c⟩:=Tl (P:=P) hW t (hρ x (by simp)).cells;refine⟨σ',v',w',?_,b,c⟩;rw[<-a];simp[Instr.box,newVar]
 case build t ps=>obtain⟨hb,rfl⟩:=gb _ h;obtain⟨v',h1,h2⟩:=JO hb (λp hp=>hρ p.2 (by simp;exact⟨p.1,by simpa using hp⟩)) w;exact .value rfl hW h1 h2
 case buildSlice t len ps=>exact .jN rfl (zx hW h (λp hp=>hρ p.2 (by simp;exact⟨p.1,by simpa using hp⟩)))
 case insert=>cases h
 case load t a=>obtain⟨hb,rfl⟩:=gb _ h;obtain⟨v',h1,h2⟩:=Dd hW hb (hρ a (by simp));exact .value rfl hW h1 h2
 case store t a x=>obtain⟨hb,rfl⟩:=VO _ h;exact .unit rfl (Iu hW hb (hρ a (by simp)) (hρ x (by simp)))
 case ready=>cases h
 case waits=>cases h
 case nilCheck x=>
  have hx:=hρ x (by simp);split at h<;>(try(cases h;done))<;>rename_i lT<;>rw[lT]at hx<;>injection h with h<;>injection h with h1 h2<;>subst h1<;>subst h2
  ·obtain⟨g,_,_,e⟩:=hx.wo;exact⟨σ,.value (ρ x),ρ x,w,by simp[execOp,e],.inl rfl,hx,hW,eB.refl _ _ _⟩
  ·obtain⟨CQ,rJ,cz,hf,_,_,e⟩:=hx.jU;cases hf;exact⟨σ,.value (ρ x),ρ x,w,by simp[execOp,e],.inl rfl,hx,hW,eB.refl _ _ _⟩
  ·obtain⟨CQ,rJ,cz,hf,_,_,e⟩:=hx.jU;cases hf;exact⟨σ,.value (ρ x),ρ x,w,by simp[execOp,e],.inl rfl,hx,hW,eB.refl _ _ _⟩
  ·obtain⟨u',_,e⟩:=hx.wU;exact⟨σ,.value (ρ x),ρ x,w,by simp[execOp,e],.inl rfl,hx,hW,eB.refl _ _ _⟩
 case binOp op t x y yt=>
  split at h
  ·rename_i u hb;injection h with h;injection h with h1 h2;subst h1;subst h2;obtain⟨v',h1,h2⟩:=Q0 (dst:=dst) (type:=type) (pos:=pos) (after:=after) (guard:=guard) (yt:=yt) hW hb (hρ x (by simp)) (hρ y (by simp));exact⟨σ,.value v',v',w,h1,.inl rfl,h2,hW,eB.refl _ _ _⟩
  ·obtain⟨hb,rfl⟩:=gb _ h;exact Hh _ hb
 case unOp=>obtain⟨hb,rfl⟩:=gb _ h;exact Hh _ hb
 case convert s d x=>
  obtain⟨hb,rfl⟩:=gb _ h;unfold Ax at hb;split at hb
  ·rename_i a0 n0 c0 wu;obtain⟨v',a,b⟩:=C0 hW hb (by rw[<-wu];exact hρ x (by simp));exact .value rfl hW a b
  ·exact Hh _ hb
 case sliceToArrayPointer=>cases h
 case makeInterface t x=>
  split at h
  ·cases h
  ·rename_i d hd hu;injection h with h;injection h with h1 h2;subst h1;subst h2;refine .value rfl hW (v':=.iface t (ρ x)) ?_ (.iface _ _ _ (hρ x (by simp)));simp only[Instr.makeInterface,ch,bJ hu,b8];cases d<;>first|rfl|exact absurd rfl (hd _)
  ·cases h
 case makeFunc fn first ie=>
  cases fn<;>(try(simp only[]at h;cases h;done));rename_i f0;simp only at h;injection h with h;injection h with h1 h2;subst h1;subst h2;have k1:=Aa first (λy hy=>hρ y (by simp[hy]))
  have k2:=Aa ie (λy hy=>hρ y (by simp[hy]));exact .value (s:=Instr.makeFunc (.func f0) (first.map ρ) (ie.map ρ)) rfl hW rfl (.func _ _ _ _ _ _ (.func f0) k1.arr.1 k1.arr.2 k2.arr.1 k2.arr.2)
 case makeMap t r=>
  split at h
  ·injection h with h;rw[AW.dj]at h;injection h with h1 h2;subst h1;subst h2;refine .jN rfl ?_;obtain⟨σ',v',w',a,b,c⟩:=KP (P:=P) hW;exact⟨σ',v',w',by rw[<-a];simp[Instr.makeMap],b,c⟩
  ·rename_i hh;split at h
   ·rename_i kt e kd n hu he;injection h with h;rw[AW.dj]at h;injection h with h1 h2;subst h1;subst h2;refine .jN rfl ?_;obtain⟨σ',v',w',a,b,c⟩:=KP (P:=P) hW;have hv:=hρ hh (by simp);rw[he]at hv;exact⟨σ',v',w',by rw[<-a];simp[Instr.makeMap,bJ hu,hv.nT,asInt,asIntOf],b,c⟩
   ·cases h
 case makeChan=>cases h
 case makeSlice t l c=>exact .jN rfl (Co hW h (hρ l (by simp)) (hρ c (by simp)))
 case slice t x lo hi mx=>
  split at h
  ·rename_i u hs;injection h with h;injection h with h1 h2;subst h1;subst h2;obtain⟨v',a,b⟩:=I4 hs (hρ x (by simp)) (Ju (λy hy=>hρ y (by simp[hy]))) (Ju (λy hy=>hρ y (by simp[hy]))) (Ju (λy hy=>hρ y (by simp[hy]))) w;exact .value rfl hW a b
  ·obtain⟨hb,rfl⟩:=gb _ h;exact Hh _ hb
 case fieldAddr s x f=>
  split at h
  ·rename_i fs a hu wu;split at h
   ·rename_i fl WY;split at h
    ·rename_i n hn;injection h with h;injection h with h1 h2;subst h1;subst h2;have hx:=hρ x (by simp);rw[wu]at hx;obtain⟨g,hg,sw,e⟩:=hx.wo;refine .value rfl hW (v':=.pointer (some ⟨g.B,g.s+(a.add fl.offset).off,none⟩)) ?_ (.ptr _ g (by rw[fM];exact hg) (mT _ _ sw));simp[Instr.fieldAt,bJ hu,WY,e,Instr.sureAddr,fieldPlace,bz hn,dy,nA,lH]
    ·cases h
   ·cases h
  ·cases h
 case field t x f=>
  split at h
  ·rename_i fs cs hu wu;split at h
   ·rename_i fl WY;obtain⟨hb,rfl⟩:=gb _ h;have hx:=hρ x (by simp);rw[wu]at hx;obtain⟨cz,hc,e⟩:=hx.KK;obtain⟨v',a,b⟩:=tf (P:=P) hb hc w;exact .value rfl hW (by simp[Instr.field,bJ hu,WY,e,asAgg,a]) b
   ·cases h
  ·cases h
 case indexAddr t x i=>
  have hi:=hρ i (by simp);have hx:=hρ x (by simp);split at h
  ·rename_i e a len cap n hu wu hn;obtain⟨k,oI⟩:=sJ hn hi;rw[wu]at hx;split at h
   ·rename_i z hz;split at h
    ·rename_i gY;injection h with h;injection h with h1 h2;subst h1;subst h2;rcases hx.NI with⟨g,c',hg,sw,hc,e'⟩|⟨h0,_⟩
     ·refine .value rfl hW (v':=.pointer (some ⟨g.B,g.s+(a.add (n*z)).off,none⟩)) ?_ (.ptr _ g (by rw[fM];exact hg) (mT _ _ sw));simp[Instr.indexAt,oI,e',asIntOf,bJ hu,gY,bz hz,dy,nA,lH]
     ·omega
    ·cases h
   ·cases h
  ·rename_i len e a n hu wu hn;obtain⟨k,oI⟩:=sJ hn hi;rw[wu]at hx;split at h
   ·rename_i z hz;split at h
    ·rename_i gY;injection h with h;injection h with h1 h2;subst h1;subst h2;obtain⟨g,hg,sw,e'⟩:=hx.wo;refine .value rfl hW (v':=.pointer (some ⟨g.B,g.s+(a.add (n*z)).off,none⟩)) ?_ (.ptr _ g (by rw[fM];exact hg) (mT _ _ sw));simp[Instr.indexAt,oI,e',asIntOf,bJ hu,Instr.sureAddr,gY,bz hz,dy,nA,lH]
    ·cases h
   ·cases h
  ·cases h
 case index t x i=>
  have hi:=hρ i (by simp);have hx:=hρ x (by simp);split at h
  ·rename_i len e cs n hu wu hn;obtain⟨k,oI⟩:=sJ hn hi;rw[wu]at hx;split at h
   ·rename_i z hz;split at h
    ·rename_i gY;obtain⟨hb,rfl⟩:=gb _ h;obtain⟨cz,hc,e'⟩:=hx.KK;obtain⟨v',a,b⟩:=tf (P:=P) hb hc w;exact .value rfl hW (by simp[Instr.index,oI,e',asIntOf,bJ hu,gY,bz hz,a]) b
    ·cases h
   ·cases h
  ·obtain⟨hb,rfl⟩:=gb _ h;exact Hh _ hb
 case lookup t m k ok=>obtain⟨hb,rfl⟩:=gb _ h;obtain⟨v',a,b⟩:=Ie hW hb (hρ m (by simp)) (hρ k (by simp));exact .value rfl hW a b
 case mapUpdate t m k u=>obtain⟨hb,rfl⟩:=VO _ h;exact .unit rfl (B8 hW hb (hρ m (by simp)) (hρ k (by simp)) (hρ u (by simp)))
 case mapEntry=>cases h
 case entryStore=>cases h
 case range t x=>
  split at h
  ·rename_i s hu wu;injection h with h;rw[AW.dj]at h;injection h with h1 h2;subst h1;subst h2;have hx:=hρ x (by simp);rw[wu]at hx;have hal:=hW.alloc (o:=.kW s 0) (x:=.stringIter s 0) (e:=1) ⟨rfl,rfl,by rw[qd];simp⟩;have hv:=VR.ptr (σ:=bR σ W.next ⟨w.heap.size,0,1⟩) ⟨W.next,0,none⟩ _ de rfl;exact .jN rfl ⟨_,.pointer (some ⟨w.heap.size,0,none⟩),{w with heap:=w.heap.push (.stringIter s 0)},by simp[Instr.range,bJ hu,hx.Am],by simpa using hv,hal.1,hal.2⟩
  ·cases h
 case next it isS=>
  cases isS<;>simp only at h
  ·cases h
  have hx:=hρ it (by simp);split at h
  ·rename_i b sp Ui;rw[Ui]at hx;obtain⟨g,hg,sw,e⟩:=hx.wo;split at h
   ·rename_i s ps eM;obtain⟨g1,g2,g3⟩:=hW.obj b _ g eM hg;have IM:(getObj g.B).run P w=.ok (.stringIter s ps) w:=by simp[getObj,Sem.run,g3]
    have e2:ρ it=.pointer (some ⟨g.B,0,none⟩):=by rw[e];simp[g1]
    split at h
    ·rename_i gY;injection h with h;injection h with h1 h2;subst h1;subst h2;have aiq:g.B<w.heap.size:=(dB.1 g3).1;have hso:(setObj g.B (.stringIter s (ps+(Utf8.decode s ps).2))).run P w=.ok () {w with heap:=w.heap.setIfInBounds g.B (.stringIter s (ps+(Utf8.decode s ps).2))}:=by simp[setObj,Sem.run,g3]
     have hq:=hW.setObj (o':=.kW s (ps+(Utf8.decode s ps).2)) (x:=.stringIter s (ps+(Utf8.decode s ps).2)) eM (λ_ hx=>by cases hx) hg ⟨g1,g2⟩ (λc t fr hx=>by rw[g3]at hx;cases hx) ⟨g1,g2,by simp[aiq]⟩;exact .jN rfl ⟨σ,.tuple #[.bool true,goInt ps,.int .i32 (Utf8.decode s ps).1],_,by simp[Instr.next,e2,IM,gY,hso],VR.tuple' (by simpa[goInt]using LR.cons (.bool true) (.cons (.int _ _) (.cons (.int _ _) .nil))),hq.1,hq.2⟩
    ·rename_i gY;injection h with h;injection h with h1 h2;subst h1;subst h2;exact .value rfl hW (v':=.tuple #[.bool false]) (by simp[Instr.next,e2,IM,gY]) (VR.tuple' (by simpa using LR.cons (.bool false) .nil))
   ·cases h
  ·cases h
 case entry=>cases h
 case typeAssert x xt t ok=>
  split at h
  ·cases h
  ·rename_i d u v0 hd hu wu;split at h
   ·rename_i hut;subst hut;injection h with h;injection h with h1 h2;subst h1;subst h2;have hx:=hρ x (by simp);rw[wu]at hx;obtain⟨u',h1,e⟩:=hx.wU;refine .value rfl hW (v':=if ok then .tuple #[u',.bool true]else u') ?_ ?_
    ·simp only[Instr.typeAssert,ch,bJ hu,b8,e];cases d<;>first|(simp;done)|exact absurd rfl (hd _)
    ·cases ok
     ·exact h1
     ·exact Fi h1 (.bool true)
   ·cases h
  ·cases h
 case extract x i=>
  split at h
  ·rename_i vs wu;obtain⟨hb,rfl⟩:=gb _ h;have hx:=hρ x (by simp);rw[wu]at hx;obtain⟨cz,hc,e⟩:=hx.Nv;obtain⟨v',a,b⟩:=hc.get (i:=i) (v:=v) (by simpa using hb);have a':cz[i]? =some v':=by simpa using a
   exact .value rfl hW (v':=v') (by simp[Instr.extract,e,a']) b
  ·cases h
 case call=>cases h
 case go=>cases h
 case defer=>cases h
 case panic=>cases h
 case send=>cases h
 case recv=>cases h
 case select=>cases h
end
end
section
variable [ak]
abbrev Callee:=ae->List ae->AW->Option (ae×AW)
def FE(ro:Option Nat):Fence:={Fence.wide with round:=ro}
def gZ(P:ah)(o:ao)(b:Builtin)(argTypes:Array ai)(args:List ae)(R:ak.Fr)(W:AW):Option (ae×AW):=
 match b,args with
 |.len,[.slice _ n _]=>match(argTypes[0]?).bind P.underlying with
  |some (.slice _)=>some (goInt n,W)
  |_=>none
 |.len,[.map none]=>match(argTypes[0]?).bind P.underlying with
  |some (.map _ _)=>some (goInt 0,W)
  |_=>none
 |.len,[.map (some r)]=>match(argTypes[0]?).bind P.underlying,W.get r with
  |some (.map _ _),some (.map es _)=>some (goInt es.length,W)
  |_,_=>none
 |.append,[s,x]=>uV P W argTypes s x
 |.copy,[d,x]=>KM P W argTypes d x
 |.clear,[x]=>(EE P W argTypes x).map λW'=>(.tuple #[],W')
 |.delete,[m,k]=>(mb P W argTypes m k).map λW'=>(.tuple #[],W')
 |.unsafeSliceData,[x]=>(pK x).map λv=>(v,W)
 |.unsafeString,[p,n]=>kM P W argTypes p n
 |_,_=>(ic P R o).map λv=>(v,W)
def oP(P:ah)(t:ai)(name:String):Option gn:=
 match P.info? t,P.underlying t with
 |some i,some d=>match i.methods.find? (·.name==name)with
  |some m=>match m.path.toList,m.func,d with
   |[],some (f,true),.pointer _=>if 0<P.types.size then some f else none
   |_,_,_=>none
  |none=>none
 |_,_=>none
def fV(P:ah)(call:Callee)(o:ao)(R:ak.Fr)(W:AW):Option (ae×AW):=
 match o.op with
 |.call c=>match c.callee with
  |.builtin b=>gZ P o b c.argTypes (c.args.toList.map (aA R)) R W
  |.value f=>call (aA R f) (c.args.toList.map (aA R)) W
  |.invoke r name=>match aA R r with
   |.iface t v=>match oP P t name with
    |some f=>call (.func (.func f) #[] #[]) (v::c.args.toList.map (aA R)) W
    |none=>none
   |_=>none
 |_=>CY P o R W
def zw:ae->Option aP:=Value.rec (motive_1:=λ_=>Option aP) (motive_2:=λ_=>PUnit) (motive_3:=λ_=>PUnit) (λ_=>none) (λ_ _=>none) (λ_ _=>none) (λ_ _ _=>none) (λ_=>none) (λa=>a) (λ_ _ _=>none) (λ_=>none) (λ_=>none) (λ_ _ _ _ _=>none) (none) (λ_ _ _=>none) (none) (λ_ _=>none) (λ_ _=>none) (λ_ _=>.unit) .unit (λ_ _ _ _=>.unit)
def Wz:ae->Option Bool:=Value.rec (motive_1:=λ_=>Option Bool) (motive_2:=λ_=>PUnit) (motive_3:=λ_=>PUnit) (λb=>some b) (λ_ _=>none) (λ_ _=>none) (λ_ _ _=>none) (λ_=>none) (λ_=>none) (λ_ _ _=>none) (λ_=>none) (λ_=>none) (λ_ _ _ _ _=>none) (none) (λ_ _ _=>none) (none) (λ_ _=>none) (λ_ _=>none) (λ_ _=>.unit) .unit (λ_ _ _ _=>.unit)
def abL:ae->Option (aN×Int):=Value.rec (motive_1:=λ_=>Option (aN×Int)) (motive_2:=λ_=>PUnit) (motive_3:=λ_=>PUnit) (λ_=>none) (λk n=>some (k,n)) (λ_ _=>none) (λ_ _ _=>none) (λ_=>none) (λ_=>none) (λ_ _ _=>none) (λ_=>none) (λ_=>none) (λ_ _ _ _ _=>none) (none) (λ_ _ _=>none) (none) (λ_ _=>none) (λ_ _=>none) (λ_ _=>.unit) .unit (λ_ _ _ _=>.unit)
def Rm:ae->Option Nat:=Value.rec (motive_1:=λ_=>Option Nat) (motive_2:=λ_=>PUnit) (motive_3:=λ_=>PUnit) (λ_=>none) (λ_ n=>Int.rec (motive:=λ_=>Option Nat) (λn=>some n) (λ_=>none) n) (λ_ _=>none) (λ_ _ _=>none) (λ_=>none) (λ_=>none) (λ_ _ _=>none) (λ_=>none) (λ_=>none) (λ_ _ _ _ _=>none) (none) (λ_ _ _=>none) (none) (λ_ _=>none) (λ_ _=>none) (λ_ _=>.unit) .unit (λ_ _ _ _=>.unit)
def vSl:ae->Option (aP×Nat):=Value.rec (motive_1:=λ_=>Option (aP×Nat)) (motive_2:=λ_=>PUnit) (motive_3:=λ_=>PUnit) (λ_=>none) (λ_ _=>none) (λ_ _=>none) (λ_ _ _=>none) (λ_=>none) (λ_=>none) (λa l _=>Option.rec (motive:=λ_=>Option (aP×Nat)) none (λa=>some (a,l)) a) (λ_=>none) (λ_=>none) (λ_ _ _ _ _=>none) (none) (λ_ _ _=>none) (none) (λ_ _=>none) (λ_ _=>none) (λ_ _=>.unit) .unit (λ_ _ _ _=>.unit)
def adp:ae->Option (Array ae):=Value.rec (motive_1:=λ_=>Option (Array ae)) (motive_2:=λ_=>PUnit) (motive_3:=λ_=>PUnit) (λ_=>none) (λ_ _=>none) (λ_ _=>none) (λ_ _ _=>none) (λ_=>none) (λ_=>none) (λ_ _ _=>none) (λ_=>none) (λ_=>none) (λ_ _ _ _ _=>none) (none) (λ_ _ _=>none) (none) (λ_ _=>none) (λv _=>some v) (λ_ _=>.unit) .unit (λ_ _ _ _=>.unit)
def RH(v:ae):Rm v=lh v:=by cases v<;>first|rfl|(rename_i k n;cases n<;>rfl)
def Ls(P:ah)(W:AW)(t:ai)(a:aP):Option (ae×AW):=
 match Mk P t with
 |some false=>match aI W a.block with
  |some cs=>(T8 cs a.off).map λv=>(v,W)
  |none=>none
 |some true=>match kv P t with
  |some n=>(kg W a.block a.off n).map λl=>(.agg l.toArray,W)
  |none=>none
 |none=>none
def Pc(P:ah)(W:AW)(t:ai)(v:ae):(match zw v with|some a=>Ls P W t a|none=>none)=(iw P W t v).map λv=>(v,W):=by
 cases v with
 |pointer a=>
  cases a with
  |none=>rfl
  |some a=>
   show Ls P W t a=_;unfold Ls iw;cases Mk P t with
   |none=>rfl
   |some b=>
    cases b with
    |false=>simp only;cases aI W a.block<;>rfl
    |true=>
     simp only;cases kv P t with
     |none=>rfl
     |some n=>simp only;cases kg W a.block a.off n<;>rfl
 |_=>rfl
def E4(P:ah)(W:AW)(t:ai)(a:aP)(v:ae):Option (ae×AW):=
 match kv P t with
 |some n=>if v.cells.size=n then(lq W a.block a.off v.cells.toList).map λW'=>(ag,W')else none
 |none=>none
def Mn(P:ah)(W:AW)(t:ai)(x v:ae):(match zw x with|some a=>E4 P W t a v|none=>none)=(um P W t x v).map λW'=>(ag,W'):=by
 cases x with
 |pointer a=>
  cases a with
  |none=>rfl
  |some a=>
   show E4 P W t a v=_;unfold E4 um;cases kv P t with
   |none=>rfl
   |some n=>simp only;split<;>rfl
 |_=>rfl
def QR:BinOp->aN->Int->Int->Option ae:=BinOp.rec (motive:=λ_=>aN->Int->Int->Option ae) (λk a b=>some (ua k (yQ k (a+b)))) (λk a b=>some (ua k (yQ k (a-b)))) (λk a b=>some (ua k (yQ k (a*b)))) (λ_ _ _=>none) (λ_ _ _=>none) (λ_ _ _=>none) (λ_ _ _=>none) (λ_ _ _=>none) (λ_ _ _=>none) (λ_ _ _=>none) (λ_ _ _=>none) (λ_ a b=>some (.bool (decide (a=b)))) (λ_ a b=>some (.bool (!decide (a=b)))) (λ_ a b=>some (.bool (decide (a<b)))) (λ_ a b=>some (.bool (decide (a<=b)))) (λ_ a b=>some (.bool (decide (b<a)))) (λ_ a b=>some (.bool (decide (b<=a))))
def QM(op:BinOp)(k:aN)(a b:Int):QR op k a b=CD op k a b:=by cases op<;>rfl
def acm(P:ah)(W:AW)(op:BinOp)(t:ai)(x y:ae):Option ae:=
 match abL x with
 |some (k,a)=>match abL y with
  |some (k',b)=>if k=k' then QR op k a b else none
  |none=>pn P W op t x y
 |none=>pn P W op t x y
def Ux(P:ah)(W:AW)(op:BinOp)(t:ai)(x y:ae):acm P W op t x y=pn P W op t x y:=by
 cases x with
 |int k a=>
  cases y with
  |int k' b=>show(if k=k' then QR op k a b else none)=_;rw[QM];rfl
  |_=>rfl
 |_=>rfl
def Kh(P:ah)(s:ai)(f:Nat):Option Nat:=match P.underlying s with
 |some (.struct fs)=>match fs[f]? with
  |some fl=>match kv P fl.type with
   |some (_+1)=>some fl.offset
   |_=>none
  |none=>none
 |_=>none
def Pv(P:ah)(t:ai):Option (Option Nat×Nat):=match P.underlying t with
 |some (.slice e)=>(kv P e).map λz=>(none,z)
 |some (.array n e)=>(kv P e).map λz=>(some n,z)
 |_=>none
def Vc{X:Type}(v:ae)(a b:X):(match Wz v with|some true=>some a|some false=>some b|none=>none)=(match v with|.bool true=>some a|.bool false=>some b|_=>none):=by
 cases v with
 |bool c=>cases c<;>rfl
 |_=>rfl
def IZ(W:AW)(v:ae)(i:Nat):(match adp v with|some vs=>(vs[i]?).map λv=>(v,W)|none=>none)=(match v with|.tuple vs=>(vs[i]?).map λv=>(v,W)|_=>none):=by cases v<;>rfl
def EX(P:ah)(W:AW)(s:ai)(v:ae)(f:Nat):
 (match zw v with
 |some a=>(match Kh P s f with
  |some k=>some (Value.pointer (some (a.add k)),W)
  |none=>none)
 |none=>none)=(match P.underlying s,v with
 |some (.struct fs),.pointer (some a)=>match fs[f]? with
  |some fl=>match kv P fl.type with
   |some (_+1)=>some (.pointer (some (a.add fl.offset)),W)
   |_=>none
  |none=>none
 |_,_=>none):=by
 unfold Kh;generalize P.underlying s=u
 have uK:∀(o:Option TypeDesc) (v:ae),zw v=none->(match o,v with
  |some (.struct fs),.pointer (some a)=>match fs[f]? with
   |some fl=>match kv P fl.type with
    |some (_+1)=>some (Value.pointer (some (a.add fl.offset)),W)
    |_=>none
   |none=>none
  |_,_=>none)=none:=by
  intro o v hv;split
  ·cases hv
  ·rfl
 cases hv:zw v with
 |none=>exact(uK u v hv).symm
 |some a=>
  obtain rfl:v=.pointer (some a):=by
   cases v with
   |pointer b=>cases b with|none=>cases hv|some b=>injection hv with hv;rw[hv]
   |_=>cases hv
  cases u with
  |none=>rfl
  |some d=>
   cases d with
   |struct fs=>
    simp only;cases fs[f]? with
    |none=>rfl
    |some fl=>
     simp only;cases kv P fl.type with
     |none=>rfl
     |some n=>cases n<;>rfl
   |_=>rfl
def Ed(P:ah)(W:AW)(t:ai)(v i:ae):
 (match Pv P t with
 |some (none,z)=>(match vSl v with
  |some (a,len)=>(match Rm i with
   |some n=>(match Nat.blt n len with
    |true=>some (Value.pointer (some (a.add (n*z))),W)
    |false=>none)
   |none=>none)
  |none=>none)
 |some (some len,z)=>(match zw v with
  |some a=>(match Rm i with
   |some n=>(match Nat.blt n len with
    |true=>some (.pointer (some (a.add (n*z))),W)
    |false=>none)
   |none=>none)
  |none=>none)
 |none=>none)=(match P.underlying t,v,lh i with
 |some (.slice e),.slice (some a) len _,some n=>match kv P e with
  |some z=>if n<len then some (.pointer (some (a.add (n*z))),W)else none
  |none=>none
 |some (.array len e),.pointer (some a),some n=>match kv P e with
  |some z=>if n<len then some (.pointer (some (a.add (n*z))),W)else none
  |none=>none
 |_,_,_=>none):=by
 rw[RH];have key:∀(n len:Nat) (u:Option (ae×AW)),(match Nat.blt n len with|true=>u|false=>none)=if n<len then u else none:=by
  intro n len u;by_cases h:n<len
  ·have h1:Nat.blt n len=true:=by rw[i9];exact h
   rw[ax h,h1]
  ·rw[ay h];cases hb:Nat.blt n len with
   |true=>exact absurd (by rw[i9]at hb;exact hb) h
   |false=>rfl
 simp only[key];unfold Pv;generalize lh i=k;generalize P.underlying t=u;cases u with
 |none=>rfl
 |some d=>
  cases d with
  |slice e=>
   cases hz:kv P e with
   |none=>cases v with
    |slice a l c=>cases a<;>cases k<;>simp[hz]
    |_=>simp[hz]
   |some z=>cases v with
    |slice a l c=>cases a<;>cases k<;>simp[hz,vSl]
    |_=>simp[hz,vSl]
  |array n e=>
   cases hz:kv P e with
   |none=>cases v with
    |pointer a=>cases a<;>cases k<;>simp[hz]
    |_=>simp[hz]
   |some z=>cases v with
    |pointer a=>cases a<;>cases k<;>simp[hz,zw]
    |_=>simp[hz,zw]
  |_=>rfl
def ae4(x:ap)(P:ah)(call:Callee)(o:ao)(R:ak.Fr)(W:AW):Option (ae×AW):=
 some (aA R x,W)
def TF(x:ap)(P:ah)(call:Callee)(o:ao)(R:ak.Fr)(W:AW):Option (ae×AW):=
 some (aA R x,W)
def aeI(c:ap)(a:ap)(b:ap)(P:ah)(call:Callee)(o:ao)(R:ak.Fr)(W:AW):Option (ae×AW):=
 match Wz (aA R c)with
  |some true=>some (aA R a,W)
  |some false=>some (aA R b,W)
  |none=>none
def YA(t:ai)(P:ah)(call:Callee)(o:ao)(R:ak.Fr)(W:AW):Option (ae×AW):=
 match jK P t with
  |some z=>some (W.new (lz t z.cells.toList) λb W'=>(Value.pointer (some ⟨b,0,none⟩),W'))
  |none=>none
def agw(t:ai)(x:ap)(P:ah)(call:Callee)(o:ao)(R:ak.Fr)(W:AW):Option (ae×AW):=
 some (W.new (.cells (aA R x).cells.toList) λb W'=>(Value.pointer (some ⟨b,0,none⟩),W'))
def YP(t:ai)(ps:Array (Nat×ap))(P:ah)(call:Callee)(o:ao)(R:ak.Fr)(W:AW):Option (ae×AW):=
 (uc P R t ps).map λv=>(v,W)
def H1(t:ai)(n:Nat)(ps:Array (Nat×ap))(P:ah)(call:Callee)(o:ao)(R:ak.Fr)(W:AW):Option (ae×AW):=
 jl P R W t n ps
def TQ(_t:ai)(_m:ap)(_k:ap)(_v:ap)(P:ah)(call:Callee)(o:ao)(R:ak.Fr)(W:AW):Option (ae×AW):=
 fV P call o R W
def abO(t:ai)(a:ap)(P:ah)(call:Callee)(o:ao)(R:ak.Fr)(W:AW):Option (ae×AW):=
 match zw (aA R a)with
  |some a=>Ls P W t a
  |none=>none
def ZH(t:ai)(a:ap)(x:ap)(P:ah)(call:Callee)(o:ao)(R:ak.Fr)(W:AW):Option (ae×AW):=
 match zw (aA R a)with
  |some a=>E4 P W t a (aA R x)
  |none=>none
def ZS(_g:Nat)(P:ah)(call:Callee)(o:ao)(R:ak.Fr)(W:AW):Option (ae×AW):=
 fV P call o R W
def Zh(_g:Nat)(P:ah)(call:Callee)(o:ao)(R:ak.Fr)(W:AW):Option (ae×AW):=
 fV P call o R W
def Me(_x:ap)(P:ah)(call:Callee)(o:ao)(R:ak.Fr)(W:AW):Option (ae×AW):=
 fV P call o R W
def Jv(op:BinOp)(t:ai)(x:ap)(y:ap)(yt:ai)(P:ah)(call:Callee)(o:ao)(R:ak.Fr)(W:AW):Option (ae×AW):=
 match acm P W op t (aA R x) (aA R y)with
  |some v=>some (v,W)
  |none=>(ic P R o).map λv=>(v,W)
def acY(op:UnOp)(t:ai)(x:ap)(P:ah)(call:Callee)(o:ao)(R:ak.Fr)(W:AW):Option (ae×AW):=
 (ic P R o).map λv=>(v,W)
def Q4(s:ai)(d:ai)(x:ap)(P:ah)(call:Callee)(o:ao)(R:ak.Fr)(W:AW):Option (ae×AW):=
 (Ax P W s d (aA R x) (ic P R o)).map λv=>(v,W)
def ru(_d:ai)(_x:ap)(P:ah)(call:Callee)(o:ao)(R:ak.Fr)(W:AW):Option (ae×AW):=
 fV P call o R W
def B1(_t:ai)(_x:ap)(P:ah)(call:Callee)(o:ao)(R:ak.Fr)(W:AW):Option (ae×AW):=
 fV P call o R W
def L7(_fn:Fn)(_first:Array ap)(_captured:Array ap)(P:ah)(call:Callee)(o:ao)(R:ak.Fr)(W:AW):Option (ae×AW):=
 fV P call o R W
def PI(_t:ai)(_r:Option ap)(P:ah)(call:Callee)(o:ao)(R:ak.Fr)(W:AW):Option (ae×AW):=
 fV P call o R W
def Nl(_t:ai)(_s:ap)(P:ah)(call:Callee)(o:ao)(R:ak.Fr)(W:AW):Option (ae×AW):=
 fV P call o R W
def Kb(t:ai)(l:ap)(c:ap)(P:ah)(call:Callee)(o:ao)(R:ak.Fr)(W:AW):Option (ae×AW):=
 kq P W t (aA R l) (aA R c)
def ZA(t:ai)(x:ap)(lo:Option ap)(hi:Option ap)(mx:Option ap)(P:ah)(call:Callee)(o:ao)(R:ak.Fr)(W:AW):Option (ae×AW):=
 match mD P t (aA R x) (lo.map (aA R)) (hi.map (aA R)) (mx.map (aA R))with
  |some v=>some (v,W)
  |none=>(ic P R o).map λv=>(v,W)
def Js(s:ai)(x:ap)(f:Nat)(P:ah)(call:Callee)(o:ao)(R:ak.Fr)(W:AW):Option (ae×AW):=
 match zw (aA R x)with
  |some a=>(match Kh P s f with
   |some k=>some (.pointer (some (a.add k)),W)
   |none=>none)
  |none=>none
def ZV(t:ai)(x:ap)(f:Nat)(P:ah)(call:Callee)(o:ao)(R:ak.Fr)(W:AW):Option (ae×AW):=
 match P.underlying t,aA R x with
  |some (.struct fs),.agg cs=>match fs[f]? with
   |some fl=>(vi P fl.type cs fl.offset).map λv=>(v,W)
   |none=>none
  |_,_=>none
def Ko(t:ai)(x:ap)(i:ap)(P:ah)(call:Callee)(o:ao)(R:ak.Fr)(W:AW):Option (ae×AW):=
 match Pv P t with
  |some (none,z)=>(match vSl (aA R x)with
   |some (a,len)=>(match Rm (aA R i)with
    |some n=>(match Nat.blt n len with
     |true=>some (.pointer (some (a.add (n*z))),W)
     |false=>none)
    |none=>none)
   |none=>none)
  |some (some len,z)=>(match zw (aA R x)with
   |some a=>(match Rm (aA R i)with
    |some n=>(match Nat.blt n len with
     |true=>some (.pointer (some (a.add (n*z))),W)
     |false=>none)
    |none=>none)
   |none=>none)
  |none=>none
def ZK(_t:ai)(_x:ap)(_i:ap)(P:ah)(call:Callee)(o:ao)(R:ak.Fr)(W:AW):Option (ae×AW):=
 fV P call o R W
def Vl(t:ai)(m:ap)(k:ap)(ok:Bool)(P:ah)(call:Callee)(o:ao)(R:ak.Fr)(W:AW):Option (ae×AW):=
 (kR P W t (aA R m) (aA R k) ok).map λv=>(v,W)
def JZ(t:ai)(m:ap)(k:ap)(v:ap)(P:ah)(call:Callee)(o:ao)(R:ak.Fr)(W:AW):Option (ae×AW):=
 (jh P W t (aA R m) (aA R k) (aA R v)).map λW'=>(ag,W')
def Ns(_t:ai)(_m:ap)(_k:ap)(P:ah)(call:Callee)(o:ao)(R:ak.Fr)(W:AW):Option (ae×AW):=
 fV P call o R W
def FW(_t:ai)(_m:ap)(_s:ap)(_v:ap)(P:ah)(call:Callee)(o:ao)(R:ak.Fr)(W:AW):Option (ae×AW):=
 fV P call o R W
def Yv(_t:ai)(_x:ap)(P:ah)(call:Callee)(o:ao)(R:ak.Fr)(W:AW):Option (ae×AW):=
 fV P call o R W
def ab4(_it:ap)(_s:Bool)(P:ah)(call:Callee)(o:ao)(R:ak.Fr)(W:AW):Option (ae×AW):=
 fV P call o R W
def Xo(_it:ap)(P:ah)(call:Callee)(o:ao)(R:ak.Fr)(W:AW):Option (ae×AW):=
 fV P call o R W
def F3(_x:ap)(_t:ai)(_a:ai)(_ok:Bool)(P:ah)(call:Callee)(o:ao)(R:ak.Fr)(W:AW):Option (ae×AW):=
 fV P call o R W
def RJ(x:ap)(i:Nat)(P:ah)(call:Callee)(o:ao)(R:ak.Fr)(W:AW):Option (ae×AW):=
 match adp (aA R x)with
  |some vs=>(vs[i]?).map λv=>(v,W)
  |none=>none
def ab3(c:Call)(P:ah)(call:Callee)(o:ao)(R:ak.Fr)(W:AW):Option (ae×AW):=
 match c.callee with
  |.builtin b=>gZ P o b c.argTypes (c.args.toList.map (aA R)) R W
  |.value f=>call (aA R f) (c.args.toList.map (aA R)) W
  |.invoke r name=>match aA R r with
   |.iface t v=>match oP P t name with
    |some f=>call (.func (.func f) #[] #[]) (v::c.args.toList.map (aA R)) W
    |none=>none
   |_=>none
def hGo(_c:Call)(P:ah)(call:Callee)(o:ao)(R:ak.Fr)(W:AW):Option (ae×AW):=
 fV P call o R W
def XI(_c:Call)(P:ah)(call:Callee)(o:ao)(R:ak.Fr)(W:AW):Option (ae×AW):=
 fV P call o R W
def X8(_x:ap)(P:ah)(call:Callee)(o:ao)(R:ak.Fr)(W:AW):Option (ae×AW):=
 fV P call o R W
def adn(_c:ap)(_x:ap)(P:ah)(call:Callee)(o:ao)(R:ak.Fr)(W:AW):Option (ae×AW):=
 fV P call o R W
def aeY(_t:ai)(_c:ap)(_ok:Bool)(P:ah)(call:Callee)(o:ao)(R:ak.Fr)(W:AW):Option (ae×AW):=
 fV P call o R W
def T9(_cs:Array SelectCase)(_bl:Bool)(P:ah)(call:Callee)(o:ao)(R:ak.Fr)(W:AW):Option (ae×AW):=
 fV P call o R W
def ahB:Op->ah->Callee->ao->ak.Fr->AW->Option (ae×AW):=
 Op.rec (motive:=λ_=>ah->Callee->ao->ak.Fr->AW->Option (ae×AW)) ae4 TF aeI YA agw YP H1 TQ abO ZH ZS Zh Me Jv acY Q4 ru B1 L7 PI Nl Kb ZA Js ZV Ko ZK Vl JZ Ns FW Yv ab4 Xo F3 RJ ab3 hGo XI X8 adn aeY T9
def oh(P:ah)(call:Callee)(o:ao)(R:ak.Fr)(W:AW):Option (ae×AW):=ahB o.op P call o R W
def sG(P:ah)(call:Callee)(o:ao)(R:ak.Fr)(W:AW):oh P call o R W=fV P call o R W:=by
 obtain⟨dst,op,type,pos,after,guard⟩:=o;cases op with
 |pick c a b=>exact Vc (aA R c) _ _
 |load t a=>exact Pc P W t (aA R a)
 |store t a x=>exact Mn P W t (aA R a) (aA R x)
 |binOp op t x y yt=>show Jv op t x y yt P call ⟨dst,.binOp op t x y yt,type,pos,after,guard⟩ R W=_;unfold Jv;rw[Ux];rfl
 |extract x i=>exact IZ W (aA R x) i
 |fieldAddr s x f=>exact EX P W s (aA R x) f
 |indexAddr t x i=>exact Ed P W t (aA R x) (aA R i)
 |_=>rfl
def tH(P:ah)(f':ae)(da:List ae)(w:aq)(R:ae->aq->Prop):Prop:=
 match f' with
 |.func (.func i) fs cs=>(callFunc i (fs++da.toArray++cs)).run P w=.ok (.enter i (fs++da.toArray++cs)) w/\
  CallsIn (FE none) 0 P i (fs++da.toArray++cs) w (λe w'=>∃v,e=.returned v/\R v w')
 |.func (.yield l) fs _=>∃f tmps anD bd,(Instr.yield l (fs++da.toArray)).run P w=.ok (.round l f tmps anD bd) w/\
  RoundIn (FE none) 0 P l f tmps anD bd w (λe w'=>∃v,e=.returned v/\R v w')
 |_=>False
def bV(P:ah)(ng:List Nat)(call:Callee):Prop:=
 ∀f args W v W',call f args W=some (v,W')->∀σ w f' da,bg σ W w.heap->tx σ ng->VR σ f f'->LR σ args da->
  tH P f' da w (λv' w'=>∃σ',VR σ' v v'/\bg σ' W' w'.heap/\eB σ W w σ' W' w')
section
variable {P:ah} {σ:cV} {W:AW} {w:aq}
def EG(hW:bg σ W w.heap){b:Builtin}{R:ak.Fr}{ρ:ap->ae}{v:ae}{W':AW}{dst:Option Tmp}{type:ai}{pos:String}{after:Array Edge}{guard:Option (Nat×Bool)}{args:Array ap}{argTypes:Array ai}
 (h:gZ P {dst,op:=.call {callee:=.builtin b,args,argTypes},type,pos,after,guard} b argTypes (args.toList.map (aA R)) R W=some (v,W'))(hρ:∀x∈args,VR σ (aA R x) (ρ x)):
 tq P σ W w (execOp ρ {dst,op:=.call {callee:=.builtin b,args,argTypes},type,pos,after,guard}) v W':=by
 have gb:∀(x:Option ae),(x.map λv=>(v,W))=some (v,W')->x=some v/\W'=W:=by
  intro x hx;cases x with
  |none=>cases hx
  |some u=>simp at hx;exact⟨by rw[hx.1],hx.2.symm⟩
 have VS:∀(x:Option AW),(x.map λW'=>(Value.tuple #[],W'))=some (v,W')->x=some W'/\v=.tuple #[]:=by
  intro x hx;cases x with
  |none=>cases hx
  |some u=>simp at hx;exact⟨by rw[hx.2],hx.1.symm⟩
 have Cw:execOp ρ {dst,op:=.call {callee:=.builtin b,args,argTypes},type,pos,after,guard}=builtin b argTypes type (args.map λ|.const _=>true|_=>false) (args.map ρ):=by simp[execOp,resolve,invoke];rfl
 have cM:LR σ (args.toList.map (aA R)) (args.map ρ).toList:=by have:=Aa args hρ;simpa using this
 unfold gZ at h;split at h
 ·rename_i A n c ud;rw[ud]at cM;obtain⟨x',l',e1,hx,hl⟩:=cM.of_cons;have:=hl.of_nil;subst this;have e2:args.map ρ=#[x']:=by rw[<-gi (xs:=args.map ρ),e1]
  split at h
  ·rename_i e hu;injection h with h;injection h with h1 h2;subst h1;subst h2;rw[Cw,e2];cases ha:argTypes[0]? with
   |none=>rw[ha]at hu;cases hu
   |some t=>rw[ha]at hu;simp only[bq]at hu;refine .value (s:=Builtin.len_ argTypes type #[x']) rfl hW (v':=goInt n) ?_ (.int _ _);cases hx<;>simp[Builtin.len_,ha,bJ hu]
  ·cases h
 ·rename_i ud;rw[ud]at cM;obtain⟨x',l',e1,hx,hl⟩:=cM.of_cons;have:=hl.of_nil;subst this;have e2:args.map ρ=#[x']:=by rw[<-gi (xs:=args.map ρ),e1]
  split at h
  ·rename_i k e hu;injection h with h;injection h with h1 h2;subst h1;subst h2;rw[Cw,e2];cases ha:argTypes[0]? with
   |none=>rw[ha]at hu;cases hu
   |some t=>rw[ha]at hu;simp only[bq]at hu;refine .value (s:=Builtin.len_ argTypes type #[x']) rfl hW (v':=goInt 0) ?_ (.int _ _);cases hx;simp[Builtin.len_,ha,bJ hu]
  ·cases h
 ·rename_i r ud;rw[ud]at cM;obtain⟨x',l',e1,hx,hl⟩:=cM.of_cons;have:=hl.of_nil;subst this;have e2:args.map ρ=#[x']:=by rw[<-gi (xs:=args.map ρ),e1]
  split at h
  ·rename_i k e es c hu hr;injection h with h;injection h with h1 h2;subst h1;subst h2;rw[Cw,e2];cases ha:argTypes[0]? with
   |none=>rw[ha]at hu;cases hu
   |some t=>
    rw[ha]at hu;simp only[bq]at hu;cases hx with
    |map _ g hg=>
     obtain⟨_,_,fE,g3,g4⟩:=zW hW hr hg;refine .value (s:=Builtin.len_ argTypes type #[.map (some g.B)]) rfl hW (v':=goInt es.length) ?_ (.int _ _);have fb:fE.size=es.length:=by have:=g4.1;simp at this;omega
     simp[Builtin.len_,ha,bJ hu,run_getObj_map g3,fb]
  ·cases h
 ·rename_i s x ud;rw[ud]at cM;obtain⟨s',l',e1,hs,hl⟩:=cM.of_cons;obtain⟨x',TU,e3,hx,qN⟩:=hl.of_cons;have:=qN.of_nil;subst this;subst e3;have e2:args.map ρ=#[s',x']:=by rw[<-gi (xs:=args.map ρ),e1]
  rw[Cw,e2];exact .jN (s:=Builtin.append_ argTypes type #[s',x']) rfl (Fl hW h hs hx)
 ·rename_i s x ud;rw[ud]at cM;obtain⟨s',l',e1,hs,hl⟩:=cM.of_cons;obtain⟨x',TU,e3,hx,qN⟩:=hl.of_cons;have:=qN.of_nil;subst this;subst e3;have e2:args.map ρ=#[s',x']:=by rw[<-gi (xs:=args.map ρ),e1]
  rw[Cw,e2];obtain⟨v',w',a,b,c,d⟩:=MU (ty:=type) hW h hs hx;exact .jN (s:=Builtin.copy_ argTypes type #[s',x']) rfl ⟨σ,v',w',a,b,c,d⟩
 ·rename_i x ud;rw[ud]at cM;obtain⟨x',l',e1,hx,hl⟩:=cM.of_cons;have:=hl.of_nil;subst this;have e2:args.map ρ=#[x']:=by rw[<-gi (xs:=args.map ρ),e1]
  rw[Cw,e2];obtain⟨hc,rfl⟩:=VS _ h;obtain⟨w',a,b,c⟩:=Jw (ty:=type) hW hc hx;exact .jN (s:=Builtin.clear_ argTypes type #[x']) rfl ⟨σ,.tuple #[],w',a,.undef,b,c⟩
 ·rename_i s x ud;rw[ud]at cM;obtain⟨s',l',e1,hs,hl⟩:=cM.of_cons;obtain⟨x',TU,e3,hx,qN⟩:=hl.of_cons;have:=qN.of_nil;subst this;subst e3;have e2:args.map ρ=#[s',x']:=by rw[<-gi (xs:=args.map ρ),e1]
  rw[Cw,e2];obtain⟨hc,rfl⟩:=VS _ h;obtain⟨w',a,b,c⟩:=Ha (ty:=type) hW hc hs hx;exact .jN (s:=Builtin.delete_ argTypes type #[s',x']) rfl ⟨σ,.tuple #[],w',a,.undef,b,c⟩
 ·rename_i x ud;rw[ud]at cM;obtain⟨x',l',e1,hx,hl⟩:=cM.of_cons;have:=hl.of_nil;subst this;have e2:args.map ρ=#[x']:=by rw[<-gi (xs:=args.map ρ),e1]
  rw[Cw,e2];obtain⟨hc,rfl⟩:=gb _ h;obtain⟨v',a,b⟩:=Az (P:=P) (w:=w) (ts:=argTypes) (ty:=type) hc hx;exact .jN (s:=Builtin.unsafeSliceData_ argTypes type #[x']) rfl ⟨σ,v',w,a,b,hW,eB.refl _ _ _⟩
 ·rename_i s x ud;rw[ud]at cM;obtain⟨s',l',e1,hs,hl⟩:=cM.of_cons;obtain⟨x',TU,e3,hx,qN⟩:=hl.of_cons;have:=qN.of_nil;subst this;subst e3;have e2:args.map ρ=#[s',x']:=by rw[<-gi (xs:=args.map ρ),e1]
  rw[Cw,e2];exact .jN (s:=Builtin.unsafeString_ argTypes type #[s',x']) rfl (ww hW h hs hx)
 ·obtain⟨hb,rfl⟩:=gb _ h;exact .VU hW hb (λx hx=>by simp only[Op.operands,Call.operands]at hx;exact hρ x (by simpa using hx))
def IP{t:ai}{name:String}{f:gn}(h:oP P t name=some f)(v:ae)(w:aq):(method (P.types.size+Made.depth) t v name).run P w=.ok (f,v) w:=by
 unfold oP at h;split at h
 ·rename_i i d hi hd;split at h
  ·rename_i m hm;split at h
   ·rename_i g e hp hf;split at h
    ·rename_i h0;injection h with h;subst h;obtain⟨n,hn⟩:∃n,P.types.size+Made.depth=n+1:=⟨P.types.size+Made.depth-1,by omega⟩;rw[hn];simp[method,typeInfo,hi,hm,hp,follow,hf,receiverAt,bJ hd,Place.get]
    ·cases h
   ·cases h
  ·cases h
 ·cases h
def A8(ro:Option Nat):(FE ro).depth=none:=rfl
def Aw{ro ro':Option Nat}{n:Nat}{f:gn}{args:Array ae}{w:aq}{R:Ending->aq->Prop}(h:CallsIn (FE ro) n P f args w R):CallsIn (FE ro') n P f args w R:=h
def IN{ro ro':Option Nat}{n l:Nat}{f:gn}{tmps:Array ae}{anD bd:bs}{w:aq}{R:Ending->aq->Prop}(h:RoundIn (FE ro) n P l f tmps anD bd w R):RoundIn (FE ro') n P l f tmps anD bd w R:=h
def DK{ro:Option Nat}{o:ao}{a:aV}{v:ae}{W':AW}{next:aV->aq->Prop}{Q:cS->aV->aq->Prop}(hnd:∀c,o.op≠ .defer c)(h:tq P σ W w (execOp a.eval o) v W')
 (hn:∀σ' v' w',VR σ' v v'->bg σ' W' w'.heap->eB σ W w σ' W' w'->next (a.put o.dst v') w'):o.wpIn (FE ro) 0 P a w next Q:=by
 refine⟨λf _=>trivial,?_⟩;rw[Oper.semAt_eq _ _ _ hnd];obtain⟨σ',nx,v',w',hr,hx,h1,h2,h3⟩:=h;rw[hr];rcases hx with rfl|⟨rfl,rfl⟩
 ·exact hn σ' v' w' h1 h2 h3
 ·exact hn σ' ag w' h1 h2 h3
def AT{ro:Option Nat}{o:ao}{a:aV}{v:ae}{W':AW}{next:aV->aq->Prop}{Q:cS->aV->aq->Prop}{f':ae}{da:List ae}(hnd:∀c,o.op≠ .defer c)
 (hf:∀i fs cs,f'=.func (.func i) fs cs->(execOp a.eval o).run P w=(callFunc i (fs++da.toArray++cs)).run P w)
 (hy:∀l fs cs,f'=.func (.yield l) fs cs->(execOp a.eval o).run P w=(Instr.yield l (fs++da.toArray)).run P w)
 (h:tH P f' da w (λv' w'=>∃σ',VR σ' v v'/\bg σ' W' w'.heap/\eB σ W w σ' W' w'))
 (hn:∀σ' v' w',VR σ' v v'->bg σ' W' w'.heap->eB σ W w σ' W' w'->next (a.put o.dst v') w'):o.wpIn (FE ro) 0 P a w next Q:=by
 refine⟨λf _=>trivial,?_⟩;rw[Oper.semAt_eq _ _ _ hnd];unfold tH at h;split at h
 ·rename_i i fs cs;obtain⟨h1,h2⟩:=h;rw[hf i fs cs rfl,h1];refine⟨λhd=>by rw[A8]at hd;simp at hd,?_⟩;refine mf (Aw h2) ?_;rintro e w' ⟨u,rfl,σ',k1,k2,k3⟩;exact hn σ' u w' k1 k2 k3
 ·rename_i l fs cs;obtain⟨f,tmps,anD,bd,h1,h2⟩:=h;rw[hy l fs cs rfl,h1];refine⟨λhd=>by rw[A8]at hd;simp at hd,?_⟩;refine RoundIn.mono (IN h2) ?_;rintro e w' ⟨u,rfl,σ',k1,k2,k3⟩;exact hn σ' u w' k1 k2 k3
 ·exact h.elim
def D8{ng:List Nat}{call:Callee}(hc:bV P ng call)(hW:bg σ W w.heap)(hG:tx σ ng){ro:Option Nat}{o:ao}{R:ak.Fr}{a:aV}{v:ae}{W':AW}{next:aV->aq->Prop}{Q:cS->aV->aq->Prop}
 (h:oh P call o R W=some (v,W'))(hρ:∀x∈o.op.operands,VR σ (aA R x) (a.eval x))
 (hn:∀σ' v' w',VR σ' v v'->bg σ' W' w'.heap->eB σ W w σ' W' w'->next (a.put o.dst v') w'):o.wpIn (FE ro) 0 P a w next Q:=by
 rw[sG]at h;unfold fV at h;split at h
 ·rename_i c qz;obtain⟨dst,op,type,pos,after,guard⟩:=o;simp only at qz;subst qz;obtain⟨callee,args,argTypes⟩:=c;have cM:∀x∈args,VR σ (aA R x) (a.eval x):=λx hx=>hρ x (by simp[Op.operands,Call.operands,hx])
  have hl:LR σ (args.toList.map (aA R)) (args.map a.eval).toList:=by simpa using Aa args cM
  split at h
  ·rename_i b hb;simp only at hb h;subst hb;exact DK (λ_ hx=>by cases hx) (EG hW h cM) hn
  ·rename_i f hb;simp only at hb h;subst hb;have hf:=hρ f (by simp[Op.operands,Call.operands]);refine AT (λ_ hx=>by cases hx) ?_ ?_ (hc _ _ _ _ _ h σ w _ _ hW hG hf hl) hn
   ·intro i fs cs e;rw[gi];simp[execOp,resolve,e,Deferred.ofValue,invoke]
   ·intro l fs cs e;rw[gi];simp[execOp,resolve,e,Deferred.ofValue,invoke]
  ·rename_i r name hb;simp only at hb h;subst hb;have hr:=hρ r (by simp[Op.operands,Call.operands]);split at h
   ·rename_i t u Ga;rw[Ga]at hr;obtain⟨u',hu,e⟩:=hr.wU;split at h
    ·rename_i f hm;refine AT (f':=.func (.func f) #[] #[]) (da:=u'::(args.map a.eval).toList) (λ_ hx=>by cases hx) ?_ ?_ (hc _ _ _ _ _ h σ w _ _ hW hG (.func _ _ _ _ _ _ (.func f) rfl (λi v v' x=>by simp at x) rfl (λi v v' x=>by simp at x)) (.cons hu hl)) hn
     ·intro i fs cs e';injection e' with e1 e2 e3;injection e1 with e1;subst e1;subst e2;subst e3;have hx:(#[a.eval r]++args.map a.eval).extract 1 (args.size+1)=args.map a.eval:=by apply oD.1;simp[Fq];exact oc (by simp)
      have h0:(#[a.eval r]++args.map a.eval)[0]? =some (.iface t u'):=by rw[wm];simp[e]
      have oJ:(#[a.eval r]++args.map a.eval).size=args.size+1:=by simp;omega
      have IM:(invoke (.fn (.method name) #[]) (#[a.eval r]++args.map a.eval)).run P w=(callFunc f (#[u']++args.map a.eval)).run P w:=by rw[show invoke (.fn (.method name) #[]) (#[a.eval r]++args.map a.eval)=(match(#[a.eval r]++args.map a.eval)[0]? with|some recv=>callMethod recv name ((#[a.eval r]++args.map a.eval).extract 1 (#[a.eval r]++args.map a.eval).size)|none=>stuck "call: a method without a receiver")from by unfold invoke;split<;>simp_all];rw[h0];simp only[oJ,hx,callMethod,ch,run_program,b8,IP hm u' w]
      have e3:(#[]:Array ae)++(u'::(args.map a.eval).toList).toArray++#[]=#[u']++args.map a.eval:=by apply oD.1;simp
      rw[e3,<-IM];simp[execOp,resolve]
     ·intro l fs cs e';injection e' with e1 e2 e3;cases e1
    ·cases h
   ·cases h
 ·rename_i Ti;refine DK ?_ (Lw hW h hρ) hn;intro c hx;unfold CY at h;rw[hx]at h;cases h
end
end
section
variable [ak]
def Grow(W W':AW):Prop:=∀b o,W.get b=some o->W'.get b=some o
def Grow.refl(W:AW):Grow W W:=λ_ _ h=>h
def Grow.add{W:AW}(hf:W.get W.next=none)(o:dO):Grow W (W.add o):=λb o' h=>by
 have:W.next≠b:=λe=>by subst e;rw[hf]at h;cases h
 rw[AW.bC _ _ this];exact h
def Dk(o:ao)(R R':ak.Fr):Prop:=∀x∈o.op.operands,aA R' x=aA R x
def GJ{P:ah}{o:ao}{R R':ak.Fr}(h:Dk o R R'):ic P R' o=ic P R o:=by
 unfold ic;have e1:o.op.operands.toList.all (λx=>bI (aA R' x))=o.op.operands.toList.all (λx=>bI (aA R x)):=by rw[oi];simp only[cr,Array.mem_toList_iff];exact⟨λk x hx=>by rw[<-h x hx];exact k x hx,λk x hx=>by rw[h x hx];exact k x hx⟩
 rw[e1];cases hn:sK o.op with
 |false=>rfl
 |true=>rw[execOp_congr o (λcs b hs=>by rw[hs]at hn;cases hn) (λx hx=>h x hx)]
def AI{P:ah}{W W':AW}{t:ai}{x y:ae}(hx:bI x=true):mh P W' t x y=mh P W t x y:=by
 unfold mh;split;case h_3=>simp[bI,fY,cJ]at hx
 all_goals first
  |rfl
  |(simp only[*];done)
  |skip
 all_goals(split<;>first|rfl|(simp_all;done)|skip)
def Dj{P:ah}{W W':AW}(hg:Grow W W'){t:ai}{x y:ae}{b:Bool}(h:mh P W t x y=some b):mh P W' t x y=some b:=by
 unfold mh at h|-;split at h<;>try exact h
 split at h<;>try(cases h;done)
 split at h<;>try(cases h;done)
 rename_i ca cb h1 h2;rw[hg _ _ h1,hg _ _ h2];exact h
def uT{W W':AW}(hg:Grow W W'){b:Nat}{cs:List ae}(h:aI W b=some cs):aI W' b=some cs:=by
 unfold aI at h|-;split at h
 ·rename_i cz h1;rw[hg _ _ h1];exact h
 ·rename_i cz h1;rw[hg _ _ h1];exact h
 ·rename_i t' cz h1;rw[hg _ _ h1];exact h
 ·cases h
def Bf{W W':AW}(hg:Grow W W'){b off n:Nat}{l:List ae}(h:kg W b off n=some l):kg W' b off n=some l:=by
 rw[gG]at h|-;split at h
 ·rename_i cs hc;rw[uT hg hc];exact h
 ·cases h
def Al{W W':AW}(hg:Grow W W'){x:ae}{n:Nat}{l:List ae}(h:bW W x n=some l):bW W' x n=some l:=by
 unfold bW at h|-;split at h
 ·exact h
 ·split at h
  ·rename_i h0;rw[ax h0];exact h
  ·rename_i h0;rw[ay h0];split at h
   ·cases h
   ·rename_i h1;rw[ay h1];exact Bf hg h
 ·cases h
def IF{P:ah}{W W':AW}(hg:Grow W W'){s d:ai}{x v:ae}{alt:Option ae}(h:Ax P W s d x alt=some v):Ax P W' s d x alt=some v:=by
 unfold Ax at h|-;split at h
 ·rename_i a n c;show o5 P W' s d (.slice (some a) n c)=some v;unfold o5 at h|-;dsimp only at h|-;split at h
  ·rename_i e hs hd;split at h
   ·rename_i he;split at h
    ·rename_i cs nK;rw[Al hg nK];exact h
    ·cases h
   ·cases h
  ·cases h
 ·exact h
def Is{P:ah}{W W':AW}(hg:Grow W W'){t:ai}{x v:ae}(h:iw P W t x=some v):iw P W' t x=some v:=by
 unfold iw at h|-;split at h
 ·rename_i a;split at h
  ·rename_i ha;split at h
   ·rename_i cs hc;simp only[uT hg hc];exact h
   ·cases h
  ·rename_i ha;split at h
   ·rename_i n hn;cases hr:kg W a.block a.off n with
    |none=>rw[hr]at h;cases h
    |some l=>rw[hr]at h;rw[Bf hg hr];exact h
   ·cases h
  ·cases h
 ·cases h
def E3{P:ah}{W W':AW}(hg:Grow W W'){t:ai}{m k v:ae}{ok:Bool}(h:kR P W t m k ok=some v):kR P W' t m k ok=some v:=by
 unfold kR at h|-;split at h
 ·exact h
 ·rename_i kt e r hu;split at h
  ·rename_i es c hr;simp only[hg _ _ hr];exact h
  ·cases h
 ·cases h
def GC{R R':ak.Fr}{ps:Array (Nat×ap)}(h:∀p∈ps.toList,aA R' p.2=aA R p.2):mF R' ps=mF R ps:=by unfold mF;exact List.map_congr_left λp hp=>by rw[h p hp]
set_option maxHeartbeats 1000000 in
def sX{P:ah}{call:Callee}{o:ao}{R:ak.Fr}{W W1:AW}{v:ae}(hk:gu o<=1)(h:oh P call o R W=some (v,W1)):
 W1=W/\∀R' W',Dk o R R'->(gu o=0\/Grow W W')->oh P call o R' W'=some (v,W'):=by
 have gb:∀(x:Option ae),(x.map λv=>(v,W))=some (v,W1)->x=some v/\W1=W:=by
  intro x hx;cases x with
  |none=>cases hx
  |some u=>simp at hx;exact⟨by rw[hx.1],hx.2.symm⟩
 have Ru:∀R',Dk o R R'->ic P R' o=ic P R o:=λR' ha=>GJ ha
 obtain⟨dst,op,type,pos,after,guard⟩:=o;cases op<;>simp only[gu]at hk<;>(try(exfalso;omega))<;>simp only[sG,fV,CY]at h|- <;>simp only[Dk,Op.operands]at Ru|-;case move x=>injection h with h;injection h with h1 h2;subst h1;subst h2;exact⟨rfl,λR' W' ha _=>by rw[ha x (by simp)]⟩
 case assign x=>injection h with h;injection h with h1 h2;subst h1;subst h2;exact⟨rfl,λR' W' ha _=>by rw[ha x (by simp)]⟩
 case pick c a b=>
  split at h<;>(try(cases h;done))<;>rename_i lT<;>injection h with h<;>injection h with h1 h2<;>subst h1<;>subst h2<;>
   exact⟨rfl,λR' W' ha _=>by rw[ha c (by simp),ha a (by simp),ha b (by simp),lT]⟩
 case build t ps=>
  obtain⟨hb,rfl⟩:=gb _ h;refine⟨rfl,λR' W' ha _=>?_⟩;have:uc P R' t ps=uc P R t ps:=by unfold uc;rw[GC λp hp=>ha p.2 (by simp;exact⟨p.1,by simpa using hp⟩)]
  rw[this,hb];rfl
 case nilCheck x=>
  split at h<;>(try(cases h;done))<;>rename_i lT<;>injection h with h<;>injection h with h1 h2<;>subst h1<;>subst h2<;>
   exact⟨rfl,λR' W' ha _=>by rw[ha x (by simp),lT]⟩
 case unOp op t x=>obtain⟨hb,rfl⟩:=gb _ h;exact⟨rfl,λR' W' ha _=>by rw[Ru R' (λy hy=>ha y hy),hb];rfl⟩
 case convert s d x=>obtain⟨hb,rfl⟩:=gb _ h;refine⟨rfl,λR' W' ha hg=>?_⟩;have AL:Grow W1 W':=hg.resolve_left (by simp[gu]);rw[ha x (by simp),Ru R' (λy hy=>ha y hy),IF AL hb];rfl
 case makeInterface t x=>
  split at h
  ·cases h
  ·rename_i d hd hu;injection h with h;injection h with h1 h2;subst h1;subst h2;exact⟨rfl,λR' W' ha _=>by rw[ha x (by simp)]⟩
  ·cases h
 case slice t x lo hi mx=>
  have key:∀R',(∀y∈#[x]++lo.toArray++hi.toArray++mx.toArray,aA R' y=aA R y)->mD P t (aA R' x) (lo.map (aA R')) (hi.map (aA R')) (mx.map (aA R'))=mD P t (aA R x) (lo.map (aA R)) (hi.map (aA R)) (mx.map (aA R)):=by
   intro R' ha;have e1:aA R' x=aA R x:=ha x (by simp);have e2:lo.map (aA R')=lo.map (aA R):=by
    cases lo with
    |none=>rfl
    |some y=>simp only[cD];rw[ha y (by simp)]
   have e3:hi.map (aA R')=hi.map (aA R):=by
    cases hi with
    |none=>rfl
    |some y=>simp only[cD];rw[ha y (by simp)]
   have e4:mx.map (aA R')=mx.map (aA R):=by
    cases mx with
    |none=>rfl
    |some y=>simp only[cD];rw[ha y (by simp)]
   rw[e1,e2,e3,e4]
  split at h
  ·rename_i u hs;injection h with h;injection h with h1 h2;subst h1;subst h2;exact⟨rfl,λR' W' ha _=>by rw[key R' (λy hy=>ha y (by simpa using hy)),hs]⟩
  ·rename_i hs;obtain⟨hb,rfl⟩:=gb _ h;exact⟨rfl,λR' W' ha _=>by rw[key R' (λy hy=>ha y (by simpa using hy)),hs,Ru R' (λy hy=>ha y hy),hb];rfl⟩
 case fieldAddr s x f=>
  split at h
  ·rename_i fs a hu wu;split at h
   ·rename_i fl WY;split at h
    ·rename_i n hn;injection h with h;injection h with h1 h2;subst h1;subst h2;exact⟨rfl,λR' W' ha _=>by rw[ha x (by simp)];simp[hu,wu,WY,hn]⟩
    ·cases h
   ·cases h
  ·cases h
 case field t x f=>
  split at h
  ·rename_i fs cs hu wu;split at h
   ·rename_i fl WY;obtain⟨hb,rfl⟩:=gb _ h;exact⟨rfl,λR' W' ha _=>by rw[ha x (by simp)];simp[hu,wu,WY,hb]⟩
   ·cases h
  ·cases h
 case indexAddr t x i=>
  have:W1=W:=by split at h<;>(try(cases h;done))<;>split at h<;>(try(cases h;done))<;>split at h<;>(try(cases h;done))<;>(injection h with h;injection h with h1 h2;exact h2.symm)
  subst this;refine⟨rfl,λR' W' ha _=>?_⟩;rw[ha x (by simp),ha i (by simp)];split at h<;>(try(cases h;done))<;>rename_i z hz<;>split at h<;>(try(cases h;done))<;>split at h<;>(try(cases h;done))<;>(injection h with h;injection h with h1 h2;simp[*])
 case index t x i=>
  split at h
  ·rename_i len e cs n hu wu hi0;split at h
   ·rename_i z hz;split at h
    ·rename_i gY;obtain⟨hb,rfl⟩:=gb _ h;exact⟨rfl,λR' W' ha _=>by rw[ha x (by simp),ha i (by simp)];simp[hu,wu,hi0,hz,gY,hb]⟩
    ·cases h
   ·cases h
  ·rename_i uK;obtain⟨hb,rfl⟩:=gb _ h;refine⟨rfl,λR' W' ha _=>?_⟩;rw[ha x (by simp),ha i (by simp)];split
   ·rename_i len e cs n hu wu hi0;exact absurd hi0 (by intro hi0;exact uK _ _ _ _ hu wu hi0)
   ·rw[Ru R' (λy hy=>ha y hy),hb];rfl
 case extract x i=>
  split at h
  ·rename_i vs wu;obtain⟨hb,rfl⟩:=gb _ h;exact⟨rfl,λR' W' ha _=>by rw[ha x (by simp),wu];simp[hb]⟩
  ·cases h
 case typeAssert x s t ok=>
  split at h
  ·cases h
  ·rename_i uK u v0 hu wu;split at h
   ·rename_i hut;injection h with h;injection h with h1 h2;subst h1;subst h2;exact⟨rfl,λR' W' ha _=>by rw[ha x (by simp)];simp[hu,wu,hut]⟩
   ·cases h
  ·cases h
 case load t a=>obtain⟨hb,rfl⟩:=gb _ h;refine⟨rfl,λR' W' ha hg=>?_⟩;have AL:Grow W1 W':=hg.resolve_left (by simp[gu]);rw[ha a (by simp),Is AL hb];rfl
 case lookup t m k ok=>obtain⟨hb,rfl⟩:=gb _ h;refine⟨rfl,λR' W' ha hg=>?_⟩;have AL:Grow W1 W':=hg.resolve_left (by simp[gu]);rw[ha m (by simp),ha k (by simp),E3 AL hb];rfl
 case makeFunc fn first ie=>
  cases fn<;>(try(simp only[]at hk;exfalso;omega));rename_i f0;simp only at h|-;injection h with h;injection h with h1 h2;subst h1;subst h2;refine⟨rfl,λR' W' ha _=>?_⟩;have e1:first.map (aA R')=first.map (aA R):=Array.map_congr_left λy hy=>ha y (by simp[hy])
  have e2:ie.map (aA R')=ie.map (aA R):=Array.map_congr_left λy hy=>ha y (by simp[hy])
  rw[e1,e2]
 case binOp op t x y yt=>
  by_cases qz:op=.eql\/op=.neq
  ·have fe:∀W',(gu (⟨dst,.binOp op t x y yt,type,pos,after,guard⟩:ao)=0\/Grow W W')->Grow W W':=λW' hg=>hg.resolve_left (by rcases qz with rfl|rfl<;>simp[gu])
   split at h
   ·rename_i u hb;injection h with h;injection h with h1 h2;subst h1;subst h2;refine⟨rfl,λR' W' ha hg=>?_⟩;have AL:=fe W' hg;have:pn P W' op t (aA R x) (aA R y)=some u:=by
     unfold pn at hb|-;split at hb
     ·exact hb
     ·split at hb
      ·cases he:mh P W t (aA R x) (aA R y)with
       |none=>
        rw[he]at hb;cases ht:BD P t (aA R x) (aA R y)with
        |none=>rw[ht]at hb;cases hb
        |some b=>rw[Du ht W',<-ht];rw[ht]at hb|-;exact hb
       |some b=>rw[he]at hb;simp only[Dj AL he];exact hb
      ·cases he:mh P W t (aA R x) (aA R y)with
       |none=>
        rw[he]at hb;cases ht:BD P t (aA R x) (aA R y)with
        |none=>rw[ht]at hb;cases hb
        |some b=>rw[Du ht W',<-ht];rw[ht]at hb|-;exact hb
       |some b=>rw[he]at hb;simp only[Dj AL he];exact hb
      ·cases hb
    rw[ha x (by simp),ha y (by simp),this]
   ·rename_i hb;obtain⟨hp,rfl⟩:=gb _ h;refine⟨rfl,λR' W' ha hg=>?_⟩;have mq:bI (aA R x)=true:=by
     unfold ic at hp;split at hp
     ·rename_i hc;simp only[bB,cr,Array.mem_toList_iff]at hc;exact hc.2 x (by simp[Op.operands])
     ·cases hp
    have:pn P W' op t (aA R x) (aA R y)=none:=by
     rw[<-hb];unfold pn;split
     ·rfl
     ·split
      ·rw[AI mq]
      ·rw[AI mq]
      ·rfl
    rw[ha x (by simp),ha y (by simp),this,Ru R' (λy hy=>ha y hy),hp];rfl
  ·have La:∀W',pn P W' op t (aA R x) (aA R y)=pn P W op t (aA R x) (aA R y):=by
    intro W';unfold pn;split
    ·rfl
    ·cases op<;>simp at qz|-
   split at h
   ·rename_i u hb;injection h with h;injection h with h1 h2;subst h1;subst h2;exact⟨rfl,λR' W' ha hg=>by rw[ha x (by simp),ha y (by simp),La W',hb]⟩
   ·rename_i hb;obtain⟨hp,rfl⟩:=gb _ h;exact⟨rfl,λR' W' ha hg=>by rw[ha x (by simp),ha y (by simp),La W',hb,Ru R' (λy hy=>ha y hy),hp];rfl⟩
 case call c=>
  obtain⟨callee,args,argTypes⟩:=c;cases callee with
  |value f=>simp only at hk;exfalso;omega
  |invoke r name=>simp only at hk;exfalso;omega
  |builtin b=>
   cases b<;>(try(simp only at hk;exfalso;omega));simp only at h|-;have cM:∀R',(∀y∈(Call.operands {callee:=.builtin .len,args,argTypes}),aA R' y=aA R y)->args.toList.map (aA R')=args.toList.map (aA R):=λR' ha=>List.map_congr_left λy hy=>ha y (by simp only[Call.operands];simpa using hy)
   unfold gZ at h;split at h
   ·rename_i n c hl;split at h
    ·rename_i e hu;injection h with h;injection h with h1 h2;subst h1;subst h2;exact⟨rfl,λR' W' ha hg=>by unfold gZ;rw[cM R' ha,hl];simp only[hu]⟩
    ·cases h
   ·rename_i hl;split at h
    ·rename_i k e hu;injection h with h;injection h with h1 h2;subst h1;subst h2;exact⟨rfl,λR' W' ha hg=>by unfold gZ;rw[cM R' ha,hl];simp only[hu]⟩
    ·cases h
   ·rename_i r hl;split at h
    ·rename_i k e es c hu hr;injection h with h;injection h with h1 h2;subst h1;subst h2;refine⟨rfl,λR' W' ha hg=>?_⟩;have AL:Grow W W':=hg.resolve_left (by simp[gu]);unfold gZ;rw[cM R' ha,hl];simp only[hu,AL _ _ hr]
    ·cases h
   ·rename_i hb hl;cases hb
   ·rename_i hb hl;cases hb
   ·rename_i hb hl;cases hb
   ·rename_i hb hl;cases hb
   ·rename_i hb hl;cases hb
   ·rename_i hb hl;cases hb
   ·rename_i h1 h2 h3 _ _ _ _ _ _;obtain⟨hp,rfl⟩:=gb _ h;refine⟨rfl,λR' W' ha hg=>?_⟩;unfold gZ;rw[cM R' ha];split
    ·rename_i hl;exact absurd hl (h1 _ _ _ rfl)
    ·rename_i hl;exact absurd hl (h2 rfl)
    ·rename_i hl;exact absurd hl (h3 _ rfl)
    ·rename_i hb hl;cases hb
    ·rename_i hb hl;cases hb
    ·rename_i hb hl;cases hb
    ·rename_i hb hl;cases hb
    ·rename_i hb hl;cases hb
    ·rename_i hb hl;cases hb
    ·rw[Ru R' (λy hy=>ha y hy),hp];rfl
end
section
variable [ak]
def qf{P:ah}{σ:cV}{b:Nat}(hb:σ b=none)(w:aq)(t:ai){cs cz:List ae}(hc:LR σ cs cz):
 (newRow t cz.toArray).run P w=.ok ⟨w.heap.size,0,none⟩ {w with heap:=w.heap.push (.cells cz.toArray t)}/\
 kA (bR σ b ⟨w.heap.size,0,cs.length⟩) (w.heap.push (.cells cz.toArray t)) ⟨w.heap.size,0,cs.length⟩ (.cells cs):=by
 refine⟨by simp[newRow],⟨cz.toArray,t,(0,0),by simp,λ_=>rfl,by simp,by simp[hc.1],λi v hv=>?_⟩⟩;obtain⟨v',a,b⟩:=hc.get hv;exact⟨v',by simpa using a,b.mono (dh hb)⟩
def Lays(P:ah)(R:ak.Fr)(o:ao)(obj:dO)(mk:Nat->ae):Prop:=
 ∀(σ:cV) (ρ:ap->ae) (w:aq) (b:Nat),(∀x∈o.op.operands,VR σ (aA R x) (ρ x))->σ b=none->
  ∃v' x e,(execOp ρ o).run P w=.ok (.value v') {w with heap:=w.heap.push x}/\VR (bR σ b ⟨w.heap.size,0,e⟩) (mk b) v'/\kA (bR σ b ⟨w.heap.size,0,e⟩) (w.heap.push x) ⟨w.heap.size,0,e⟩ obj
def Lays.agree{P:ah}{R R':ak.Fr}{o:ao}{obj:dO}{mk:Nat->ae}(h:Lays P R o obj mk)(ha:Dk o R R'):Lays P R' o obj mk:=
 λσ ρ w b hρ hb=>h σ ρ w b (λx hx=>by rw[<-ha x hx];exact hρ x hx) hb
def SJ{P:ah}{R:ak.Fr}{o:ao}{t:ai}{cs:List ae}(h:∀(σ:cV) (ρ:ap->ae) (w:aq),(∀x∈o.op.operands,VR σ (aA R x) (ρ x))->
 ∃cz,LR σ cs cz/\(execOp ρ o).run P w=((do pure (.value (.pointer (some (<-newRow t cz.toArray))))):Sem Next).run P w):
 Lays P R o (.cells cs) (λb=>.pointer (some ⟨b,0,none⟩)):=by
 intro σ ρ w b hρ hb;obtain⟨cz,hc,hr⟩:=h σ ρ w hρ;obtain⟨h1,h2⟩:=qf (P:=P) hb w t hc;refine⟨.pointer (some ⟨w.heap.size,0,none⟩),.cells cz.toArray t,cs.length,by rw[hr];simp only[ch,h1,b8,ff],?_,h2⟩;have:=VR.ptr (σ:=bR σ b ⟨w.heap.size,0,cs.length⟩) ⟨b,0,none⟩ _ de rfl;simpa using this
def NB{P:ah}{R:ak.Fr}{o:ao}{t:ai}{cs:List ae}(h:∀(σ:cV) (ρ:ap->ae) (w:aq),(∀x∈o.op.operands,VR σ (aA R x) (ρ x))->
 ∃cz,LR σ cs cz/\(execOp ρ o).run P w=((do pure (.value (.pointer (some (<-newRow t cz.toArray))))):Sem Next).run P w):
 Lays P R o (lz t cs) (λb=>.pointer (some ⟨b,0,none⟩)):=by
 intro σ ρ w b hρ hb;obtain⟨cz,hc,hr⟩:=h σ ρ w hρ;obtain⟨h1,_⟩:=qf (P:=P) hb w t hc;refine⟨.pointer (some ⟨w.heap.size,0,none⟩),.cells cz.toArray t,cs.length,by rw[hr];simp only[ch,h1,b8,ff],?_,Cq (hc.mono (dh hb)) (by simp)⟩;have:=VR.ptr (σ:=bR σ b ⟨w.heap.size,0,cs.length⟩) ⟨b,0,none⟩ _ de rfl;simpa using this
set_option maxHeartbeats 1000000 in
def Pr{P:ah}{call:Callee}{o:ao}{R:ak.Fr}{W W1:AW}{v:ae}(hk:gu o=2)(h:oh P call o R W=some (v,W1)):
 ∃obj mk,(∀cs,obj≠ .ro cs)/\v=mk W.next/\W1=W.add obj/\Lays P R o obj mk:=by
 obtain⟨dst,op,type,pos,after,guard⟩:=o;cases op<;>simp only[gu]at hk<;>(try(exfalso;omega))<;>simp only[sG,fV,CY]at h;case alloc t=>
  split at h
  ·rename_i z hz;injection h with h;rw[AW.dj]at h;injection h with h1 h2;refine⟨lz t z.cells.toList,λb=>.pointer (some ⟨b,0,none⟩),DC t _,h1.symm,h2.symm,NB (t:=t) λσ ρ w hρ=>?_⟩;obtain⟨wK,zJ⟩:=fS hz w;refine⟨z.cells.toList,z7 zJ,?_⟩;simp[execOp,Instr.alloc,wK,newVar]
  ·cases h
 case box t x=>injection h with h;rw[AW.dj]at h;injection h with h1 h2;refine⟨.cells (aA R x).cells.toList,λb=>.pointer (some ⟨b,0,none⟩),λ_=>by simp,h1.symm,h2.symm,SJ (t:=t) λσ ρ w hρ=>?_⟩;refine⟨(ρ x).cells.toList,(hρ x (by simp[Op.operands])).cells,?_⟩;simp[execOp,Instr.box,newVar]
 case buildSlice t len ps=>
  replace h:=qw h;unfold lZ at h;split at h
  ·rename_i e hu;split at h
   ·rename_i n z hn hz;split at h
    ·rename_i hc;obtain⟨hc1,N8,Qu⟩:=hc;split at h
     ·rename_i c hf;injection h with h;rw[AW.dj]at h;injection h with h1 h2;refine⟨.cells c.toList,λb=>.slice (some ⟨b,0,none⟩) len len,λ_=>by simp,h1.symm,h2.symm,?_⟩;intro σ ρ w b hρ hb;have hp:=w3 (σ:=σ) (R:=R) (ρ:=ρ) ps (λp hp=>hρ p.2 (by simp[Op.operands];exact⟨p.1,by simpa using hp⟩));obtain⟨wK,zJ⟩:=fS hz w;obtain⟨wW,h1,h2⟩:=vf _ _ _ _ _ _ hp (LR.kG (σ:=σ) (λ_=>ei) Qu) hf;obtain⟨k1,k2⟩:=qf (P:=P) hb w e (cs:=c.toList) (cz:=wW.toList) h2;refine⟨.slice (some ⟨w.heap.size,0,none⟩) len len,.cells wW.toList.toArray e,c.toList.length,?_,?_,k2⟩
      ·have Sk:¬len*n>2^ 24:=by omega
       simp only[gi]at k1;have:(Instr.buildSlice t len (ps.map λ(i,x)=>(i,ρ x))).run P w=.ok (.slice (some ⟨w.heap.size,0,none⟩) len len) {w with heap:=w.heap.push (.cells wW e)}:=by
        by_cases h0:len*n=0
        ·rw[pO h0]at h1;simp only[Instr.buildSlice,ch,bJ hu,b8,bz hn,ay Sk,ff,ax h0];rw[show(Array.map (λx=>(#[]:Array ae)[x % (#[]:Array ae).size]!) (Array.range (len*n)))=#[]by rw[h0];simp,h1];simp[k1]
        ·rw[s8 h0]at h1;simp only[Instr.buildSlice,ch,bJ hu,b8,bz hn,ay Sk,ff,ay h0,wK];rw[show(Array.map (λx=>z.cells[x % z.cells.size]!) (Array.range (len*n)))=EQ z (len*n)from rfl,h1];simp[k1]
       simp only[execOp,ch,this,b8,ff,gi]
      ·have:=VR.slice (σ:=bR σ b ⟨w.heap.size,0,c.toList.length⟩) ⟨b,0,none⟩ len len len _ de rfl (.known len N8);simpa using this
     ·cases h
    ·cases h
   ·cases h
  ·cases h
 case makeSlice t l c=>
  unfold kq at h;split at h
  ·rename_i e hu;split at h
   ·rename_i n z bytes kl l0 kc c0 hn hz hbt hel hec;split at h
    ·rename_i pi;obtain⟨c1,c2,c3,c4⟩:=pi;injection h with h;rw[AW.dj]at h;injection h with h1 h2;refine⟨.cells (iL z (c0*n)).toList,λb=>.slice (some ⟨b,0,none⟩) l0 c0,λ_=>by simp,h1.symm,h2.symm,?_⟩;intro σ ρ w b hρ hb;have hl:=hρ l (by simp[Op.operands]);have hc:=hρ c (by simp[Op.operands]);rw[hel]at hl;rw[hec]at hc;have HK:=hl.nT;have oN:=hc.nT;obtain⟨wK,zJ⟩:=fS hz w;have hi:∃i,P.info? e=some i/\i.bytes=bytes:=by
      cases hi:P.info? e with
      |none=>rw[hi]at hbt;cases hbt
      |some i=>rw[hi]at hbt;simp at hbt;exact⟨i,rfl,hbt⟩
     obtain⟨i,hi,Td⟩:=hi;have Qx:LR σ (iL z (c0*n)).toList (iL z (c0*n)).toList:=LR.kG (λ_=>ei) c4;obtain⟨k1,k2⟩:=qf (P:=P) hb w e Qx;refine⟨.slice (some ⟨w.heap.size,0,none⟩) l0 c0,.cells (iL z (c0*n)).toList.toArray e,_,?_,?_,k2⟩
     ·have:(Instr.makeSlice t (ρ l) (ρ c)).run P w=.ok (.slice (some ⟨w.heap.size,0,none⟩) l0 c0) {w with heap:=w.heap.push (.cells (iL z (c0*n)).toList.toArray e)}:=by
       rw[HK,oN];have hwl:IntKind.i64.wrap (Int.ofNat l0)=(l0:Int):=vV (by omega);have hwc:IntKind.i64.wrap (Int.ofNat c0)=(c0:Int):=vV c2;have Ci:(typeInfo e).run P w=.ok i w:=by simp[typeInfo,hi]
       have aeZ:(bytes:Int)*(c0:Int)<=281474976710656:=by
        have:((c0*bytes:Nat):Int)<=281474976710656:=by omega
        rw[Int.natCast_mul,Int.mul_comm]at this;exact this
       simp only[gi]at k1;have Ja:¬(((decide ((c0:Int)<0)||decide ((i.bytes:Int)*(c0:Int)>2^ 48))||decide ((l0:Int)<0)||decide ((l0:Int)>(c0:Int)))=true):=by rw[Td];simp;omega
       simp only[Instr.makeSlice,ch,bJ hu,b8,asInt,asIntOf,ff,Ci,hwl,hwc];rw[ay (by simpa using Ja)];by_cases h0:c0*n=0
       ·rw[pO h0]at k1|-;simp only[ch,run_askRoom,b8,ot,bz hn,ax h0,ff];rw[show(Array.map (λx=>(#[]:Array ae)[x % (#[]:Array ae).size]!) (Array.range (c0*n)))=#[]by rw[h0];simp,k1];simp
       ·rw[s8 h0]at k1|-;simp only[ch,run_askRoom,b8,ot,bz hn,ay h0,wK,ff];rw[show(Array.map (λx=>z.cells[x % z.cells.size]!) (Array.range (c0*n)))=EQ z (c0*n)from rfl,k1];simp
      simp only[execOp,ch,this,b8,ff]
     ·have:=VR.slice (σ:=bR σ b ⟨w.heap.size,0,(iL z (c0*n)).toList.length⟩) ⟨b,0,none⟩ l0 c0 c0 _ de rfl (.known c0 (by unfold ge;omega));simpa using this
    ·cases h
   ·cases h
  ·cases h
 case binOp op t x y yt=>split at hk<;>omega
 case makeFunc fn a b=>cases fn<;>simp only[]at hk<;>omega
 case call c=>obtain⟨callee,args,argTypes⟩:=c;cases callee<;>simp only at hk<;>(try omega);rename_i b;cases b<;>simp only at hk<;>omega
section
variable {σ:cV} {W:AW} {w:aq}
def bg.ghost(h:bg σ W w.heap)(o:dO):bg σ (W.add o) w.heap:=by
 have fe:∀{c:Nat} {g:rB},σ c=some g->c≠W.next:=λhc e=>by have:=(h.np _ _ hc).1;omega
 refine⟨?_,?_,?_,?_⟩
 ·intro c hc;have oN:W.next+1<=c:=hc;rw[AW.bC _ _ (by omega)];exact h.free c (by omega)
 ·intro c g hc;have:=h.np c g hc;simp only[AW.aL];omega
 ·intro c o2 g hc hg;rw[AW.bC _ _ (bL (fe hg))]at hc;exact h.obj c o2 g hc hg
 ·intro b1 b2 o1 o2 g1 g2 FC h1 h2 k1 k2 hr;rw[AW.bC _ _ (bL (fe k1))]at h1;rw[AW.bC _ _ (bL (fe k2))]at h2;exact h.ny _ _ _ _ _ _ FC h1 h2 k1 k2 hr
def bg.bind(h:bg σ W w.heap){b e:Nat}{o:dO}{x:mj}(hb:W.get b=some o)(Cz:σ b=none)
 (qr:kA (bR σ b ⟨w.heap.size,0,e⟩) (w.heap.push x) ⟨w.heap.size,0,e⟩ o):
 bg (bR σ b ⟨w.heap.size,0,e⟩) W (w.heap.push x):=by
 have hs:Sub σ (bR σ b ⟨w.heap.size,0,e⟩):=dh Cz;have eG:∀B,B<w.heap.size->(w.heap.push x)[B]? =w.heap[B]? :=λB hB=>by rw[qd];rw[bZ]
 have mE:∀c g,bR σ b ⟨w.heap.size,0,e⟩ c=some g->(c=b/\g=⟨w.heap.size,0,e⟩)\/(c≠b/\σ c=some g):=λc g hc=>by
  unfold bR at hc;split at hc
  ·rename_i hx;injection hc with hc;exact .inl ⟨hx,hc.symm⟩
  ·rename_i hx;exact .inr ⟨hx,hc⟩
 have KZ:b<W.next:=by
  rcases Nat.lt_or_ge b W.next with h1|h1
  ·exact h1
  ·rw[h.free b h1]at hb;cases hb
 refine⟨h.free,?_,?_,?_⟩
 ·intro c g hc;rcases mE c g hc with⟨rfl,rfl⟩|⟨_,h2⟩
  ·exact⟨KZ,by simp⟩
  ·have:=h.np c g h2;simp;omega
 ·intro c o2 g hc hk;rcases mE c g hk with⟨rfl,rfl⟩|⟨h1,h2⟩
  ·rw[hb]at hc;injection hc with hc;subst hc;exact qr
  ·exact((h.obj c o2 g hc h2).mono hs).same (eG _ (h.np c g h2).2)
 ·intro b1 b2 o1 o2 g1 g2 FC h1 h2 k1 k2 hr;rcases mE b1 g1 k1 with⟨rfl,rfl⟩|⟨x1,y1⟩
  ·rcases mE b2 g2 k2 with⟨rfl,rfl⟩|⟨x2,y2⟩
   ·exact absurd rfl FC
   ·have:=(h.np _ _ y2).2;exact .inl (by simp only[ne_eq];omega)
  ·rcases mE b2 g2 k2 with⟨rfl,rfl⟩|⟨x2,y2⟩
   ·have:=(h.np _ _ y1).2;exact .inl (by simp only[ne_eq];omega)
   ·exact h.ny _ _ _ _ _ _ FC h1 h2 y1 y2 hr
def eB.NE{σ0:cV}{W0:AW}{w0:aq}(h:eB σ0 W0 w0 σ W w)(hw:W.get W.next=none)(o:dO):eB σ0 W0 w0 σ (W.add o) w:=
 ⟨h.sub,λb cs x=>by
   have h1:=h.ro b cs x;have:W.next≠b:=λe=>by subst e;rw[hw]at h1;cases h1
   rw[AW.bC _ _ this];exact h1,
   h.size,h.os,h.tape,h.output,h.dK,λb o2 h1 h2=>by
    obtain⟨a1,a2⟩:=h.ghost b o2 h1 h2;have:W.next≠b:=λe=>by subst e;rw[hw]at a1;cases a1
    exact⟨by rw[AW.bC _ _ this];exact a1,a2⟩,h.grow⟩
def eB.bind{σ0:cV}{W0:AW}{w0:aq}(h:eB σ0 W0 w0 σ W w){b e:Nat}(Cz:σ b=none)(h0:W0.get b=none){x:mj}{o:dO}(qr:kA (bR σ b ⟨w.heap.size,0,e⟩) (w.heap.push x) ⟨w.heap.size,0,e⟩ o)(nS:∀cs,o≠ .ro cs):
 eB σ0 W0 w0 (bR σ b ⟨w.heap.size,0,e⟩) W {w with heap:=w.heap.push x}:=by
 have hs:Sub σ (bR σ b ⟨w.heap.size,0,e⟩):=dh Cz;refine⟨h.sub.trans hs,h.ro,by have:=h.size;simp;omega,h.os,h.tape,h.output,?_,?_,?_⟩
 ·intro B hB hm;rw[<-h.dK B hB hm];have:=h.size;show(w.heap.push x)[B]? =_;rw[qd,bZ]
 ·intro c o2 h1 h2;obtain⟨a1,a2⟩:=h.ghost c o2 h1 h2;have:c≠b:=λe=>by subst e;rw[h0]at h1;cases h1
  exact⟨a1,by unfold bR;rw[ay this];exact a2⟩
 ·intro c g hk hB;unfold bR at hk;split at hk
  ·injection hk with hk;subst hk;have:=h.size;simp at hB;omega
  ·exact h.grow c g hk hB
end
end
section
variable [ak]
def LB{d:Option Tmp}{l:List Tmp}:Hd d l=true<->∃t,d=some t/\t∈l:=by
 cases d with
 |none=>simp[Hd]
 |some d=>simp[Hd,qh]
def oS{d:Option Tmp}{l:List Tmp}(h:Hd d l=false){t:Tmp}(ht:d=some t):t∉l:=λhm=>by have:=LB.2 ⟨t,ht,hm⟩;rw[h]at this;cases this
def fZ(ops:Array ao)(R:ak.Fr)(o:ao):Bool:=
 match o.guard with
 |none=>true
 |some (j,w)=>match(ops[j]?).bind (·.dst)with
  |some t=>(match cR R t with|.bool b=>b==w|_=>false)
  |none=>false
def H5{ops:Array ao}{o:ao}{t:Tmp}(h:Operand.tmp t∈o.op.operands):t∈o.looksAt ops:=by unfold Oper.looksAt;refine wx.2 (.inl (List.mem_filterMap.2 ⟨.tmp t,by simpa using h,rfl⟩))
def yp{ops:Array ao}{o:ao}{j:Nat}{w:Bool}{t:Tmp}(h:o.guard=some (j,w))(ht:(ops[j]?).bind (·.dst)=some t):t∈o.looksAt ops:=by unfold Oper.looksAt;refine wx.2 (.inr ?_);rw[h];simp only;rw[ht];simp
def HZ{R R':ak.Fr}{x:ap}(h:∀t,x=.tmp t->cR R' t=cR R t):aA R' x=aA R x:=by
 cases x with
 |tmp t=>exact h t rfl
 |_=>rfl
def uX{ops:Array ao}{o:ao}{R R':ak.Fr}(h:∀t∈o.looksAt ops,cR R' t=cR R t):Dk o R R'/\fZ ops R' o=fZ ops R o:=by
 refine⟨λx hx=>HZ λt ht=>h t (H5 (by rw[<-ht];exact hx)),?_⟩;unfold fZ;split
 ·rfl
 ·rename_i j w hg;split
  ·rename_i t ht;rw[h t (yp hg ht)]
  ·rfl
def VR.Oy{σ:cV}{v:ae}{b:Bool}(h:VR σ v (.bool b)):v=.bool b:=by cases h;rfl
def xT{ops:Array ao}{o:ao}{σ:cV}{R:ak.Fr}{a:aV}(h:∀t∈o.looksAt ops,VR σ (cR R t) (a.tmps.getD t ag)):
 Region.wanted o (yielded ops a.tmps)=fZ ops R o:=by
 unfold Region.wanted fZ;cases hg:o.guard with
 |none=>rfl
 |some jw=>
  obtain⟨j,w⟩:=jw;simp only;unfold yielded;cases ht:(ops[j]?).bind (·.dst)with
  |none=>rfl
  |some t=>
   have hv:=h t (yp hg ht);simp only[bq];cases hq:a.tmps[t]? with
   |none=>
    have he:a.tmps.getD t ag=ag:=by simp[hq]
    rw[he]at hv;have:∀b,cR R t≠ .bool b:=λb hb=>by rw[hb]at hv;have:=hv.gx;simp[ag]at this
    simp only;first
     |rfl
     |(split
       ·rename_i b hb;exact absurd hb (this b)
       ·rfl)
   |some u=>
    have he:a.tmps.getD t ag=u:=by simp[hq]
    rw[he]at hv;cases hr:cR R t with
    |bool b=>rw[hr]at hv;have:=hv.gx;subst this;simp
    |_=>
     simp only;split
     ·rename_i b hb;injection hb with hb;subst hb;have:=hv.Oy;rw[hr]at this;cases this
     ·rfl
def jm(P:ah)(call:Callee)(ops:Array ao)(o:ao)(R:ak.Fr)(W:AW):Option (ak.Fr×AW):=
 if fZ ops R o then
  match oh P call o R W with
  |some (v,W')=>some (eH R o.dst v,W')
  |none=>none
 else some (eH R o.dst ag,W)
def ni(P:ah)(call:Callee)(ops:Array ao):List ao->ak.Fr->AW->Option (ak.Fr×AW)
 |[],R,W=>some (R,W)
 |o::l,R,W=>match jm P call ops o R W with
  |some (R',W')=>ni P call ops l R' W'
  |none=>none
def vR(a b:ByteArray):Bool:=decide (a.data.toList=b.data.toList)
def ub(a b:aP):Bool:=Nat.beq a.block b.block&&Nat.beq a.off b.off&&a.spot.isNone&&b.spot.isNone
def sS:ae->ae->Bool
 |.bool a,.bool b=>a==b
 |.int k a,.int j b=>decide (k=j)&&decide (a=b)
 |.string a,.string b=>vR a b
 |.pointer none,.pointer none=>true
 |.pointer (some a),.pointer (some b)=>ub a b
 |.slice none l c,.slice none l' c'=>Nat.beq l l'&&Nat.beq c c'
 |.slice (some a) l c,.slice (some b) l' c'=>ub a b&&Nat.beq l l'&&Nat.beq c c'
 |.map none,.map none=>true
 |.map (some a),.map (some b)=>Nat.beq a b
 |.nilFunc,.nilFunc=>true
 |.nilIface,.nilIface=>true
 |.func (.func f) a b,.func (.func g) c d=>Nat.beq f g&&a.isEmpty&&b.isEmpty&&c.isEmpty&&d.isEmpty
 |_,_=>false
def Se:List ae->List ae->Bool
 |[],[]=>true
 |a::l,b::m=>sS a b&&Se l m
 |_,_=>false
def fX:ae->ae->Bool
 |.agg a,.agg b=>Se a.toList b.toList
 |.tuple a,.tuple b=>Se a.toList b.toList
 |.iface t a,.iface u b=>Nat.beq t u&&sS a b
 |a,b=>sS a b
def By{a b:ByteArray}(h:vR a b=true):a=b:=by have:=si h;cases a;cases b;simp only[ByteArray.mk.injEq];exact oD.1 this
def DH{a b:aP}(h:ub a b=true):a=b:=by simp only[ub,bB,dW]at h;obtain⟨⟨⟨h1,h2⟩,h3⟩,h4⟩:=h;obtain⟨b1,o1,s1⟩:=a;obtain⟨b2,o2,s2⟩:=b;cases s1<;>cases s2<;>simp_all
def I1{a b:ae}(h:sS a b=true):a=b:=by
 unfold sS at h;split at h<;>first
  |rfl
  |(simp at h;done)
  |(simp only[bB,dW,kH,lP]at h;simp[h];done)
  |(rw[By h];done)
  |(rw[DH h];done)
  |(simp only[bB,dW]at h;obtain⟨⟨h1,h2⟩,h3⟩:=h;rw[DH h1,h2,h3];done)
  |(simp only[bB,dW,wa]at h;obtain⟨⟨⟨⟨h1,h2⟩,h3⟩,h4⟩,h5⟩:=h;subst h1 h2 h3 h4 h5;rfl)
def SV{a b:List ae}(h:Se a b=true):a=b:=by
 induction a generalizing b with
 |nil=>cases b with|nil=>rfl|cons x l=>cases h
 |cons x l ih=>
  cases b with
  |nil=>cases h
  |cons y m=>simp only[Se,bB]at h;rw[I1 h.1,ih h.2]
def RE{a b:ae}(h:fX a b=true):a=b:=by
 unfold fX at h;split at h
 ·rw[oD.1 (SV h)]
 ·rw[oD.1 (SV h)]
 ·simp only[bB,dW]at h;rw[h.1,I1 h.2]
 ·exact I1 h
def nZ(P:ah)(call:Callee)(ops:Array ao)(R:ak.Fr)(W:AW)(j:Nat):Bool:=
 match ops[j]? with
 |none=>false
 |some o=>if fZ ops R o then
  match oh P call o R W with
  |some (v,_)=>(match o.dst with|some t=>fX v (cR R t)|none=>true)
  |none=>false
  else true
def iI(P:ah)(call:Callee)(ops:Array ao):List (Nat×List Nat)->ak.Fr->AW->Option (ak.Fr×AW)
 |[],R,W=>some (R,W)
 |(i,re)::l,R,W=>match ops[i]? with
  |none=>none
  |some o=>match jm P call ops o R W with
   |some (R',W')=>if re.all (nZ P call ops R' W')then iI P call ops l R' W' else none
   |none=>none
def Km{P:ah}{call:Callee}{ops:Array ao}:∀(l:List Nat) (R:ak.Fr) (W:AW),(∀i∈l,i<ops.size)->
 iI P call ops (l.map λi=>(i,[])) R W=ni P call ops (l.filterMap λi=>ops[i]?) R W:=by
 intro l;induction l with
 |nil=>intro R W _;rfl
 |cons i l ih=>
  intro R W h;have hi:i<ops.size:=h i (by simp);have hg:ops[i]? =some ops[i]:=gp hi;simp only[i6,iI,hg,List.filterMap_cons,ni];split
  ·rename_i R' W' hs;simp only[md,bk];exact ih R' W' λj hj=>h j (by simp[hj])
  ·rfl
def jH{R:ak.Fr}{d:Option Tmp}{v:ae}{t:Tmp}(h:d≠some t):cR (eH R d v) t=cR R t:=by
 cases d with
 |none=>rfl
 |some d=>exact pC R v (λe=>h (by rw[e]))
def s7{R:ak.Fr}{d:Option Tmp}{v:ae}{t:Tmp}(h:d=some t):cR (eH R d v) t=v:=by subst h;exact sE R t v
def fW{a:aV}{d:Option Tmp}{v:ae}{t:Tmp}(h:d≠some t):(a.put d v).tmps.getD t ag=a.tmps.getD t ag:=by
 cases d with
 |none=>rfl
 |some d=>
  have:d≠t:=λe=>h (by rw[e])
  simp[Act.put,Ce this]
def mR{a:aV}{d:Option Tmp}{v:ae}{t:Tmp}(h:d=some t)(ht:t<a.tmps.size):(a.put d v).tmps.getD t ag=v:=by subst h;simp[Act.put,ht]
def Cm{a:aV}{d:Option Tmp}{v:ae}:(a.put d v).tmps.size=a.tmps.size:=by cases d<;>simp[Act.put]
end
section
variable [ak]
def KD{a b:Nat}(h:Nat.beq a b=false):a≠b:=λe=>by rw[e,nQ]at h;cases h
def RX{A:List Nat}{o:ao}{j:Nat}(h:Nat.testBit (sa A o) j=true):
 ∃e∈o.after,Region.binds .any e=true/\(j=e.on\/Nat.testBit (A.getD e.on 0) j=true):=by
 have key:∀l:List Edge,Nat.testBit (l.foldr (λe m=>if Region.binds .any e then Nat.lor (Nat.lor (2^ e.on) (A.getD e.on 0)) m else m) 0) j=true->
  ∃e∈l,Region.binds .any e=true/\(j=e.on\/Nat.testBit (A.getD e.on 0) j=true):=by
  intro l;induction l with
  |nil=>intro h;simp at h
  |cons e l ih=>
   intro h;simp only[List.foldr_cons]at h;split at h
   ·rename_i hb;have h':Nat.testBit ((2^ e.on|||A.getD e.on 0)|||(l.foldr (λe m=>if Region.binds .any e then Nat.lor (Nat.lor (2^ e.on) (A.getD e.on 0)) m else m) 0)) j=true:=h;rw[Nat.testBit_or,Nat.testBit_or,ls,ls]at h';rcases h' with(h1|h1)|h1
    ·rw[Nat.testBit_two_pow]at h1;exact⟨e,by simp,hb,.inl (si h1).symm⟩
    ·exact⟨e,by simp,hb,.inr h1⟩
    ·obtain⟨e',a,b⟩:=ih h1;exact⟨e',by simp[a],b⟩
   ·obtain⟨e',a,b⟩:=ih h;exact⟨e',by simp[a],b⟩
 obtain⟨e,a,b⟩:=key o.after.toList h;exact⟨e,by simpa using a,b⟩
structure Xb (ops:Array ao) (A:List Nat) (pre:List BH) (i:Nat) (re:List Nat) (ij:List (Nat×List Nat)) (o:ao) (e:Bool):Prop where
 op:ops[i]? =some o
 early:e=true->gu o<3/\Hd o.dst (o.looksAt ops)=false/\∀d∈pre,Hd o.dst (iS ops d.o)=false
 new:∀d∈pre,d.i≠i
 top:∀ed∈o.after,Region.binds .any ed=true->∃d∈pre,d.i=ed.on
 held:∀d∈pre,d.early=true->Nat.testBit (A.getD i 0) d.i=true\/(Hd d.o.dst (o.looksAt ops)=false/\(e=true\/(Hd o.dst (iS ops d.o)=false/\(gu d.o=0\/gu d.o=2\/d.i∈re))))
 last:e=true\/∀k∈ij,∃ok,ops[k.1]? =some ok/\∃ed∈ok.after,Region.binds .any ed=true/\∀d∈pre,d.i≠ed.on
 go:x8 ops A (⟨i,o,e⟩::pre) ij=true
def yP{ops:Array ao}{A:List Nat}{pre:List BH}{i:Nat}{re:List Nat}{ij:List (Nat×List Nat)}(h:x8 ops A pre ((i,re)::ij)=true):
 ∃o e,Xb ops A pre i re ij o e:=by
 unfold x8 at h;split at h
 ·cases h
 ·rename_i o ho;simp only[bB]at h;obtain⟨⟨⟨⟨h1,h2⟩,h3⟩,h4⟩,h5⟩:=h;refine⟨o,_,⟨ho,?_,?_,?_,?_,?_,h5⟩⟩
  ·intro he;simp only[bB,cr,rK]at he;obtain⟨⟨a,b⟩,c⟩:=he;exact⟨by simpa[i9]using a,b,c⟩
  ·intro d hd;rw[cr]at h1;have:=h1 d hd;exact KD (by simpa only[rK]using this)
  ·intro ed UR hb;rw[cr]at h2;have:=h2 ed (by simpa using UR);rw[hb]at this;simpa using this
  ·intro d hd hde;rw[cr]at h3;have:=h3 d hd;rw[hde]at this;simp only[Bool.not_true,Bool.false_or,ls,bB,rK,dW,qh,or_assoc]at this;simpa only[bB,rK,or_assoc]using this
  ·rw[ls]at h4;refine h4.imp id λh4=>?_
   intro k hk;rw[cr]at h4;have:=h4 k hk;split at this
   ·rename_i ok iJ;rw[sL]at this;obtain⟨ed,UR,hq⟩:=this;simp only[bB,cr,rK]at hq;refine⟨ok,iJ,ed,by simpa using UR,hq.1,λd hd=>?_⟩;have:=hq.2 d hd;exact KD this
   ·cases this
section
variable {P:ah} {call:Callee} {ops:Array ao} {A:List Nat} {nt:Nat} {ng:List Nat} {σ0:cV} {W0:AW} {w0:aq} {ds:List dq}
def NY(P:ah)(call:Callee)(ops:Array ao)(W0:AW)(bd:Nat->Option Nat)(σ:cV)(R:ak.Fr)(W:AW)(d:BH):Prop:=
 (fZ ops R d.o=false/\bd d.i=none/\∀t,d.o.dst=some t->cR R t=ag)\/
 (fZ ops R d.o=true/\bd d.i=none/\gu d.o<=1/\∃v,oh P call d.o R W=some (v,W)/\∀t,d.o.dst=some t->cR R t=v)\/
 (fZ ops R d.o=true/\∃obj mk x,Lays P R d.o obj mk/\(∀t,d.o.dst=some t->cR R t=mk x)/\W.get x=some obj/\W0.get x=none/\σ x=none/\bd d.i=some x/\∀cs,obj≠ .ro cs)
def rD{o:ao}{t:Tmp}(h:t∈o.looksAt ops):t∈iS ops o:=by unfold iS;simp[h]
def my{o:ao}{t:Tmp}(h:o.dst=some t):t∈iS ops o:=by unfold iS;simp[h]
def NY.mono{bd EO:Nat->Option Nat}{σ σ':cV}{R R':ak.Fr}{W W':AW}{d:BH}(h:NY P call ops W0 bd σ R W d)
 (hb:EO d.i=bd d.i)(hR:∀t∈iS ops d.o,cR R' t=cR R t)(hg:Grow W W')(hσ:∀x o,W.get x=some o->σ x=none->σ' x=none):
 NY P call ops W0 EO σ' R' W' d:=by
 obtain⟨ha,hw⟩:=uX (ops:=ops) (o:=d.o) λt ht=>hR t (rD ht)
 rcases h with⟨h1,h2,h3⟩|⟨h1,h2,h3,v,h4,h5⟩|⟨h1,obj,mk,x,h2,h3,h4,h5,h6,h7⟩
 ·exact .inl ⟨by rw[hw];exact h1,by rw[hb];exact h2,λt ht=>by rw[hR t (my ht)];exact h3 t ht⟩
 ·exact .inr (.inl ⟨by rw[hw];exact h1,by rw[hb];exact h2,h3,v,(sX h3 h4).2 R' W' ha (.inr hg),λt ht=>by rw[hR t (my ht)];exact h5 t ht⟩)
 ·exact .inr (.inr ⟨by rw[hw];exact h1,obj,mk,x,h2.agree ha,λt ht=>by rw[hR t (my ht)];exact h3 t ht,hg _ _ h4,h5,hσ _ _ h4 h6,by rw[hb];exact h7⟩)
structure J (P:ah) (call:Callee) (ops:Array ao) (A:List Nat) (nt:Nat) (ng:List Nat) (σ0:cV) (W0:AW) (w0:aq) (ds:List dq)
 (pre:List BH) (listed:Array Bool) (bd:Nat->Option Nat) (σ:cV) (R:ak.Fr) (W:AW) (a:aV) (w:aq):Prop where
 xj:bg σ W w.heap
 Jh:tx σ ng
 ext:eB σ0 W0 w0 σ W w
 Im:a.tmps.size=nt
 S1:a.defers=ds
 tO:listed.size=ops.size
 Om:∀t,t<nt->(∀d∈pre,listed.getD d.i true=false->d.o.dst≠some t)->VR σ (cR R t) (a.tmps.getD t ag)
 sub:∀i,i<ops.size->listed.getD i true=true->∃d∈pre,d.i=i
 op:∀d∈pre,ops[d.i]? =some d.o
 early:∀d∈pre,d.early=false->listed.getD d.i true=true
 kind:∀d∈pre,d.early=true->gu d.o<3
 down:∀i j,i<ops.size->listed.getD i true=true->Nat.testBit (A.getD i 0) j=true->listed.getD j true=true
 LM:∀d∈pre,∀d'∈pre,d'.early=true->Hd d'.o.dst (d.o.looksAt ops)=true->Nat.testBit (A.getD d.i 0) d'.i=true/\d.i≠d'.i
 kV:∀d∈pre,listed.getD d.i true=false->NY P call ops W0 bd σ R W d
 inj:∀d∈pre,∀d'∈pre,listed.getD d.i true=false->listed.getD d'.i true=false->∀x,bd d.i=some x->bd d'.i=some x->d.i=d'.i
def J.advance{pre:List BH}{listed:Array Bool}{bd:Nat->Option Nat}{σ:cV}{R R':ak.Fr}{W W':AW}{a:aV}{w:aq}{i:Nat}{re:List Nat}{ij:List (Nat×List Nat)}{o:ao}
 (hJ:J P call ops A nt ng σ0 W0 w0 ds pre listed bd σ R W a w)(hh:Xb ops A pre i re ij o true)(hs:jm P call ops o R W=some (R',W')):
 ∃EO,J P call ops A nt ng σ0 W0 w0 ds (⟨i,o,true⟩::pre) listed EO σ R' W' a w:=by
 obtain⟨hk3,WB,PB⟩:=hh.early rfl;have hi:i<ops.size:=(dB.1 hh.op).1;have If:listed.getD i true=false:=by
  cases hq:listed.getD i true with
  |false=>rfl
  |true=>obtain⟨d,hd,e⟩:=hJ.sub i hi hq;exact absurd e (hh.new d hd)
 have G1:W.get W.next=none:=hJ.xj.free _ (aS _);have build:∀(EO:Nat->Option Nat) (u:ae),R'=eH R o.dst u->bg σ W' w.heap->eB σ0 W0 w0 σ W' w->Grow W W'->(∀k,k≠i->EO k=bd k)->
  NY P call ops W0 EO σ R' W' ⟨i,o,true⟩->(∀x,EO i=some x->W.get x=none)->J P call ops A nt ng σ0 W0 w0 ds (⟨i,o,true⟩::pre) listed EO σ R' W' a w:=by
  intro EO u hR' hwr Hw hg hbd Lt hbx;have xm:∀d∈pre,∀t∈iS ops d.o,cR R' t=cR R t:=λd hd t ht=>by rw[hR'];exact jH λe=>oS (PB d hd) e ht
  have eG:∀d∈pre,listed.getD d.i true=false->NY P call ops W0 EO σ R' W' d:=λd hd hl=>(hJ.kV d hd hl).mono (hbd _ (hh.new d hd)) (xm d hd) hg (λ_ _ _ h=>h)
  have hpx:∀d∈pre,listed.getD d.i true=false->∀x,bd d.i=some x->∃ob,W.get x=some ob:=by
   intro d hd hl x hx;rcases hJ.kV d hd hl with⟨_,h2,_⟩|⟨_,h2,_⟩|⟨_,obj,mk,y,_,_,h4,_,_,h7⟩
   ·rw[h2]at hx;cases hx
   ·rw[h2]at hx;cases hx
   ·rw[h7.1]at hx;injection hx with hx;subst hx;exact⟨obj,h4⟩
  refine⟨hwr,hJ.Jh,Hw,hJ.Im,hJ.S1,hJ.tO,?_,?_,?_,?_,?_,hJ.down,?_,?_,?_⟩
  ·intro t ht uK;have h1:o.dst≠some t:=uK ⟨i,o,true⟩ (by simp) If;rw[hR',jH h1];exact hJ.Om t ht λd hd=>uK d (by simp[hd])
  ·intro k hk hl;obtain⟨d,hd,e⟩:=hJ.sub k hk hl;exact⟨d,by simp[hd],e⟩
  ·intro d hd;rcases df.1 hd with rfl|hd
   ·exact hh.op
   ·exact hJ.op d hd
  ·intro d hd he;rcases df.1 hd with rfl|hd
   ·cases he
   ·exact hJ.early d hd he
  ·intro d hd he;rcases df.1 hd with rfl|hd
   ·exact hk3
   ·exact hJ.kind d hd he
  ·intro d hd d' gq he nv;rcases df.1 hd with rfl|hd
   ·rcases df.1 gq with rfl|gq
    ·simp only at nv;rw[WB]at nv;cases nv
    ·rcases hh.held d' gq he with h1|⟨h1,_⟩
     ·exact⟨h1,λe=>hh.new d' gq e.symm⟩
     ·simp only at nv;rw[h1]at nv;cases nv
   ·rcases df.1 gq with rfl|gq
    ·exfalso;have h1:=PB d hd;obtain⟨t,ht,hm⟩:=LB.1 nv;exact oS h1 ht (rD hm)
    ·exact hJ.LM d hd d' gq he nv
  ·intro d hd hl;rcases df.1 hd with rfl|hd
   ·exact Lt
   ·exact eG d hd hl
  ·intro d hd d' gq hl HK x hx O0;rcases df.1 hd with rfl|hd
   ·rcases df.1 gq with rfl|gq
    ·rfl
    ·rw[hbd _ (hh.new d' gq)]at O0;obtain⟨ob,h1⟩:=hpx d' gq HK x O0;rw[hbx x hx]at h1;cases h1
   ·rcases df.1 gq with rfl|gq
    ·rw[hbd _ (hh.new d hd)]at hx;obtain⟨ob,h1⟩:=hpx d hd hl x hx;rw[hbx x O0]at h1;cases h1
    ·rw[hbd _ (hh.new d hd)]at hx;rw[hbd _ (hh.new d' gq)]at O0;exact hJ.inj d hd d' gq hl HK x hx O0
 have O7:∀u,(∀t∈o.looksAt ops,cR (eH R o.dst u) t=cR R t):=λu t ht=>jH λe=>oS WB e ht
 unfold jm at hs;split at hs
 ·rename_i hw;split at hs
  ·rename_i v W1 qz;injection hs with hs;injection hs with ze lX;subst ze;subst lX;obtain⟨ha,hwa⟩:=uX (O7 v);by_cases YO:gu o<=1
   ·obtain⟨Ik,hk⟩:=sX YO qz;subst Ik;refine⟨λk=>if k=i then none else bd k,build _ v rfl hJ.xj hJ.ext (.refl _) (λk hk=>by simp[hk]) (.inr (.inl ⟨by rw[hwa];exact hw,by simp,YO,v,hk _ _ ha (.inr (.refl _)),λt ht=>s7 ht⟩)) (λx hx=>by simp at hx)⟩
   ·have S8:gu o=2:=by omega
    obtain⟨obj,mk,nS,rfl,rfl,hl⟩:=Pr S8 qz;have aiN:W0.get W.next=none:=by
     cases hq:W0.get W.next with
     |none=>rfl
     |some ob=>
      cases hq2:σ0 W.next with
      |none=>rw[(hJ.ext.ghost _ _ hq hq2).1]at G1;cases G1
      |some g=>have:=(hJ.xj.np _ _ (hJ.ext.sub _ _ hq2)).1;omega
    refine⟨λk=>if k=i then some W.next else bd k,build _ _ rfl (hJ.xj.ghost obj) (hJ.ext.NE G1 obj) (.add G1 obj) (λk hk=>by simp[hk])
     (.inr (.inr ⟨by rw[hwa];exact hw,obj,mk,W.next,hl.agree ha,λt ht=>s7 ht,AW.a8 _ _,aiN,hJ.xj.fresh,by simp,nS⟩)) (λx hx=>by simp at hx;subst hx;exact G1)⟩
  ·cases hs
 ·rename_i hw;injection hs with hs;injection hs with ze lX;subst ze;subst lX;obtain⟨ha,hwa⟩:=uX (O7 ag);refine⟨λk=>if k=i then none else bd k,build _ ag rfl hJ.xj hJ.ext (.refl _) (λk hk=>by simp[hk]) (.inl ⟨by rw[hwa];simpa using hw,by simp,λt ht=>s7 ht⟩) (λx hx=>by simp at hx)⟩
end
end
section
variable [ak]
def dd{l:Array Bool}{i:Nat}(h:i<l.size)(d:Bool):(l.setIfInBounds i true).getD i d=true:=by simp[h]
def aT{l:Array Bool}{i j:Nat}(h:i≠j)(d:Bool):(l.setIfInBounds i true).getD j d=l.getD j d:=by simp[Ce h]
def Em{l:Array Bool}{i:Nat}(h:l.getD i false=true):l.getD i true=true/\i<l.size:=by
 by_cases hi:i<l.size
 ·simp[hi]at h|-;exact h
 ·simp[hi]at h
def Hm{ops:Array ao}{nt:Nat}{ng:List Nat}(iJ:∀(i:Nat) (o:ao),ops[i]? =some o->jt nt ng o=true){i:Nat}{o:ao}(ho:ops[i]? =some o){t:Tmp}(ht:t∈o.looksAt ops):t<nt:=by
 unfold Oper.looksAt at ht;rcases wx.1 ht with h|h
 ·obtain⟨x,hx,e⟩:=List.mem_filterMap.1 h;have:=iJ i o ho;simp only[jt,bB,cr]at this;have h2:=this.1 x hx;cases x with
  |tmp u=>simp only[fI]at e;subst e;simpa[mB,i9]using h2
  |_=>cases e
 ·split at h
  ·rename_i g b hg;cases hq:(ops[g]?).bind (·.dst)with
   |none=>rw[hq]at h;simp at h
   |some u=>
    rw[hq]at h;simp at h;subst h;cases hg:ops[g]? with
    |none=>rw[hg]at hq;cases hq
    |some og=>rw[hg]at hq;simp only[bq]at hq;have:=iJ g og hg;simp only[jt,hq,bB]at this;simpa[i9]using this.2
  ·simp at h
def pJ{ops:Array ao}{nt:Nat}{ng:List Nat}{σ:cV}{R:ak.Fr}{a:aV}(hG:tx σ ng){o:ao}(iJ:jt nt ng o=true)
 (h:∀t∈o.looksAt ops,VR σ (cR R t) (a.tmps.getD t ag)):∀x∈o.op.operands,VR σ (aA R x) (a.eval x):=by
 intro x hx;simp only[jt,bB,cr]at iJ;have hk:=iJ.1 x (by simpa using hx);cases x with
 |tmp t=>exact h t (H5 hx)
 |const v=>exact hX hk
 |global g=>obtain⟨e,he⟩:=hG g (qh.1 hk);have:=VR.ptr (σ:=σ) ⟨g,0,none⟩ _ he rfl;simpa[aA,Act.eval]using this
 |func f=>exact .func _ _ _ _ _ _ (.func f) rfl (λi v v' h=>by simp at h) rfl (λi v v' h=>by simp at h)
def Sb{o:ao}(h:gu o<3):∀c,o.op≠ .defer c:=λc e=>by unfold gu at h;rw[e]at h;simp at h
section
variable {P:ah} {call:Callee} {ops:Array ao} {A:List Nat} {nt:Nat} {ng:List Nat} {σ0:cV} {W0:AW} {w0:aq} {ds:List dq}
def J.anc{pre:List BH}{listed:Array Bool}{bd:Nat->Option Nat}{σ:cV}{R:ak.Fr}{W:AW}{a:aV}{w:aq}
 (hJ:J P call ops A nt ng σ0 W0 w0 ds pre listed bd σ R W a w)(hA:∀(i:Nat) (o:ao),ops[i]? =some o->A.getD i 0=sa A o)
 {i:Nat}{o:ao}(ho:ops[i]? =some o)(hr:∀e∈o.after,Region.binds .any e=true->listed.getD e.on false=true){j:Nat}(hj:Nat.testBit (A.getD i 0) j=true):
 listed.getD j true=true:=by
 rw[hA i o ho]at hj;obtain⟨e,he,hb,h|h⟩:=RX hj
 ·rw[h];exact(Em (hr e he hb)).1
 ·have:=Em (hr e he hb);exact hJ.down e.on j (by rw[<-hJ.tO];exact this.2) this.1 h
def J.mark{pre:List BH}{listed:Array Bool}{bd:Nat->Option Nat}{σ σ':cV}{R:ak.Fr}{W:AW}{a:aV}{w w':aq}
 (hJ:J P call ops A nt ng σ0 W0 w0 ds pre listed bd σ R W a w){d:BH}(hd:d∈pre)(v':ae)(hs:Sub σ σ')(hw:bg σ' W w'.heap)(he:eB σ0 W0 w0 σ' W w')
 (hv:∀t,d.o.dst=some t->VR σ' (cR R t) v')(hx:∀d'∈pre,d'.i≠d.i->listed.getD d'.i true=false->∀x,bd d'.i=some x->σ x=none->(∃o,W.get x=some o)->σ' x=none)
 (EZ:∀j,Nat.testBit (A.getD d.i 0) j=true->listed.getD j true=true):
 J P call ops A nt ng σ0 W0 w0 ds pre (listed.setIfInBounds d.i true) bd σ' R W (a.put d.o.dst v') w':=by
 have hi:d.i<listed.size:=by rw[hJ.tO];exact(dB.1 (hJ.op d hd)).1
 have tD:∀k,listed.getD k true=true->(listed.setIfInBounds d.i true).getD k true=true:=λk hk=>by
  by_cases e:d.i=k
  ·subst e;exact dd hi _
  ·rw[aT e];exact hk
 have yK:∀k,(listed.setIfInBounds d.i true).getD k true=false->k≠d.i/\listed.getD k true=false:=λk hk=>by
  by_cases e:d.i=k
  ·subst e;rw[dd hi]at hk;cases hk
  ·rw[aT e]at hk;exact⟨bL e,hk⟩
 refine⟨hw,hJ.Jh.mono hs,he,by rw[Cm];exact hJ.Im,by rw[mU];exact hJ.S1,by simp[hJ.tO],?_,?_,hJ.op,?_,hJ.kind,?_,hJ.LM,?_,?_⟩
 ·intro t ht uK;by_cases TW:d.o.dst=some t
  ·rw[mR TW (by rw[hJ.Im];exact ht)];exact hv t TW
  ·rw[fW TW];refine(hJ.Om t ht λd' gq hl=>?_).mono hs;by_cases e:d'.i=d.i
   ·have h1:=hJ.op d' gq;have h2:=hJ.op d hd;rw[e,h2]at h1;injection h1 with h1;rw[<-h1];exact TW
   ·exact uK d' gq (by rw[aT (bL e)];exact hl)
 ·intro k hk hl;by_cases e:d.i=k
  ·exact⟨d,hd,e⟩
  ·rw[aT e]at hl;exact hJ.sub k hk hl
 ·intro d' gq h;exact tD _ (hJ.early d' gq h)
 ·intro k j hk hl hb;by_cases e:d.i=k
  ·subst e;exact tD _ (EZ j hb)
  ·rw[aT e]at hl;exact tD _ (hJ.down k j hk hl hb)
 ·intro d' gq hl;obtain⟨h1,h2⟩:=yK _ hl;rcases hJ.kV d' gq h2 with k|k|⟨k1,obj,mk,x,k2,k3,k4,k5,k6,k7⟩
  ·exact .inl k
  ·exact .inr (.inl k)
  ·exact .inr (.inr ⟨k1,obj,mk,x,k2,k3,k4,k5,hx d' gq h1 h2 x k7.1 k6 ⟨_,k4⟩,k7⟩)
 ·intro d1 h1 d2 h2 l1 l2;exact hJ.inj d1 h1 d2 h2 (yK _ l1).2 (yK _ l2).2
def J.looks{pre:List BH}{listed:Array Bool}{bd:Nat->Option Nat}{σ:cV}{R:ak.Fr}{W:AW}{a:aV}{w:aq}
 (hJ:J P call ops A nt ng σ0 W0 w0 ds pre listed bd σ R W a w)(iJ:∀(i:Nat) (o:ao),ops[i]? =some o->jt nt ng o=true){i:Nat}{o:ao}(ho:ops[i]? =some o)
 (hp:∀d∈pre,listed.getD d.i true=false->Hd d.o.dst (o.looksAt ops)=false):∀t∈o.looksAt ops,VR σ (cR R t) (a.tmps.getD t ag):=
 λt ht=>hJ.Om t (Hm iJ ho ht) λd hd hl e=>oS (hp d hd hl) e ht
def J.qi{pre:List BH}{listed:Array Bool}{bd:Nat->Option Nat}{σ:cV}{R:ak.Fr}{W:AW}{a:aV}{w:aq}
 (hJ:J P call ops A nt ng σ0 W0 w0 ds pre listed bd σ R W a w){d:BH}(hd:d∈pre)(hl:listed.getD d.i true=false):d.early=true:=by
 cases he:d.early with
 |true=>rfl
 |false=>rw[hJ.early d hd he]at hl;cases hl
def J.ack(hc:bV P ng call)(iJ:∀(i:Nat) (o:ao),ops[i]? =some o->jt nt ng o=true)(hA:∀(i:Nat) (o:ao),ops[i]? =some o->A.getD i 0=sa A o)
 {pre:List BH}{listed:Array Bool}{bd:Nat->Option Nat}{σ:cV}{R:ak.Fr}{W:AW}{a:aV}{w:aq}
 (hJ:J P call ops A nt ng σ0 W0 w0 ds pre listed bd σ R W a w){d:BH}(hd:d∈pre)(hl:listed.getD d.i true=false)
 (hr:∀e∈d.o.after,Region.binds .any e=true->listed.getD e.on false=true){ro:Option Nat}{K:aV->aq->Prop}{Q:cS->aV->aq->Prop}
 (hK:∀σ' a' w',J P call ops A nt ng σ0 W0 w0 ds pre (listed.setIfInBounds d.i true) bd σ' R W a' w'->K a' w'):wpOpIn (FE ro) 0 P ops Q d.i K a w:=by
 have ho:=hJ.op d hd;have EZ:∀j,Nat.testBit (A.getD d.i 0) j=true->listed.getD j true=true:=λj hj=>hJ.anc hA ho hr hj
 have yl:=hJ.looks iJ ho (λd' gq HK=>by
  cases hq:Hd d'.o.dst (d.o.looksAt ops)with
  |false=>rfl
  |true=>have:=EZ _ (hJ.LM d hd d' gq (hJ.qi gq HK) hq).1;rw[HK]at this;cases this);have hρ:=pJ hJ.Jh (iJ _ _ ho) yl;have zt:=xT yl;have hk3:=hJ.kind d hd (hJ.qi hd hl);have hnd:=Sb hk3;unfold wpOpIn;rw[ho];simp only[zt];rcases hJ.kV d hd hl with⟨h1,h2,h3⟩|⟨h1,h2,h3,v,h4,h5⟩|⟨h1,obj,mk,x,h2,h3,h4,h5,h6,h7⟩
 ·rw[h1,ay (by simp)];refine⟨λf _=>trivial,hK σ _ w (hJ.mark hd ag (.refl _) hJ.xj hJ.ext (λt ht=>by rw[h3 t ht];exact .undef) (λ_ _ _ _ _ _ h _=>h) EZ)⟩
 ·rw[h1,ax rfl];refine D8 hc hJ.xj hJ.Jh h4 hρ λσ' v' w' hv hw he=>?_
  exact hK σ' _ w' (hJ.mark hd v' he.sub hw (hJ.ext.trans he) (λt ht=>by rw[h5 t ht];exact hv) (λd' _ _ _ x _ h6 ⟨ob,hx⟩=>(he.ghost _ _ hx h6).2) EZ)
 ·rw[h1,ax rfl];obtain⟨v',xo,e,r1,r2,r3⟩:=h2 σ a.eval w x hρ h6;refine⟨λf _=>trivial,?_⟩;rw[Oper.semAt_eq _ _ _ hnd,r1];refine hK (bR σ x ⟨w.heap.size,0,e⟩) _ _ (hJ.mark hd v' (dh h6) (hJ.xj.bind h4 h6 r3) (hJ.ext.bind h6 h5 r3 h7.2) (λt ht=>by rw[h3 t ht];exact r2) ?_ EZ);intro d' gq fe HK y hy hσ _;have:y≠x:=λe=>by subst e;exact fe (hJ.inj d' gq d hd HK hl y hy h7.1)
  unfold bR;rw[ay this];exact hσ
def J.force(hc:bV P ng call)(iJ:∀(i:Nat) (o:ao),ops[i]? =some o->jt nt ng o=true)(hA:∀(i:Nat) (o:ao),ops[i]? =some o->A.getD i 0=sa A o)
 {pre:List BH}{listed:Array Bool}{bd:Nat->Option Nat}{σ:cV}{R R':ak.Fr}{W W':AW}{a:aV}{w:aq}{i:Nat}{re:List Nat}{ij:List (Nat×List Nat)}{o:ao}
 (hJ:J P call ops A nt ng σ0 W0 w0 ds pre listed bd σ R W a w)(hh:Xb ops A pre i re ij o false)(hs:jm P call ops o R W=some (R',W'))(Ga:re.all (nZ P call ops R' W')=true)
 (hr:∀e∈o.after,Region.binds .any e=true->listed.getD e.on false=true){ro:Option Nat}{K:aV->aq->Prop}{Q:cS->aV->aq->Prop}
 (hK:∀σ' a' w',J P call ops A nt ng σ0 W0 w0 ds (⟨i,o,false⟩::pre) (listed.setIfInBounds i true) bd σ' R' W' a' w'->K a' w'):wpOpIn (FE ro) 0 P ops Q i K a w:=by
 have ho:=hh.op;have hi:i<listed.size:=by rw[hJ.tO];exact(dB.1 ho).1
 have EZ:∀j,Nat.testBit (A.getD i 0) j=true->listed.getD j true=true:=λj hj=>hJ.anc hA ho hr hj
 have Lt:∀d∈pre,listed.getD d.i true=false->Hd d.o.dst (o.looksAt ops)=false/\Hd o.dst (iS ops d.o)=false/\(gu d.o=0\/gu d.o=2\/d.i∈re):=by
  intro d hd hl;rcases hh.held d hd (hJ.qi hd hl)with h1|⟨h1,h2⟩
  ·rw[EZ _ h1]at hl;cases hl
  ·rcases h2 with h2|⟨h2,h3⟩
   ·cases h2
   ·exact⟨h1,h2,h3⟩
 have yl:=hJ.looks iJ ho (λd hd hl=>(Lt d hd hl).1);have hρ:=pJ hJ.Jh (iJ _ _ ho) yl;have zt:=xT yl;have yK:∀k,(listed.setIfInBounds i true).getD k true=false->k≠i/\listed.getD k true=false:=λk hk=>by
  by_cases e:i=k
  ·subst e;rw[dd hi]at hk;cases hk
  ·rw[aT e]at hk;exact⟨bL e,hk⟩
 have tD:∀k,listed.getD k true=true->(listed.setIfInBounds i true).getD k true=true:=λk hk=>by
  by_cases e:i=k
  ·subst e;exact dd hi _
  ·rw[aT e];exact hk
 have build:∀(σ':cV) (u u':ae) (w':aq),R'=eH R o.dst u->VR σ' u u'->bg σ' W' w'.heap->eB σ W w σ' W' w'->
  J P call ops A nt ng σ0 W0 w0 ds (⟨i,o,false⟩::pre) (listed.setIfInBounds i true) bd σ' R' W' (a.put o.dst u') w':=by
  intro σ' u u' w' hR' hu hw he;refine⟨hw,hJ.Jh.mono he.sub,hJ.ext.trans he,by rw[Cm];exact hJ.Im,by rw[mU];exact hJ.S1,by simp[hJ.tO],?_,?_,?_,?_,?_,?_,?_,?_,?_⟩
  ·intro t ht uK;by_cases TW:o.dst=some t
   ·rw[mR TW (by rw[hJ.Im];exact ht),hR',s7 TW];exact hu
   ·rw[fW TW,hR',jH TW];refine(hJ.Om t ht λd' gq hl=>?_).mono he.sub;exact uK d' (by simp[gq]) (by rw[aT (bL (hh.new d' gq))];exact hl)
  ·intro k hk hl;by_cases e:i=k
   ·exact⟨⟨i,o,false⟩,by simp,e⟩
   ·rw[aT e]at hl;obtain⟨d,hd,e⟩:=hJ.sub k hk hl;exact⟨d,by simp[hd],e⟩
  ·intro d hd;rcases df.1 hd with rfl|hd
   ·exact ho
   ·exact hJ.op d hd
  ·intro d hd h;rcases df.1 hd with rfl|hd
   ·exact dd hi _
   ·exact tD _ (hJ.early d hd h)
  ·intro d hd h;rcases df.1 hd with rfl|hd
   ·cases h
   ·exact hJ.kind d hd h
  ·intro k j hk hl hb;by_cases e:i=k
   ·subst e;exact tD _ (EZ j hb)
   ·rw[aT e]at hl;exact tD _ (hJ.down k j hk hl hb)
  ·intro d hd d' gq hde nv;rcases df.1 gq with rfl|gq
   ·cases hde
   ·rcases df.1 hd with rfl|hd
    ·rcases hh.held d' gq hde with h1|⟨h1,_⟩
     ·exact⟨h1,λe=>hh.new d' gq e.symm⟩
     ·simp only at nv;rw[h1]at nv;cases nv
    ·exact hJ.LM d hd d' gq hde nv
  ·intro d hd hl;rcases df.1 hd with rfl|hd
   ·rw[dd hi]at hl;cases hl
   ·have HK:=(yK _ hl).2;obtain⟨g1,g2,g3⟩:=Lt d hd HK;have xm:∀t∈iS ops d.o,cR R' t=cR R t:=λt ht=>by rw[hR'];exact jH λe=>oS g2 e ht
    obtain⟨ha,hwd⟩:=uX (ops:=ops) (o:=d.o) λt ht=>xm t (rD ht)
    rcases hJ.kV d hd HK with⟨h1,h2,h3⟩|⟨h1,h2,h3,v,h4,h5⟩|⟨h1,obj,mk,x,h2,h3,h4,h5,h6,h7⟩
    ·exact .inl ⟨by rw[hwd];exact h1,h2,λt ht=>by rw[xm t (my ht)];exact h3 t ht⟩
    ·refine .inr (.inl ⟨by rw[hwd];exact h1,h2,h3,?_⟩);rcases g3 with g3|g3|g3
     ·exact⟨v,(sX h3 h4).2 R' W' ha (.inl g3),λt ht=>by rw[xm t (my ht)];exact h5 t ht⟩
     ·omega
     ·have O7:=cr.1 Ga d.i g3;unfold nZ at O7;rw[hJ.op d hd]at O7;simp only[hwd,h1,bk]at O7;split at O7
      ·rename_i u W2 qz;have:=(sX h3 qz).1;subst this;refine⟨u,qz,λt ht=>?_⟩;rw[ht]at O7;exact(RE O7).symm
      ·cases O7
    ·obtain⟨k1,k2⟩:=he.ghost _ _ h4 h6;exact .inr (.inr ⟨by rw[hwd];exact h1,obj,mk,x,h2.agree ha,λt ht=>by rw[xm t (my ht)];exact h3 t ht,k1,h5,k2,h7⟩)
  ·intro d1 h1 d2 h2 l1 l2 x WD hx2;rcases df.1 h1 with rfl|h1
   ·rw[dd hi]at l1;cases l1
   ·rcases df.1 h2 with rfl|h2
    ·rw[dd hi]at l2;cases l2
    ·exact hJ.inj d1 h1 d2 h2 (yK _ l1).2 (yK _ l2).2 x WD hx2
 unfold wpOpIn;rw[ho];simp only[zt];unfold jm at hs;split at hs
 ·rename_i hw;rw[ax hw];split at hs
  ·rename_i v W1 qz;injection hs with hs;injection hs with ze lX;subst ze;subst lX;exact D8 hc hJ.xj hJ.Jh qz hρ λσ' v' w' hv hw' he=>hK σ' _ w' (build σ' v v' w' rfl hv hw' he)
  ·cases hs
 ·rename_i hw;rw[ay hw];injection hs with hs;injection hs with ze lX;subst ze;subst lX;exact⟨λf _=>trivial,hK σ _ w (build σ ag ag w rfl .undef hJ.xj (.refl _ _ _))⟩
end
end
section
variable [ak]
def We(n:Nat)(l:Array Bool):Nat:=(List.range n).countP λi=> !l.getD i true
def DI{α:Type}{p q:α->Bool}{x:α}:∀{l:List α},x∈l->p x=true->q x=false->(∀y,q y=true->p y=true)->l.countP q<l.countP p:=by
 intro l;induction l with
 |nil=>intro h;cases h
 |cons y l ih=>
  intro h hp hq hi;have bi:l.countP q<=l.countP p:=List.countP_mono_left λz _ hz=>hi z hz
  rcases df.1 h with rfl|h
  ·rw[List.countP_cons,List.countP_cons,hp,hq];simp;omega
  ·have:=ih h hp hq hi;rw[List.countP_cons,List.countP_cons];cases hqy:q y with
   |true=>rw[hi y hqy];simp;omega
   |false=>cases p y<;>simp<;>omega
def zE{n i:Nat}{l:Array Bool}(hi:i<n)(hs:i<l.size)(h:l.getD i true=false):We n (l.setIfInBounds i true)<We n l:=by
 refine DI (x:=i) (by simpa using hi) (by rw[h];rfl) (by rw[dd hs];rfl) λy hy=>?_
 by_cases e:i=y
 ·subst e;rw[dd hs]at hy;cases hy
 ·rw[aT e]at hy;exact hy
def Hz{n:Nat}{l:Array Bool}(h:We n l=0){i:Nat}(hi:i<n):l.getD i true=true:=by unfold We at h;rw[List.countP_eq_zero]at h;have:=h i (by simpa using hi);simpa using this
section
variable {P:ah} {call:Callee} {ops:Array ao} {A:List Nat} {nt:Nat} {ng:List Nat} {σ0:cV} {W0:AW} {w0:aq} {ds:List dq}
inductive yg (ops:Array ao):List BH->Prop where
 |nil:yg ops []
 |cons (d:BH) (pre:List BH) (h:yg ops pre) (ht:∀e∈d.o.after,Region.binds .any e=true->∃d'∈pre,d'.i=e.on) (ho:ops[d.i]? =some d.o):yg ops (d::pre)
def yg.ready{listed:Array Bool}(oJ:listed.size=ops.size):∀{pre:List BH},yg ops pre->(∃d∈pre,listed.getD d.i true=false)->Region.ready .any ops listed≠[]:=by
 intro pre h;induction h with
 |nil=>rintro⟨d,hd,_⟩;cases hd
 |cons d pre h ht ho ih=>
  rintro⟨d',gq,hl⟩ hr;by_cases Cw:∃d∈pre,listed.getD d.i true=false
  ·exact ih Cw hr
  ·rcases df.1 gq with rfl|gq
   ·have:d'.i∈Region.ready .any ops listed:=mc.2 ⟨hl,d'.o,ho,λe he hb=>by
     obtain⟨d2,h2,e2⟩:=ht e he hb;have qN:listed.getD d2.i true=true:=by
      cases hq:listed.getD d2.i true with
      |true=>rfl
      |false=>exact absurd ⟨d2,h2,hq⟩ Cw
     have hir:d2.i<ops.size:=by
      have:∀{pre},yg ops pre->∀d∈pre,d.i<ops.size:=by
       intro pre h;induction h with
       |nil=>intro d hd;cases hd
       |cons d pre h ht ho ih=>
        intro d' gq;rcases df.1 gq with rfl|gq
        ·exact(dB.1 ho).1
        ·exact ih d' gq
      exact this h d2 h2
     rw[<-e2];simp only[rI]at qN|-;rw[gp (by omega)]at qN|-;exact qN⟩;rw[hr]at this;cases this
   ·exact Cw ⟨d',gq,hl⟩
def Qe(hc:bV P ng call)(iJ:∀(i:Nat) (o:ao),ops[i]? =some o->jt nt ng o=true)(hA:∀(i:Nat) (o:ao),ops[i]? =some o->A.getD i 0=sa A o)
 {ro:Option Nat}{Q:cS->aV->aq->Prop}{Rf:ak.Fr}{Wf:AW}
 (hQ:∀σ' a' w',dS nt σ' Rf a'.tmps->a'.defers=ds->bg σ' Wf w'.heap->eB σ0 W0 w0 σ' Wf w'->Q .normal a' w'):
 ∀(uH:Nat) (XA:List (Nat×List Nat)) (pre:List BH) (listed:Array Bool) (bd:Nat->Option Nat) (σ:cV) (R:ak.Fr) (W:AW) (a:aV) (w:aq),
  J P call ops A nt ng σ0 W0 w0 ds pre listed bd σ R W a w->yg ops pre->x8 ops A pre XA=true->iI P call ops XA R W=some (Rf,Wf)->
  (∀i,i<ops.size->(∃d∈pre,d.i=i)\/∃k∈XA,k.1=i)->We ops.size listed<=uH->wpAnyIn (FE ro) 0 P .any ops Q uH listed a w:=by
 intro uH;induction uH with
 |zero=>
  intro XA pre listed bd σ R W a w hJ tT IM mq Fj hun;have qH:∀i,i<ops.size->listed.getD i true=true:=λi hi=>Hz (by omega) hi
  have Zv:Region.ready .any ops listed=[]:=by rw[List.eq_nil_iff_forall_not_mem];intro i hi;obtain⟨h1,o,ho,_⟩:=mc.1 hi;rw[qH i (dB.1 ho).1]at h1;cases h1
  refine⟨Zv,?_⟩;cases XA with
  |nil=>injection mq with mq;injection mq with h1 h2;subst h1;subst h2;refine hQ σ a w ⟨hJ.Im,λt ht=>hJ.Om t ht λd hd hl=>?_⟩ hJ.S1 hJ.xj hJ.ext;rw[qH d.i (dB.1 (hJ.op d hd)).1]at hl;cases hl
  |cons k ij=>obtain⟨i,re⟩:=k;obtain⟨o,e,hh⟩:=yP IM;have hi:=(dB.1 hh.op).1;obtain⟨d,hd,e⟩:=hJ.sub i hi (qH i hi);exact absurd e (hh.new d hd)
 |succ uH ih=>
  intro XA;induction XA with
  |nil=>
   intro pre listed bd σ R W a w hJ tT IM mq Fj hun;refine⟨λhr=>?_,λi hi=>?_⟩
   ·have uK:∀d∈pre,listed.getD d.i true=true:=λd hd=>by
     cases hq:listed.getD d.i true with
     |true=>rfl
     |false=>exact absurd hr (tT.ready hJ.tO ⟨d,hd,hq⟩)
    injection mq with mq;injection mq with h1 h2;subst h1;subst h2;exact hQ σ a w ⟨hJ.Im,λt ht=>hJ.Om t ht λd hd hl=>by rw[uK d hd]at hl;cases hl⟩ hJ.S1 hJ.xj hJ.ext
   ·obtain⟨h1,o,ho,h2⟩:=mc.1 hi;have gY:=(dB.1 ho).1;rcases Fj i gY with⟨d,hd,e⟩|⟨k,hk,_⟩
    ·subst e;have LU:=hJ.op d hd;rw[ho]at LU;injection LU with LU;subst LU;refine hJ.ack hc iJ hA hd h1 h2 λσ' a' w' Zo=>?_
     exact ih [] pre _ bd σ' R W a' w' Zo tT IM mq Fj (by have:=zE gY (by rw[hJ.tO];exact gY) h1;omega)
    ·cases hk
  |cons k ij ihs=>
   intro pre listed bd σ R W a w hJ tT IM mq Fj hun;obtain⟨i,re⟩:=k;obtain⟨o,e,hh⟩:=yP IM;have hi:=(dB.1 hh.op).1;simp only[iI,hh.op]at mq;split at mq;case h_2=>cases mq
   rename_i R' W' hs;split at mq;case isFalse=>cases mq
   rename_i Ga;have Ws:∀j,j<ops.size->(∃d∈(⟨i,o,e⟩::pre:List BH),d.i=j)\/∃k∈ij,k.1=j:=by
    intro j hj;rcases Fj j hj with⟨d,hd,h1⟩|⟨k,hk,h1⟩
    ·exact .inl ⟨d,by simp[hd],h1⟩
    ·rcases df.1 hk with rfl|hk
     ·exact .inl ⟨⟨i,o,e⟩,by simp,h1⟩
     ·exact .inr ⟨k,hk,h1⟩
   have Vw:yg ops (⟨i,o,e⟩::pre):=.cons _ _ tT hh.top hh.op;cases e with
   |true=>obtain⟨EO,Zo⟩:=hJ.advance hh hs;exact ihs _ listed EO σ R' W' a w Zo Vw hh.go mq Ws hun
   |false=>
    refine⟨λhr=>?_,λj hj=>?_⟩
    ·exfalso;by_cases Cw:∃d∈pre,listed.getD d.i true=false
     ·exact tT.ready hJ.tO Cw hr
     ·have hl:listed.getD i true=false:=by
       cases hq:listed.getD i true with
       |false=>rfl
       |true=>obtain⟨d,hd,e⟩:=hJ.sub i hi hq;exact absurd e (hh.new d hd)
      have:i∈Region.ready .any ops listed:=mc.2 ⟨hl,o,hh.op,λed he hb=>by
       obtain⟨d2,h2,e2⟩:=hh.top ed he hb;have qN:listed.getD d2.i true=true:=by
        cases hq:listed.getD d2.i true with
        |true=>rfl
        |false=>exact absurd ⟨d2,h2,hq⟩ Cw
       have hir:d2.i<listed.size:=by rw[hJ.tO];exact(dB.1 (hJ.op d2 h2)).1
       rw[<-e2];simp only[rI]at qN|-;rw[gp hir]at qN|-;exact qN⟩;rw[hr]at this;cases this
    ·obtain⟨h1,oj,ho,h2⟩:=mc.1 hj;have gY:=(dB.1 ho).1;rcases Fj j gY with⟨d,hd,e⟩|⟨k,hk,e⟩
     ·subst e;have LU:=hJ.op d hd;rw[ho]at LU;injection LU with LU;subst LU;refine hJ.ack hc iJ hA hd h1 h2 λσ' a' w' Zo=>?_
      refine ih ((i,re)::ij) pre _ bd σ' R W a' w' Zo tT IM ?_ Fj (by have:=zE gY (by rw[hJ.tO];exact gY) h1;omega);simp only[iI,hh.op,hs,Ga,bk];exact mq
     ·rcases df.1 hk with rfl|hk
      ·simp only at e;subst e;have LU:=hh.op;rw[ho]at LU;injection LU with LU;subst LU;refine hJ.force hc iJ hA hh hs Ga h2 λσ' a' w' Zo=>?_
       exact ih ij _ _ bd σ' R' W' a' w' Zo Vw hh.go mq Ws (by have:=zE gY (by rw[hJ.tO];exact gY) h1;omega)
      ·exfalso;rcases hh.last with h|h
       ·cases h
       ·obtain⟨ok,HI,ed,UR,hb,uK⟩:=h k hk;rw[e,ho]at HI;injection HI with HI;subst HI;have h3:=Em (h2 ed UR hb);obtain⟨d,hd,e⟩:=hJ.sub ed.on (by rw[<-hJ.tO];exact h3.2) h3.1;exact uK d hd e
def Hi{P:ah}(hm:P.follows .mixedOrders=true){ng:List Nat}{nt:Nat}{call:Callee}(hc:bV P ng call){id:Nat}{ops:Array ao}{pl:List (Nat×List Nat)}
 (iJ:ops.toList.all (jt nt ng)=true)(hp:Ep ops pl=true){σ:cV}{R Rf:ak.Fr}{W Wf:AW}{a:aV}{w:aq}(hW:bg σ W w.heap)(hG:tx σ ng)(hR:dS nt σ R a.tmps)
 (h:iI P call ops pl R W=some (Rf,Wf)){ro:Option Nat}{Q:cS->aV->aq->Prop}
 (hQ:∀σ' a' w',dS nt σ' Rf a'.tmps->a'.defers=a.defers->bg σ' Wf w'.heap->eB σ W w σ' Wf w'->Q .normal a' w'):
 (Code.region id ops true).wpIn (FE ro) 0 P Q a w:=by
 refine wpIn_region_any hm ?_;unfold Ep at hp;simp only[bB,cr,nM]at hp;obtain⟨h1,h2⟩:=hp;have oC:∀i o,ops[i]? =some o->(PS ops.toList []).getD i 0=sa (PS ops.toList []) o/\∃k∈pl,k.1=i:=by intro i o ho;have:=h1 i (dB.1 ho).1;rw[ho]at this;simp only[bB,dW,sL]at this;exact this.1
 have HI:∀(i:Nat) (o:ao),ops[i]? =some o->jt nt ng o=true:=λi o ho=>cr.1 iJ o (by have:=Array.mem_of_getElem? ho;simpa using this)
 have oJ:∀i,i<ops.size->(Array.replicate ops.size false).getD i true=false:=λi hi=>by simp[hi]
 have Fj:∀i,i<ops.size->(∃d∈([]:List BH),d.i=i)\/∃k∈pl,k.1=i:=λi hi=> .inr (oC i ops[i] (gp hi)).2
 refine Qe (A:=PS ops.toList []) (W0:=W) (σ0:=σ) (w0:=w) (ds:=a.defers) hc HI (λi o ho=>(oC i o ho).1) hQ ops.size pl [] _ (λ_=>none) σ R W a _ ?_ .nil h2 h Fj ?_
 ·refine⟨hW,hG,.drawn _ _ _ _,hR.1,rfl,by simp,λt ht _=>hR.2 t ht,?_,?_,?_,?_,?_,?_,?_,?_⟩
  ·intro i hi hl;rw[oJ i hi]at hl;cases hl
  ·intro d hd;cases hd
  ·intro d hd;cases hd
  ·intro d hd;cases hd
  ·intro i j hi hl;rw[oJ i hi]at hl;cases hl
  ·intro d hd;cases hd
  ·intro d hd;cases hd
  ·intro d hd;cases hd
 ·unfold We;have:=List.countP_le_length (p:=λi=> !(Array.replicate ops.size false).getD i true) (l:=List.range ops.size);simpa using this
end
end
end Go.Eng
