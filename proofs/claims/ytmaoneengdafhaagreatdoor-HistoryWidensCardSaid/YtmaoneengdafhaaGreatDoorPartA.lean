/- A part: the engine and its laws. -/
import Derived.RangeFuncLeaves
import Derived.OrdersIn
import Derived.KernelRfl
import Derived.Laws.Cells
import Derived.Laws.CopyRow
import Derived.ChangeKeysEq
import Derived.ArgAppend
import Derived.Laws.Append
import Derived.Lib.AppendStr
import Derived.Lib.UnsafeStr
import Derived.Laws.BytesArg
import Derived.LaidEqlPtr
import Derived.Laws.StructEq
set_option linter.unusedVariables false
set_option linter.unusedSimpArgs false
set_option linter.unusedSectionVars false
set_option linter.defProp false
noncomputable section
open Go renaming Act->aU,Addr->aP,Code->bA,Deferred->dv,Exit->cJ,FuncId->gE,IntKind->aO,MapEntry->bc,Obj->oz,Oper->aj,Operand->an,Program->ag,TypeId->ae,Value->ad,World->am,undef->ak
namespace Go
def dj{p:Prop}[Decidable p](h:p:=by omega):decide p=true:=decide_eq_true h
def cN{p:Prop}[Decidable p](h:¬p:=by omega):decide p=false:=decide_eq_false h
def kE.{u}{c:Prop}{h:Decidable c}(q:c:=by omega){α:Sort u}{t e:α}:(ite c t e)=t:=if_pos q
def bK.{u}{c:Prop}{h:Decidable c}(q:¬c:=by omega){α:Sort u}{t e:α}:(ite c t e)=e:=if_neg q
abbrev Value.af(n:Int):ad:=.int .i64 n
abbrev Lit.af(n:Int):Lit:=.int .i64 n
def bm:=@decide_eq_false
def au:=@And.intro
def be:=@decide_eq_true
def ao:=@trivial
def aN:=@Nat.zero_add
def ap.{u}:=@if_neg.{u}
def bS.{u}:=@List.getElem?_eq_getElem.{u}
def aq.{u}:=@if_pos.{u}
def aM:=@Nat.le_refl
def bL.{u,v}:=@Option.bind_some.{u,v}
def a8:=@Bool.and_eq_true
def cn.{u}:=@List.getElem?_eq_some_iff.{u}
def cT.{u}:=@List.length_append.{u}
def aL.{u}:=@Eq.trans.{u}
def dC.{u}:=@Array.getElem?_eq_some_iff.{u}
def bX:=@Go.Result.andThen_ok
def bH:=@Go.run_underlying
def ez.{u}:=@List.getElem_mem.{u}
def cG.{u}:=@List.length_cons.{u}
def cY.{u}:=@List.take_length.{u}
def fu.{u}:=@List.length_take.{u}
def lW.{u}:=@List.take_succ_eq_append_getElem.{u}
def cw.{u}:=@List.all_eq_true.{u}
def aV.{u}:=@Ne.symm.{u}
def ba.{u}:=@if_true.{u}
def cF.{u,v}:=@Option.map_some.{u,v}
def eE:=@Nat.lt_of_lt_of_le
def b9:=@Go.Sem.run_bind
def hZ.{u}:=@Array.getElem?_eq_getElem.{u}
def eK.{u}:=@List.all_cons.{u}
def gU.{u,v}:=@List.flatMap_cons.{u,v}
def gV.{u,v}:=@List.length_map.{u,v}
def iD.{u}:=@List.append_nil.{u}
def nH:=@Bool.false_eq_true
def iE.{u}:=@List.getElem?_eq_none.{u}
def ie.{u}:=@Array.toArray_toList.{u}
def cV.{u}:=@if_false.{u}
def jg.{u,v}:=@List.flatMap_append.{u,v}
def mz.{u}:=@List.length_eq_zero_iff.{u}
def lh.{u}:=@List.getD_eq_getElem?_getD.{u}
def dD.{u}:=@List.mem_cons.{u}
def eW:=@Nat.le_trans
def mA.{u}:=@List.append_assoc.{u}
def gG:=@decide_eq_true_eq
def xT.{u}:=@List.length_replicate.{u}
def gK.{u}:=@Option.some.injEq.{u}
def fY:=@Nat.add_zero
def ki:=@Bool.and_self
def lU:=@Nat.mul_le_mul_right
def nL.{u}:=@List.mem_singleton.{u}
def ve.{u}:=@List.take_of_length_le.{u}
def ss.{u}:=@List.drop_eq_getElem_cons.{u}
def np:=@Bool.true_and
def qG.{u}:=@List.getElem?_append_right.{u}
def lM.{u}:=@List.nil_append.{u}
def lD.{u}:=@List.getElem?_take.{u}
def jH.{u,v}:=@List.getElem?_map.{u,v}
def i9:=@Nat.add_assoc
def jF.{u}:=@List.drop_zero.{u}
def lS:=@Go.Lib.strCells_length
def dM:=@Nat.beq_eq
def qA.{u}:=@List.length_drop.{u}
def fq:=@Go.Sem.run_pure
def uy.{u}:=@List.eq_nil_of_length_eq_zero.{u}
def vw.{u}:=@List.ext_getElem?.{u}
def vR.{u}:=@List.cons_append.{u}
def qz.{u}:=@Array.toList_eq_nil_iff.{u}
def je.{u}:=@cond_true.{u}
def py.{u}:=@List.mem_append.{u}
def vt.{u}:=@Array.getD_eq_getD_getElem?.{u}
def nA.{u}:=@Option.getD_some.{u}
def qn.{u}:=@List.getElem?_drop.{u}
def uC:=@Bool.false_and
def pA.{u}:=@cond_false.{u}
def jE:=@Nat.mul_one
def mJ:=@Bool.or_eq_true
def iH.{u,v}:=@congrArg.{u,v}
def kg.{u,v}:=@List.map_cons.{u,v}
def A8.{u}:=@Array.getElem?_setIfInBounds_ne.{u}
def gZ:=@Nat.add_mul
def Fv.{u}:=@List.take_append_drop.{u}
def lX:=@Bool.and_true
def iI:=@Nat.one_mul
def vH.{u}:=@Array.getElem?_eq_none.{u}
def ql.{u}:=@Option.isSome_none.{u}
def mE.{u,v}:=@List.mem_map.{u,v}
def As:=@Bool.true_eq_false
def Av.{u}:=@List.filter_append.{u}
def vd.{u}:=@List.getElem?_set_self.{u}
def nF:=@List.mem_range
def qI.{u,v}:=@List.map_append.{u,v}
def ux:=@List.range_succ
def sN.{u}:=@Array.getElem?_push.{u}
def uZ.{u}:=@Array.getElem?_modify.{u}
def sL:=@Int.toNat_natCast
def Bx.{u}:=@List.getElem?_cons_zero.{u}
def qt.{u}:=@List.mem_of_getElem?.{u}
def qJ.{u}:=@List.take_zero.{u}
def xP.{u}:=@List.getElem?_set_ne.{u}
def Fk.{u}:=@List.mem_filter.{u}
def wC.{u}:=@List.length_nil.{u}
def nZ:=@Nat.min_eq_left
def mN.{u}:=@Array.toList_inj.{u}
def Ih.{u}:=@List.drop_of_length_le.{u}
def CK.{u}:=@List.replicate_succ.{u}
def rY.{u}:=@Array.getElem?_toList.{u}
def sQ.{u}:=@Classical.choose_spec.{u}
def Iu.{u}:=@List.length_filter_le.{u}
def ze.{u}:=@List.take_append_getElem.{u}
def rX.{u}:=@List.getElem?_append.{u}
def zm.{u}:=@List.getElem?_cons_succ.{u}
def n8.{u}:=@List.getElem?_set.{u}
def sz.{u}:=@List.size_toArray.{u}
def ic:=@Nat.blt_eq
def sG:=@Bool.not_eq_true'
def li.{u,v}:=@List.map_nil.{u,v}
def zn:=@Bool.eq_false_iff
def zP.{u}:=@Option.isNone_iff_eq_none.{u}
def wh:=@Nat.eq_of_beq_eq_true
def CP.{u}:=@List.getElem_set_self.{u}
def lL:=@Go.CallsIn.mono
def za.{u}:=@List.eraseIdx_cons_succ.{u}
def CX.{u}:=@Array.getElem?_setIfInBounds.{u}
def wF.{u,v}:=@List.foldl_cons.{u,v}
def wO:=@Bool.eq_iff_iff
def ww.{u}:=@List.length_pos_iff.{u}
def zb.{u}:=@List.getElem_of_mem.{u}
def zE:=@Nat.lt_or_ge
def vW.{u}:=@List.any_eq_true.{u}
def wL.{u}:=@Option.isSome_some.{u}
def zJ.{u}:=@Array.getElem?_append.{u}
def CZ.{u}:=@List.set_eq_take_append_cons_drop.{u}
def C1.{u}:=@List.getElem?_append_left.{u}
def Jg.{u}:=@List.mem_drop_iff_getElem.{u}
def sI.{u}:=@List.length_set.{u}
def sd:=@Nat.le_max_left
def mO:=@Nat.mul_pos
def wE.{u}:=@Array.isEmpty_iff.{u}
def mP:=@Nat.zero_le
def lF:=@and_self
def C9.{u}:=@List.nodup_append.{u}
def Ij.{u,v}:=@List.foldl_append.{u,v}
def Al:=@Go.World.grownBy_alloc
def Ib.{u}:=@List.getElem_set_ne.{u}
def wQ:=@Nat.le_max_right
def sV.{u}:=@List.take_left.{u}
def sS.{u}:=@List.drop_left.{u}
def pM.{u}:=@List.drop_drop.{u}
def C0:=@Nat.add_sub_cancel_left
def yD.{u,v}:=@List.flatMap_nil.{u,v}
def oe:=@Int.le_refl
def sW:=@Nat.zero_mul
def wB.{u}:=@List.all_nil.{u}
def qi:=@Nat.beq_refl
def qj:=@Go.callsIn_wide
def sm:=@Int.add_zero
def y8.{u}:=@Option.some.inj.{u}
def yH.{u,v}:=@List.map_take.{u,v}
def C8:=@of_decide_eq_true
def CW:=@List.length_range
def I8.{u}:=@Array.toList_setIfInBounds.{u}
def Hs:=@Int.fdiv_eq_ediv_of_nonneg
def zK:=@Nat.sub_zero
def zH.{u}:=@List.drop_length.{u}
def H2.{u}:=@List.extract_eq_take_drop.{u}
def Ir.{u}:=@List.mem_of_find?_eq_some.{u}
def Iz.{u}:=@List.take_succ_cons.{u}
def C3.{u}:=@List.toList_toArray.{u}
def CL.{u}:=@List.dropWhile_cons.{u}
def Dm.{u}:=@List.mergeSort_perm.{u}
def C6:=@Go.run_loadCells_list
def Db:=@Go.grownCap_le_maxLen
def wq.{u}:=@beq_iff_eq.{u}
def Io.{u}:=@List.set_cons_zero.{u}
def IE.{u}:=@List.set_cons_succ.{u}
def C2.{u}:=@List.prefix_append.{u}
def rP:=@Go.setRow_heap
def ox:=@Go.mem_ready
def De:=@Go.run_storeCells_at
def yl:=@Nat.sub_self
def CR:=@Bool.true_or
def ID:=@Bool.and_false
def CO.{u}:=@List.any_eq_false.{u}
def HK:=@Decidable.not_not
def Dd.{u,v}:=@Prod.mk.injEq.{u,v}
def yo:=@true_and
end Go
namespace Go.Eng
open Go
inductive T (α:Type) where
 |lf:T α
 |nd (l:T α) (v:Option α) (r:T α):T α
def BU(y6:Nat):Nat->List Bool:=
 Nat.rec (motive:=λ_=>Nat->List Bool) (λ_=>[])
  (λ_ ih n=>Nat.rec (motive:=λ_=>List Bool) [] (λm _=>(Nat.beq (Nat.mod m 2) 0)::ih (Nat.div m 2)) n) y6
def path(n:Nat):List Bool:=BU n n
def T.get{α:Type}(p:List Bool):T α->Option α:=
 List.rec (motive:=λ_=>T α->Option α) (λt=>T.rec (motive:=λ_=>Option α) none (λ_ v _ _ _=>v) t)
  (λb _ ih t=>T.rec (motive:=λ_=>Option α) none (λl _ r _ _=>Bool.rec (motive:=λ_=>Option α) (ih r) (ih l) b) t) p
def T.set{α:Type}(x:Option α)(p:List Bool):T α->T α:=
 List.rec (motive:=λ_=>T α->T α) (λt=>T.rec (motive:=λ_=>T α) (.nd .lf x .lf) (λl _ r _ _=>.nd l x r) t)
  (λb _ ih t=>T.rec (motive:=λ_=>T α) (Bool.rec (motive:=λ_=>T α) (.nd .lf none (ih .lf)) (.nd (ih .lf) none .lf) b)
    (λl v r _ _=>Bool.rec (motive:=λ_=>T α) (.nd l v (ih r)) (.nd (ih l) v r) b) t) p
def QH:∀(f g n m:Nat),n<=f->m<=g->BU f n=BU g m->n=m:=by
 intro f;induction f with
 |zero=>
  intro g n m hn hm h;have Pd:n=0:=by omega
  subst Pd;cases m with
  |zero=>rfl
  |succ m=>
   cases g with
   |zero=>omega
   |succ g=>exact absurd h (by simp[BU])
 |succ f ih=>
  intro g n m hn hm h;cases n with
  |zero=>
   cases m with
   |zero=>rfl
   |succ m=>
    cases g with
    |zero=>omega
    |succ g=>exact absurd h (by simp[BU])
  |succ n=>
   cases m with
   |zero=>cases g<;>exact absurd h (by simp[BU])
   |succ m=>
    cases g with
    |zero=>omega
    |succ g=>
     have h':(Nat.beq (Nat.mod n 2) 0)::BU f (Nat.div n 2)=(Nat.beq (Nat.mod m 2) 0)::BU g (Nat.div m 2):=h;injection h' with h1 h2;have e1:Nat.div n 2=n/2:=rfl;have e2:Nat.div m 2=m/2:=rfl;have e3:Nat.mod n 2=n % 2:=rfl;have e4:Nat.mod m 2=m % 2:=rfl;have h3:=ih g (n/2) (m/2) (by omega) (by omega) (by rw[<-e1,<-e2];exact h2);rw[e3,e4]at h1;have h4:(n % 2=0)<->(m % 2=0):=by rw[<-dM,<-dM,h1]
     omega
def WA{n m:Nat}(h:path n=path m):n=m:=QH _ _ _ _ (aM _) (aM _) h
def wg{n m:Nat}(h:n≠m):path n≠path m:=λe=>h (WA e)
def T.lz{α:Type}(x:Option α):∀(p:List Bool) (t:T α),T.get p (T.set x p t)=x:=by
 intro p;induction p with
 |nil=>intro t;cases t<;>rfl
 |cons b p ih=>intro t;cases t<;>cases b<;>exact ih _
def T.Au{α:Type}(p:List Bool):T.get p (.lf:T α)=none:=by cases p<;>rfl
def T.fJ{α:Type}(x:Option α):∀(p q:List Bool) (t:T α),p≠q->T.get q (T.set x p t)=T.get q t:=by
 intro p;induction p with
 |nil=>
  intro q t h;cases q with
  |nil=>exact absurd rfl h
  |cons b q=>cases t<;>cases b<;>first|rfl|exact(T.Au q)
 |cons b p ih=>
  intro q t h;cases q with
  |nil=>cases t<;>cases b<;>rfl
  |cons c q=>
   have ht:b=c->p≠q:=λe1 e2=>h (by rw[e1,e2])
   cases t<;>cases b<;>cases c<;>
    first
     |rfl
     |exact T.Au q
     |exact(ih q .lf (ht rfl)).trans (T.Au q)
     |exact ih q _ (ht rfl)
def T.set_set{α:Type}(x y:Option α):∀(p:List Bool) (t:T α),T.set y p (T.set x p t)=T.set y p t:=by
 intro p;induction p with
 |nil=>intro t;cases t<;>rfl
 |cons b p ih=>
  intro t;cases t with
  |lf=>
   cases b
   ·exact iH (T.nd .lf none) (ih .lf)
   ·exact iH (λl=>T.nd l none .lf) (ih .lf)
  |nd l v r=>
   cases b
   ·exact iH (T.nd l v) (ih r)
   ·exact iH (λl=>T.nd l v r) (ih l)
class ah where
 D:Nat->Array aj->Option (List (Nat×List Nat))
 ng:List Nat
 ex:ae->Bool
 Fr:Type
 En:Fr->Nat->ad
 VM:Fr->Nat->ad->Fr
 blank:Fr
 lz:∀R t v,En (VM R t v) t=v
 fJ:∀R t u v,t≠u->En (VM R t v) u=En R u
 Aw:∀t,En blank t=ak
def YZ{α:Type}(l:List α):Nat->Option α:=
 List.rec (motive:=λ_=>Nat->Option α) (λ_=>none) (λv _ ih n=>Nat.rec (motive:=λ_=>Option α) (some v) (λm _=>ih m) n) l
def Ie{α:Type}(l:List α):∀n,YZ l n=l[n]? :=by
 induction l with
 |nil=>intro n;rfl
 |cons v l ih=>intro n;cases n with|zero=>rfl|succ n=>exact(ih n).trans (by simp)
section
variable [ah]
inductive db where
 |cells (cs:List ad)
 |ro (cs:List ad)
 |map (es:List bc) (kH:Nat)
 |loop (state:LoopState) (pending:Option bA) (tmps:ah.Fr) (ntmps:Nat) (params:Array Tmp) (assign body:bA)
 |mW (s:ByteArray) (pos:Nat)
 |tc (t:ae) (cs:List ad)
structure AW where
 heap:T db
 next:Nat
def AW.get(W:AW)(b:Nat):Option db:=T.get (path b) W.heap
def AW.put(W:AW)(b:Nat)(o:db):AW:=⟨T.set (some o) (path b) W.heap,W.next⟩
def AW.kill(W:AW)(b:Nat):AW:=⟨T.set none (path b) W.heap,W.next⟩
def AW.new{X:Type}(W:AW)(o:db)(k:Nat->AW->X):X:=
 AW.rec (motive:=λ_=>X) (λh n=>Nat.rec (motive:=λ_=>X) (k 0 ⟨T.set (some o) (path 0) h,1⟩)
  (λm _=>k (Nat.succ m) ⟨T.set (some o) (path (Nat.succ m)) h,Nat.succ (Nat.succ m)⟩) n) W
def AW.add(W:AW)(o:db):AW:=⟨T.set (some o) (path W.next) W.heap,W.next+1⟩
def AW.dm{X:Type}(W:AW)(o:db)(k:Nat->AW->X):W.new o k=k W.next (W.add o):=by obtain⟨h,n⟩:=W;cases n<;>rfl
def AW.aW(W:AW)(b:Nat)(o:db):(W.put b o).get b=some o:=T.lz _ _ _
def AW.ay(W:AW){b c:Nat}(o:db)(h:b≠c):(W.put b o).get c=W.get c:=T.fJ _ _ _ _ (wg h)
def AW.Ad(W:AW)(b:Nat):(W.kill b).get b=none:=T.lz _ _ _
def AW.cE(W:AW){b c:Nat}(h:b≠c):(W.kill b).get c=W.get c:=T.fJ _ _ _ _ (wg h)
def AW.aH(W:AW)(o:db):(W.add o).get W.next=some o:=T.lz _ _ _
def AW.aD(W:AW){c:Nat}(o:db)(h:W.next≠c):(W.add o).get c=W.get c:=T.fJ _ _ _ _ (wg h)
def AW.bh(W:AW)(b:Nat)(o:db):(W.put b o).next=W.next:=rfl
def AW.dz(W:AW)(b:Nat):(W.kill b).next=W.next:=rfl
def AW.ar(W:AW)(o:db):(W.add o).next=W.next+1:=rfl
end
structure vC where
 B:Nat
 s:Nat
 e:Nat
abbrev cI:=Nat->Option vC
def dY:Nat:=18446744073709551616
inductive Gd (g:vC) (off l:Nat):Nat->Nat->Prop where
 |known (c:Nat) (h:c<dY):Gd g off l c c
 |open_ (z c':Nat) (hz:0<z) (hl:l<=c') (h:g.s+off+c'*z=g.e) (hb:c'<=maxLen):Gd g off l (dY+z) c'
inductive WL (σ:cI):Fn->Fn->Prop where
 |func (f:gE):WL σ (.func f) (.func f)
 |yield (l:Nat) (g:vC) (h:σ l=some g):WL σ (.yield l) (.yield g.B)
inductive VR (σ:cI):ad->ad->Prop where
 |bool (b:Bool):VR σ (.bool b) (.bool b)
 |int (k:aO) (n:Int):VR σ (.int k n) (.int k n)
 |float (k:FloatKind) (n:Nat):VR σ (.float k n) (.float k n)
 |string (s:ByteArray):VR σ (.string s) (.string s)
 |J0:VR σ (.pointer none) (.pointer none)
 |ptr (a:aP) (g:vC) (h:σ a.block=some g) (hs:a.spot=none):VR σ (.pointer (some a)) (.pointer (some ⟨g.B,g.s+a.off,none⟩))
 |DO (l c:Nat):VR σ (.slice none l c) (.slice none l c)
 |slice (a:aP) (l c c':Nat) (g:vC) (h:σ a.block=some g) (hs:a.spot=none) (hc:Gd g a.off l c c'):
   VR σ (.slice (some a) l c) (.slice (some ⟨g.B,g.s+a.off,none⟩) l c')
 |cX (a a':aP) (c:Nat) (g:vC) (h:σ a.block=some g) (hc:c=0\/dY<c):VR σ (.slice (some a) 0 c) (.slice (some a') 0 0)
 |Ni:VR σ (.map none) (.map none)
 |map (r:Nat) (g:vC) (h:σ r=some g):VR σ (.map (some r)) (.map (some g.B))
 |nilFunc:VR σ .nilFunc .nilFunc
 |func (fn FA:Fn) (fs tH cs ck:Array ad) (hf:WL σ fn FA) (h1:fs.size=tH.size) (h2:∀(i:Nat) (v v':ad),fs[i]? =some v->tH[i]? =some v'->VR σ v v')
   (h3:cs.size=ck.size) (h4:∀(i:Nat) (v v':ad),cs[i]? =some v->ck[i]? =some v'->VR σ v v'):VR σ (.func fn fs cs) (.func FA tH ck)
 |nilIface:VR σ .nilIface .nilIface
 |iface (t:ae) (v v':ad) (h:VR σ v v'):VR σ (.iface t v) (.iface t v')
 |agg (cs ck:Array ad) (h1:cs.size=ck.size) (h2:∀(i:Nat) (v v':ad),cs[i]? =some v->ck[i]? =some v'->VR σ v v'):VR σ (.agg cs) (.agg ck)
 |tuple (cs ck:Array ad) (h1:cs.size=ck.size) (h2:∀(i:Nat) (v v':ad),cs[i]? =some v->ck[i]? =some v'->VR σ v v'):VR σ (.tuple cs) (.tuple ck)
def Sub(σ σ':cI):Prop:=∀b g,σ b=some g->σ' b=some g
def Sub.refl(σ:cI):Sub σ σ:=λ_ _ h=>h
def Sub.trans{σ σ' Ix:cI}(h:Sub σ σ')(k:Sub σ' Ix):Sub σ Ix:=λb g x=>k b g (h b g x)
def WL.mono{σ σ':cI}(hs:Sub σ σ'){f f':Fn}(h:WL σ f f'):WL σ' f f':=by
 cases h with
 |func f=>exact .func f
 |yield l g h=>exact .yield l g (hs _ _ h)
def VR.mono{σ σ':cI}(hs:Sub σ σ'){v v':ad}(h:VR σ v v'):VR σ' v v':=by
 induction h with
 |bool b=>exact .bool b
 |int k n=>exact .int k n
 |float k n=>exact .float k n
 |string s=>exact .string s
 |J0=>exact .J0
 |ptr a g h tI=>exact .ptr a g (hs _ _ h) tI
 |DO l c=>exact .DO l c
 |slice a l c c' g h tI hc=>exact .slice a l c c' g (hs _ _ h) tI hc
 |cX a a' c g h hc=>exact .cX a a' c g (hs _ _ h) hc
 |Ni=>exact .Ni
 |map r g h=>exact .map r g (hs _ _ h)
 |nilFunc=>exact .nilFunc
 |func fn FA fs tH cs ck hf h1 _ h3 _ ih1 ih2=>exact .func fn FA fs tH cs ck (hf.mono hs) h1 ih1 h3 ih2
 |nilIface=>exact .nilIface
 |iface t v v' _ ih=>exact .iface t v v' ih
 |agg cs ck h1 _ ih=>exact .agg cs ck h1 ih
 |tuple cs ck h1 _ ih=>exact .tuple cs ck h1 ih
def LR(σ:cI)(l l':List ad):Prop:=l.length=l'.length/\∀(i:Nat) (v v':ad),l[i]? =some v->l'[i]? =some v'->VR σ v v'
def LR.mono{σ σ':cI}(hs:Sub σ σ'){l l':List ad}(h:LR σ l l'):LR σ' l l':=⟨h.1,λi v v' a b=>(h.2 i v v' a b).mono hs⟩
def LR.nil{σ:cI}:LR σ [] []:=⟨rfl,λi v v' a=>by simp at a⟩
def LR.cons{σ:cI}{v v':ad}{l l':List ad}(h:VR σ v v')(hl:LR σ l l'):LR σ (v::l) (v'::l'):=by
 refine⟨by simp[hl.1],λi u u' a b=>?_⟩;cases i with
 |zero=>simp at a b;subst a;subst b;exact h
 |succ i=>simp at a b;exact hl.2 i u u' a b
def LR.of_cons{σ:cI}{v:ad}{l m:List ad}(h:LR σ (v::l) m):∃v' l',m=v'::l'/\VR σ v v'/\LR σ l l':=by
 cases m with
 |nil=>have:=h.1;simp at this
 |cons v' l'=>refine⟨v',l',rfl,h.2 0 v v' (by simp) (by simp),by have:=h.1;simpa using this,λi u u' a b=>h.2 (i+1) u u' (by simpa using a) (by simpa using b)⟩
def LR.of_nil{σ:cI}{m:List ad}(h:LR σ [] m):m=[]:=by have:=h.1;simp at this;exact uy this.symm
def LR.append{σ:cI}{l l' m m':List ad}(h:LR σ l l')(k:LR σ m m'):LR σ (l++m) (l'++m'):=by
 induction l generalizing l' with
 |nil=>have:=h.of_nil;subst this;exact k
 |cons v l ih=>obtain⟨v',Xo,rfl,hv,hl⟩:=h.of_cons;exact(ih hl).cons hv
def LR.take{σ:cI}{l l':List ad}(h:LR σ l l')(n:Nat):LR σ (l.take n) (l'.take n):=by
 refine⟨by simp[h.1],λi v v' a b=>?_⟩;rw[lD]at a b;split at a
 ·rename_i hi;rw[aq hi]at b;exact h.2 i v v' a b
 ·cases a
def LR.drop{σ:cI}{l l':List ad}(h:LR σ l l')(n:Nat):LR σ (l.drop n) (l'.drop n):=by refine⟨by simp[h.1],λi v v' a b=>?_⟩;rw[qn]at a b;exact h.2 _ v v' a b
def LR.get{σ:cI}{l l':List ad}(h:LR σ l l'){i:Nat}{v:ad}(hv:l[i]? =some v):∃v',l'[i]? =some v'/\VR σ v v':=by
 have hi:i<l.length:=(cn.1 hv).1;have pb:i<l'.length:=by rw[<-h.1];exact hi
 exact⟨l'[i],bS pb,h.2 i v _ hv (bS pb)⟩
def LR.set{σ:cI}{l l':List ad}(h:LR σ l l')(n:Nat){x x':ad}(hx:VR σ x x'):LR σ (l.set n x) (l'.set n x'):=by
 refine⟨by simp[h.1],λi v v' a b=>?_⟩;rw[n8]at a b;by_cases hn:n=i
 ·subst hn;simp only[ba]at a b;split at a
  ·split at b
   ·simp at a b;subst a;subst b;exact hx
   ·cases b
  ·cases a
 ·rw[ap hn]at a b;exact h.2 i v v' a b
def LR.xQ{σ:cI}{a a':Array ad}(h1:a.size=a'.size)(h2:∀(i:Nat) (v v':ad),a[i]? =some v->a'[i]? =some v'->VR σ v v'):LR σ a.toList a'.toList:=
 ⟨by simpa using h1,λi v v' x y=>h2 i v v' (by simpa using x) (by simpa using y)⟩
def LR.arr{σ:cI}{a a':Array ad}(h:LR σ a.toList a'.toList):a.size=a'.size/\∀(i:Nat) (v v':ad),a[i]? =some v->a'[i]? =some v'->VR σ v v':=
 ⟨by simpa using h.1,λi v v' x y=>h.2 i v v' (by simpa using x) (by simpa using y)⟩
def VR.Nz{σ:cI}{a a':Array ad}(h:LR σ a.toList a'.toList):VR σ (.agg a) (.agg a'):=.agg _ _ h.arr.1 h.arr.2
def VR.tuple'{σ:cI}{a a':Array ad}(h:LR σ a.toList a'.toList):VR σ (.tuple a) (.tuple a'):=.tuple _ _ h.arr.1 h.arr.2
def VR.cells{σ:cI}{v v':ad}(h:VR σ v v'):LR σ v.cells.toList v'.cells.toList:=by
 cases h with
 |agg cs ck h1 h2=>exact .xQ h1 h2
 |bool b=>exact .cons (.bool b) .nil
 |int k n=>exact .cons (.int k n) .nil
 |float k n=>exact .cons (.float k n) .nil
 |string s=>exact .cons (.string s) .nil
 |J0=>exact .cons .J0 .nil
 |ptr a g h hs=>exact .cons (.ptr a g h hs) .nil
 |DO l c=>exact .cons (.DO l c) .nil
 |slice a l c c' g h hs hc=>exact .cons (.slice a l c c' g h hs hc) .nil
 |cX a a' c g h hc=>exact .cons (.cX a a' c g h hc) .nil
 |Ni=>exact .cons .Ni .nil
 |map r g h=>exact .cons (.map r g h) .nil
 |nilFunc=>exact .cons .nilFunc .nil
 |func fn FA fs tH cs ck hf h1 h2 h3 h4=>exact .cons (.func fn FA fs tH cs ck hf h1 h2 h3 h4) .nil
 |nilIface=>exact .cons .nilIface .nil
 |iface t v v' h=>exact .cons (.iface t v v' h) .nil
 |tuple cs ck h1 h2=>exact .cons (.tuple cs ck h1 h2) .nil
def VR.undef{σ:cI}:VR σ ak ak:=VR.tuple' (a:=#[]) (a':=#[]) .nil
def bZ:ad->Bool
 |.bool _|.int .. |.string _|.pointer none|.slice none _ _|.map none|.nilFunc|.nilIface|.float .. =>true
 |_=>false
def eQ:ad->Bool
 |.agg cs=>cs.toList.all bZ
 |v=>bZ v
def bC:ad->Bool
 |.tuple vs=>vs.toList.all eQ
 |.iface _ v=>eQ v
 |v=>eQ v
def GO{σ:cI}{v v':ad}(hp:bZ v=true)(h:VR σ v v'):v'=v:=by cases h<;>first|rfl|simp[bZ]at hp
def eu{σ:cI}{v:ad}(hp:bZ v=true):VR σ v v:=by
 cases v with
 |bool b=>exact .bool b
 |int k n=>exact .int k n
 |float k n=>exact .float k n
 |string s=>exact .string s
 |pointer a=>cases a with|none=>exact .J0|some a=>simp[bZ]at hp
 |slice a l c=>cases a with|none=>exact .DO l c|some a=>simp[bZ]at hp
 |map r=>cases r with|none=>exact .Ni|some a=>simp[bZ]at hp
 |nilFunc=>exact .nilFunc
 |nilIface=>exact .nilIface
 |_=>simp[bZ]at hp
def LR.TY{σ:cI}{p:ad->Bool}(hp:∀v v',p v=true->VR σ v v'->v'=v):∀{l l':List ad},l.all p=true->LR σ l l'->l'=l:=by
 intro l;induction l with
 |nil=>intro l' _ h;exact h.of_nil
 |cons v l ih=>intro l' ha h;obtain⟨v',Xo,rfl,hv,hl⟩:=h.of_cons;simp only[eK,a8]at ha;rw[hp v v' ha.1 hv,ih ha.2 hl]
def LR.mM{σ:cI}{p:ad->Bool}(hp:∀v,p v=true->VR σ v v):∀{l:List ad},l.all p=true->LR σ l l:=by
 intro l;induction l with
 |nil=>intro _;exact .nil
 |cons v l ih=>intro ha;simp only[eK,a8]at ha;exact(ih ha.2).cons (hp v ha.1)
def AK{σ:cI}{v v':ad}(hp:eQ v=true)(h:VR σ v v'):v'=v:=by
 cases h with
 |agg cs ck h1 h2=>have:=LR.TY (λv v'=>GO) (show cs.toList.all bZ=true from hp) (LR.xQ h1 h2);rw[mN.1 this]
 |_=>first|rfl|simp[eQ,bZ]at hp
def uv{σ:cI}{v:ad}(hp:eQ v=true):VR σ v v:=by
 cases v with
 |agg cs=>exact VR.Nz (LR.mM (λv=>eu) (show cs.toList.all bZ=true from hp))
 |_=>exact eu hp
def fe{σ:cI}{v v':ad}(hp:bC v=true)(h:VR σ v v'):v'=v:=by
 cases h with
 |tuple cs ck h1 h2=>have:=LR.TY (λv v'=>AK) (show cs.toList.all eQ=true from hp) (LR.xQ h1 h2);rw[mN.1 this]
 |iface t v v' h=>rw[AK hp h]
 |agg cs ck h1 h2=>exact AK (v:=.agg cs) hp (.agg cs ck h1 h2)
 |_=>first|rfl|simp[bC,eQ,bZ]at hp
def g8{σ:cI}{v:ad}(hp:bC v=true):VR σ v v:=by
 cases v with
 |tuple cs=>exact VR.tuple' (LR.mM (λv=>uv) (show cs.toList.all eQ=true from hp))
 |iface t v=>exact .iface t v v (uv hp)
 |_=>exact uv hp
def Jw(i:Nat):List Nat->Bool
 |[]=>false
 |x::l=>Nat.beq x i||Jw i l
def sE{i:Nat}{l:List Nat}:Jw i l=true<->i∈l:=by
 induction l with
 |nil=>simp[Jw]
 |cons x l ih=>simp only[Jw,mJ,dM,ih,dD];exact⟨λh=>h.imp Eq.symm id,λh=>h.imp Eq.symm id⟩
def oB(nt:Nat)(ng:List Nat):an->Bool
 |.tmp t=>Nat.blt t nt
 |.const v=>bC v
 |.global g=>Jw g ng
 |.func _=>true
def wV(σ:cI)(ng:List Nat):Prop:=∀g,g∈ng->∃e,σ g=some ⟨g,0,e⟩
def wV.mono{σ σ':cI}{ng:List Nat}(hs:Sub σ σ')(h:wV σ ng):wV σ' ng:=λg hg=>let⟨e,he⟩:=h g hg;⟨e,hs _ _ he⟩
def kY(nt:Nat)(ng:List Nat)(o:aj):Bool:=o.op.operands.toList.all (oB nt ng)&&(match o.dst with|some d=>Nat.blt d nt|none=>true)
def ik(o:aj):Nat:=
 match o.op with
 |.move _|.assign _|.pick .. |.build .. |.nilCheck _|.unOp .. |.makeInterface .. |.slice .. |.fieldAddr .. |.field .. |.indexAddr .. |.index .. |.extract .. |.typeAssert .. =>0
 |.makeFunc (.func _) _ _=>0
 |.binOp op _ _ _ _=>match op with|.eql|.neq=>1|_=>0
 |.load .. |.lookup .. |.convert .. =>1
 |.call c=>match c.callee with|.builtin .len=>1|_=>3
 |.alloc _|.box .. |.buildSlice .. |.makeSlice .. =>2
 |_=>3
def Vj(o:Option aj):Nat:=match o with
 |some o=>(match o.dst with|some d=>d|none=>0)
 |none=>0
def H9(id:Nat)(ops:Array aj):Nat:=(id*128+ops.size)*4096+(Vj ops[0]? +3*Vj ops[ops.size-1]? +7*Vj ops[ops.size/2]?)
def uS(A:List Nat)(o:aj):Nat:=o.after.toList.foldr (λe m=>if Region.binds .any e then Nat.lor (Nat.lor (2^ e.on) (A.getD e.on 0)) m else m) 0
def Wk:List aj->List Nat->List Nat
 |[],A=>A
 |o::os,A=>Wk os (A++[uS A o])
def L2(d:Option Tmp)(l:List Tmp):Bool:=match d with|some d=>Jw d l|none=>false
def jZ(ops:Array aj)(o:aj):List Tmp:=o.dst.toList++o.looksAt ops
structure Ff where
 i:Nat
 o:aj
 early:Bool
def A6(ops:Array aj)(A:List Nat):List Ff->List (Nat×List Nat)->Bool
 |_,[]=>true
 |pre,(i,re)::iB=>
  match ops[i]? with
  |none=>false
  |some o=>
   let e:=Nat.blt (ik o) 3&& !L2 o.dst (o.looksAt ops)&&pre.all λd=> !L2 o.dst (jZ ops d.o)
   pre.all (λd=> !Nat.beq d.i i)&&
   o.after.toList.all (λe=> !Region.binds .any e||pre.any λd=>Nat.beq d.i e.on)&&
   pre.all (λd=> !d.early||(Nat.testBit (A.getD i 0) d.i||(!L2 d.o.dst (o.looksAt ops)&&(e||(!L2 o.dst (jZ ops d.o)&&(Nat.beq (ik d.o) 0||Nat.beq (ik d.o) 2||Jw d.i re))))))&&
   (e||iB.all λk=>match ops[k.1]? with
     |some ok=>ok.after.toList.any λe=>Region.binds .any e&&pre.all λd=> !Nat.beq d.i e.on
     |none=>false)&&
   A6 ops A (⟨i,o,e⟩::pre) iB
def UD(ops:Array aj):Option (List (Nat×List Nat))->List (Nat×List Nat)
 |some pl=>pl
 |none=>(List.range ops.size).map λi=>(i,[])
def Iq(ops:Array aj)(pl:List (Nat×List Nat)):Bool:=
 let A:=Wk ops.toList []
 (List.range ops.size).all (λi=>match ops[i]? with
  |some o=>Nat.beq (A.getD i 0) (uS A o)&&pl.any (λx=>Nat.beq x.1 i)&&(match o.op with|.select .. =>false|_=>true)
  |none=>false)&&
 A6 ops A [] pl
def iK[ah](nt:Nat)(ng:List Nat):bA->Bool
 |.region id ops Ar=>ops.toList.all (kY nt ng)&&(!Ar||Iq ops (UD ops (ah.D id ops)))
 |.seq a b=>iK nt ng a&&iK nt ng b
 |.cond c a b=>oB nt ng c&&iK nt ng a&&iK nt ng b
 |.block _ b=>iK nt ng b
 |.loop b=>iK nt ng b
 |.scope b=>iK nt ng b
 |.rangeFunc f ps ats bd=>oB nt ng f&&ps.toList.all (λt=>Nat.blt t nt)&&iK nt ng ats&&iK nt ng bd
 |_=>true
def JZ[ah](σ:cI)(nt:Nat)(c:bA):Prop:=wV σ ah.ng/\iK nt ah.ng c=true
def JZ.mono[ah]{σ σ':cI}{nt:Nat}{c:bA}(hs:Sub σ σ')(h:JZ σ nt c):JZ σ' nt c:=⟨h.1.mono hs,h.2⟩
section
variable [ah]
def cL(R:ah.Fr)(t:Nat):ad:=ah.En R t
def Lv(R:ah.Fr)(t:Nat)(v:ad):ah.Fr:=ah.VM R t v
def fM(R:ah.Fr)(d:Option Tmp)(v:ad):ah.Fr:=match d with|some t=>Lv R t v|none=>R
def wx(R:ah.Fr)(t:Nat)(v:ad):cL (Lv R t v) t=v:=ah.lz R t v
def sT(R:ah.Fr){t u:Nat}(v:ad)(h:t≠u):cL (Lv R t v) u=cL R u:=ah.fJ R t u v h
def dU(nt:Nat)(σ:cI)(R:ah.Fr)(tmps:Array ad):Prop:=tmps.size=nt/\∀t,t<nt->VR σ (cL R t) (tmps.getD t ak)
def dU.mono{nt:Nat}{σ σ':cI}(hs:Sub σ σ'){R:ah.Fr}{tmps:Array ad}(h:dU nt σ R tmps):dU nt σ' R tmps:=
 ⟨h.1,λt ht=>(h.2 t ht).mono hs⟩
def dU.set{nt:Nat}{σ:cI}{R:ah.Fr}{tmps:Array ad}(h:dU nt σ R tmps)(d:Nat){v v':ad}(hv:VR σ v v'):
 dU nt σ (Lv R d v) (tmps.setIfInBounds d v'):=by
 refine⟨by simp[h.1],λt ht=>?_⟩;by_cases hd:d=t
 ·subst hd;rw[wx];have:d<tmps.size:=by rw[h.1];exact ht
  simpa[CX,this]using hv
 ·rw[sT _ _ hd];have:=h.2 t ht;simpa[A8 hd]using this
def dU.put{nt:Nat}{σ:cI}{R:ah.Fr}{a:aU}(h:dU nt σ R a.tmps)(d:Option Tmp){v v':ad}(hv:VR σ v v'):
 dU nt σ (fM R d v) (a.put d v').tmps:=by
 cases d with
 |none=>exact h
 |some d=>exact h.set d hv
@[simp] theorem pz (a:aU) (d:Option Tmp) (v:ad):(a.put d v).defers=a.defers:=by cases d<;>rfl
def ER(σ:cI)(es fP:List bc):Prop:=
 es.length=fP.length/\∀(i:Nat) (e e':bc),es[i]? =some e->fP[i]? =some e'->VR σ e.key e'.key/\VR σ e.val e'.val/\e.born=e'.born
def ER.mono{σ σ':cI}(hs:Sub σ σ'){es fP:List bc}(h:ER σ es fP):ER σ' es fP:=
 ⟨h.1,λi e e' a b=>let⟨x,y,z⟩:=h.2 i e e' a b;⟨x.mono hs,y.mono hs,z⟩⟩
def mf(σ:cI)(h:Array oz)(g:vC):db->Prop
 |.cells cs=>∃c t fr,h[g.B]? =some (.cells c t fr)/\(g.s<g.e->fr=(0,0))/\g.s+cs.length<=g.e/\g.e<=c.size/\
  ∀(i:Nat) (v:ad),cs[i]? =some v->∃v',c[g.s+i]? =some v'/\VR σ v v'
 |.ro cs=>∃c t fr,h[g.B]? =some (.cells c t fr)/\g.s+cs.length<=g.e/\
  ∀(i:Nat) (v:ad),cs[i]? =some v->∃v',c[g.s+i]? =some v'/\VR σ v v'
 |.map es kH=>g.s=0/\g.e=1/\∃fP:Array bc,h[g.B]? =some (.map fP kH)/\ER σ es fP.toList
 |.loop st mZ R nt ps ats bd=>g.s=0/\g.e=1/\∃r:Loop,h[g.B]? =some (.loop r)/\r.state=st/\r.pending=mZ/\dU nt σ R r.tmps/\r.params=ps/\r.assign=ats/\r.body=bd/\JZ σ nt ats/\JZ σ nt bd/\ps.toList.all (λt=>Nat.blt t nt)=true
 |.mW s pos=>g.s=0/\g.e=1/\h[g.B]? =some (.stringIter s pos)
 |.tc t cs=>g.s=0/\0<g.e/\(g.e<=maxLen/\(ah.ex t=true->cs.length=g.e))/\∃c,h[g.B]? =some (.cells c t (0,0))/\cs.length<=g.e/\g.e=c.size/\
  ∀(i:Nat) (v:ad),cs[i]? =some v->∃v',c[i]? =some v'/\VR σ v v'
def mf.mono{σ σ':cI}(hs:Sub σ σ'){h:Array oz}{g:vC}{o:db}(k:mf σ h g o):mf σ' h g o:=by
 cases o with
 |cells cs=>obtain⟨c,t,fr,h1,h0,h2,h3,h4⟩:=k;exact⟨c,t,fr,h1,h0,h2,h3,λi v hv=>let⟨v',a,b⟩:=h4 i v hv;⟨v',a,b.mono hs⟩⟩
 |ro cs=>obtain⟨c,t,fr,h1,h2,h4⟩:=k;exact⟨c,t,fr,h1,h2,λi v hv=>let⟨v',a,b⟩:=h4 i v hv;⟨v',a,b.mono hs⟩⟩
 |map es kH=>obtain⟨a,b,fP,h1,h2⟩:=k;exact⟨a,b,fP,h1,h2.mono hs⟩
 |loop st mZ R nt ps ats bd=>obtain⟨a,b,r,h1,h2,h3,h4,h5,h6,h7,h8,h9,FF⟩:=k;exact⟨a,b,r,h1,h2,h3,h4.mono hs,h5,h6,h7,h8.mono hs,h9.mono hs,FF⟩
 |mW s pos=>exact k
 |tc t cs=>obtain⟨a1,a2,a3,c,h1,h2,h3,h4⟩:=k;exact⟨a1,a2,a3,c,h1,h2,h3,λi v hv=>let⟨v',a,b⟩:=h4 i v hv;⟨v',a,b.mono hs⟩⟩
def mf.same{σ:cI}{h h':Array oz}{g:vC}{o:db}(k:mf σ h g o)(e:h'[g.B]? =h[g.B]?):mf σ h' g o:=by
 cases o with
 |cells cs=>obtain⟨c,t,fr,h1,h2⟩:=k;exact⟨c,t,fr,e.trans h1,h2⟩
 |ro cs=>obtain⟨c,t,fr,h1,h2⟩:=k;exact⟨c,t,fr,e.trans h1,h2⟩
 |map es kH=>obtain⟨a,b,fP,h1,h2⟩:=k;exact⟨a,b,fP,e.trans h1,h2⟩
 |loop st mZ R nt ps ats bd=>obtain⟨a,b,r,h1,h2⟩:=k;exact⟨a,b,r,e.trans h1,h2⟩
 |mW s pos=>obtain⟨a,b,h1⟩:=k;exact⟨a,b,e.trans h1⟩
 |tc t cs=>obtain⟨a1,a2,a3,c,h1,h2⟩:=k;exact⟨a1,a2,a3,c,e.trans h1,h2⟩
def Sy:db->Bool
 |.ro _=>false
 |_=>true
def GD{o:db}(h:∀cs,o≠ .ro cs):Sy o=true:=by cases o<;>first|rfl|exact absurd rfl (h _)
def rwL{o o2:db}(h:∀cs,o≠ .ro cs):(Sy o||Sy o2)=true:=by rw[GD h];rfl
def rwR{o o2:db}(h:∀cs,o≠ .ro cs):(Sy o2||Sy o)=true:=by rw[GD h];simp
structure bg (σ:cI) (W:AW) (h:Array oz):Prop where
 free:∀b,W.next<=b->W.get b=none
 m8:∀b g,σ b=some g->b<W.next/\g.B<h.size
 obj:∀b o g,W.get b=some o->σ b=some g->mf σ h g o
 qK:∀b1 b2 o1 o2 g1 g2,b1≠b2->W.get b1=some o1->W.get b2=some o2->σ b1=some g1->σ b2=some g2->(Sy o1||Sy o2)=true->g1.B≠g2.B\/g1.e<=g2.s\/g2.e<=g1.s
def Mut(σ:cI)(W:AW)(B:Nat):Prop:=∃b g,σ b=some g/\g.B=B/\∀cs,W.get b≠some (.ro cs)
def K1{w w':am}{a:aP}(h:w'.heap[a.block]? =w.heap[a.block]?):w'.frozen? a=w.frozen? a:=by unfold World.frozen?;rw[h]
def mf.afo{σ:cI}{w:am}{g:vC}{o:db}(k:mf σ w.heap g o)(qg:∀cs,o≠ .ro cs)(ee:g.s<g.e){a:aP}(ha:a.block=g.B):w.frozen? a=false:=by
 unfold World.frozen?;rw[ha];cases o with
 |cells cs=>obtain⟨c,t,fr,h1,h0,_⟩:=k;rw[h1,h0 ee];simp
 |ro cs=>exact absurd rfl (qg cs)
 |map es kH=>obtain⟨_,_,fP,h1,_⟩:=k;rw[h1]
 |loop st mZ R nt ps ats bd=>obtain⟨_,_,r,h1,_⟩:=k;rw[h1]
 |mW s pos=>obtain⟨_,_,h1⟩:=k;rw[h1]
 |tc t cs=>obtain⟨_,_,_,c,h1,_⟩:=k;rw[h1];simp
structure eF (σ:cI) (W:AW) (w:am) (σ':cI) (W':AW) (w':am):Prop where
 sub:Sub σ σ'
 ro:∀b cs,W.get b=some (.ro cs)->W'.get b=some (.ro cs)
 size:w.heap.size<=w'.heap.size
 os:w'.os=w.os
 tape:w'.tape=w.tape
 output:w'.output=w.output
 keep:∀B,B<w.heap.size->¬Mut σ W B->w'.heap[B]? =w.heap[B]?
 ghost:∀b o,W.get b=some o->σ b=none->W'.get b=some o/\σ' b=none
 grow:∀b g,σ' b=some g->g.B<w.heap.size->σ b=some g\/Mut σ W g.B
def eF.Qo{σ σ':cI}{W W':AW}{w w':am}(h:eF σ W w σ' W' w'):∀B,B<w.heap.size->Mut σ' W' B->Mut σ W B:=by
 rintro B hB ⟨b,g,hg,rfl,qg⟩;rcases h.grow b g hg hB with h1|h1
 ·exact⟨b,g,h1,rfl,λcs hc=>qg cs (h.ro b cs hc)⟩
 ·exact h1
def eF.refl(σ:cI)(W:AW)(w:am):eF σ W w σ W w:=⟨.refl _,λ_ _ h=>h,aM _,rfl,rfl,rfl,λ_ _ _=>rfl,λ_ _ h k=>⟨h,k⟩,λ_ _ h _=>.inl h⟩
def eF.trans{σ σ' Ix:cI}{W W' W'':AW}{w w' Ty:am}(h:eF σ W w σ' W' w')(k:eF σ' W' w' Ix W'' Ty):eF σ W w Ix W'' Ty:=
 ⟨h.sub.trans k.sub,λb cs x=>k.ro b cs (h.ro b cs x),eW h.size k.size,k.os.trans h.os,k.tape.trans h.tape,k.output.trans h.output,
  λB hB hm=>(k.keep B (eE hB h.size) (λm=>hm (h.Qo B hB m))).trans (h.keep B hB hm),
  λb o h1 h2=>let⟨a1,a2⟩:=h.ghost b o h1 h2;k.ghost b o a1 a2,
  λb g hg hB=>by
   rcases k.grow b g hg (eE hB h.size)with h1|h1
   ·exact h.grow b g h1 hB
   ·exact .inr (h.Qo _ hB h1)⟩
def eF.drawn(σ:cI)(W:AW)(w:am)(n:Nat):eF σ W w σ W {w with drawn:=n}:=⟨.refl _,λ_ _ h=>h,aM _,rfl,rfl,rfl,λ_ _ _=>rfl,λ_ _ h k=>⟨h,k⟩,λ_ _ h _=>.inl h⟩
section
variable {σ:cI} {W:AW} {w w':am}
def bg.Qo(h:bg σ W w.heap){b:Nat}{o o':db}{g:vC}(hb:W.get b=some o)(qg:∀cs,o≠ .ro cs)(KS:∀cs,o'≠ .ro cs)(hg:σ b=some g)
 (qY:w'.heap.size=w.heap.size)(Uh:w'.os=w.os)(TI:w'.tape=w.tape)(Bs:w'.output=w.output)
 (jG:∀B,B≠g.B->w'.heap[B]? =w.heap[B]?)
 (xd:mf σ w'.heap g o')
 (yv:∀b2 o2 g2,b2≠b->W.get b2=some o2->σ b2=some g2->g2.B=g.B->(g.e<=g2.s\/g2.e<=g.s)->mf σ w.heap g2 o2->mf σ w'.heap g2 o2):
 bg σ (W.put b o') w'.heap/\eF σ W w σ (W.put b o') w':=by
 have ee:∀{c:Nat},c≠b->(W.put b o').get c=W.get c:=λhc=>W.ay _ (aV hc)
 refine⟨⟨?_,?_,?_,?_⟩,⟨.refl _,?_,?_,Uh,TI,Bs,?_,?_,?_⟩⟩
 ·intro c hc;have YY:=(h.m8 b g hg).1;have xC:W.next<=c:=hc;rw[ee (by omega)];exact h.free c xC
 ·intro c k hk;have:=h.m8 c k hk;exact⟨this.1,by rw[qY];exact this.2⟩
 ·intro c o2 g2 hc hk;by_cases Jl:c=b
  ·subst Jl;rw[AW.aW]at hc;injection hc with hc;subst hc;rw[hg]at hk;injection hk with hk;subst hk;exact xd
  ·rw[ee Jl]at hc;by_cases hB:g2.B=g.B
   ·refine yv c o2 g2 Jl hc hk hB ?_ (h.obj c o2 g2 hc hk);rcases h.qK c b o2 o g2 g Jl hc hb hk hg (rwR qg)with h1|h1|h1
    ·exact absurd hB h1
    ·exact .inr h1
    ·exact .inl h1
   ·exact(h.obj c o2 g2 hc hk).same (jG _ hB)
 ·intro b1 b2 o1 o2 g1 g2 akL h1 h2 k1 k2 hr;have e1:∃o1',W.get b1=some o1'/\Sy o1'=Sy o1:=by
   by_cases hx:b1=b
   ·subst hx;rw[AW.aW]at h1;injection h1 with h1;subst h1;exact⟨o,hb,by rw[GD qg,GD KS]⟩
   ·rw[ee hx]at h1;exact⟨o1,h1,rfl⟩
  have e2:∃o2',W.get b2=some o2'/\Sy o2'=Sy o2:=by
   by_cases hx:b2=b
   ·subst hx;rw[AW.aW]at h2;injection h2 with h2;subst h2;exact⟨o,hb,by rw[GD qg,GD KS]⟩
   ·rw[ee hx]at h2;exact⟨o2,h2,rfl⟩
  obtain⟨o1',e1,q1⟩:=e1;obtain⟨o2',e2,q2⟩:=e2;exact h.qK b1 b2 o1' o2' g1 g2 akL e1 e2 k1 k2 (by rw[q1,q2];exact hr)
 ·intro c cs hc;by_cases Jl:c=b
  ·subst Jl;rw[hb]at hc;injection hc with hc;exact absurd hc (qg cs)
  ·rw[ee Jl];exact hc
 ·rw[qY];exact aM _
 ·intro B hB hm;by_cases hBg:B=g.B
  ·subst hBg;exact absurd ⟨b,g,hg,rfl,λcs hc=>by rw[hb]at hc;injection hc with hc;exact qg cs hc⟩ hm
  ·exact jG B hBg
 ·intro c o2 hc hk;have Jl:c≠b:=λe=>by subst e;rw[hg]at hk;cases hk
  exact⟨by rw[ee Jl];exact hc,hk⟩
 ·exactλc k hk _=>.inl hk
def bg.UN(h:bg σ W w.heap){b:Nat}{o o':db}{g:vC}(hb:W.get b=some o)(qg:∀cs,o≠ .ro cs)(KS:∀cs,o'≠ .ro cs)(hg:σ b=some g)
 (qY:w'.heap.size=w.heap.size)(Uh:w'.os=w.os)(TI:w'.tape=w.tape)(Bs:w'.output=w.output)
 (jG:∀B,B≠g.B->w'.heap[B]? =w.heap[B]?)
 {c c':Array ad}{t:ae}(hc:w.heap[g.B]? =some (.cells c t (0,0)))(xC:w'.heap[g.B]? =some (.cells c' t (0,0)))(pS:c'.size=c.size)
 (vz:∀i,i<g.s\/g.e<=i->c'[i]? =c[i]?)(xd:mf σ w'.heap g o'):
 bg σ (W.put b o') w'.heap/\eF σ W w σ (W.put b o') w':=by
 refine h.Qo hb qg KS hg qY Uh TI Bs jG xd ?_
 ·intro b2 o2 g2 ee h2 k2 hB hd fb;cases o2 with
  |cells DK=>obtain⟨c0,t0,fr0,e1,e0,e2,e3,e4⟩:=fb;rw[hB,hc]at e1;injection e1 with e1;injection e1 with e1 Zt;subst e1;refine⟨c',t,(0,0),by rw[hB];exact xC,λ_=>rfl,e2,by omega,λi v hv=>?_⟩;obtain⟨v',f1,f2⟩:=e4 i v hv;have hi:i<DK.length:=(cn.1 hv).1;exact⟨v',by rw[vz _ (by omega)];exact f1,f2⟩
  |ro DK=>obtain⟨c0,t0,fr,e1,e2,e3⟩:=fb;rw[hB,hc]at e1;injection e1 with e1;injection e1 with e1 Zt;subst e1;refine⟨c',t,(0,0),by rw[hB];exact xC,e2,λi v hv=>?_⟩;have hi:i<DK.length:=(cn.1 hv).1;obtain⟨v',f1,f2⟩:=e3 i v hv;exact⟨v',by rw[vz _ (by omega)];exact f1,f2⟩
  |map es kH=>obtain⟨_,_,fP,e1,_⟩:=fb;rw[hB,hc]at e1;cases e1
  |loop st mZ R nt ps ats bd=>obtain⟨_,_,r,e1,_⟩:=fb;rw[hB,hc]at e1;cases e1
  |mW s pos=>obtain⟨_,_,e1⟩:=fb;rw[hB,hc]at e1;cases e1
  |tc t2 DK=>obtain⟨a1,a2,a3,c0,e1,e2,e3,e4⟩:=fb;rw[hB,hc]at e1;injection e1 with e1;injection e1 with e1 Zt;subst e1;subst Zt;refine⟨a1,a2,a3,c',by rw[hB];exact xC,e2,by omega,λi v hv=>?_⟩;obtain⟨v',f1,f2⟩:=e4 i v hv;have hi:i<DK.length:=(cn.1 hv).1;exact⟨v',by rw[vz _ (by omega)];exact f1,f2⟩
def bg.write(h:bg σ W w.heap){b:Nat}{cs ck:List ad}{g:vC}(hb:W.get b=some (.cells cs))(hg:σ b=some g)
 (qY:w'.heap.size=w.heap.size)(Uh:w'.os=w.os)(TI:w'.tape=w.tape)(Bs:w'.output=w.output)
 (jG:∀B,B≠g.B->w'.heap[B]? =w.heap[B]?)
 {c c':Array ad}{t:ae}(hc:w.heap[g.B]? =some (.cells c t (0,0)))(xC:w'.heap[g.B]? =some (.cells c' t (0,0)))(pS:c'.size=c.size)
 (vz:∀i,i<g.s\/g.e<=i->c'[i]? =c[i]?)(eG:g.s+ck.length<=g.e)
 (nM:∀(i:Nat) (v:ad),ck[i]? =some v->∃v',c'[g.s+i]? =some v'/\VR σ v v'):
 bg σ (W.put b (.cells ck)) w'.heap/\eF σ W w σ (W.put b (.cells ck)) w':=by
 refine h.UN hb (λ_=>by simp) (λ_=>by simp) hg qY Uh TI Bs jG hc xC pS vz ?_
 ·obtain⟨c0,t0,fr0,h1,h0,h2,h3,h4⟩:=h.obj b _ g hb hg;rw[hc]at h1;injection h1 with h1;injection h1 with h1 Ch;subst h1;exact⟨c',t,(0,0),xC,λ_=>rfl,eG,by omega,nM⟩
def bg.VL(h:bg σ W w.heap){b:Nat}{t0:ae}{cs ck:List ad}{g:vC}(hb:W.get b=some (.tc t0 cs))(hg:σ b=some g)
 (qY:w'.heap.size=w.heap.size)(Uh:w'.os=w.os)(TI:w'.tape=w.tape)(Bs:w'.output=w.output)
 (jG:∀B,B≠g.B->w'.heap[B]? =w.heap[B]?)
 {c c':Array ad}(hc:w.heap[g.B]? =some (.cells c t0 (0,0)))(xC:w'.heap[g.B]? =some (.cells c' t0 (0,0)))(pS:c'.size=c.size)
 (eG:ck.length=cs.length)
 (nM:∀(i:Nat) (v:ad),ck[i]? =some v->∃v',c'[i]? =some v'/\VR σ v v'):
 bg σ (W.put b (.tc t0 ck)) w'.heap/\eF σ W w σ (W.put b (.tc t0 ck)) w':=by
 obtain⟨a1,a2,a3,c0,h1,h2,h3,h4⟩:=h.obj b _ g hb hg;rw[hc]at h1;injection h1 with h1;injection h1 with h1 Ch;subst h1;refine h.UN hb (λ_=>by simp) (λ_=>by simp) hg qY Uh TI Bs jG hc xC pS (λi hi=>?_) ⟨a1,a2,⟨a3.1,λhx=>by rw[eG];exact a3.2 hx⟩,c',xC,by omega,by omega,nM⟩;rw[vH (by omega),vH (by omega)]
def bg.setObj(h:bg σ W w.heap){b:Nat}{o o':db}{g:vC}{x:oz}(hb:W.get b=some o)(qg:∀cs,o≠ .ro cs)(hg:σ b=some g)(wu:g.s=0/\g.e=1)
 (Xr:∀c t fr,w.heap[g.B]? ≠some (.cells c t fr))
 (xd:mf σ (w.heap.setIfInBounds g.B x) g o')(KS:∀cs,o'≠ .ro cs:=by intro _ hx;cases hx):
 bg σ (W.put b o') (w.heap.setIfInBounds g.B x)/\eF σ W w σ (W.put b o') {w with heap:=w.heap.setIfInBounds g.B x}:=by
 refine h.Qo (w':={w with heap:=w.heap.setIfInBounds g.B x}) hb qg KS hg (by simp) rfl rfl rfl (λB hB=>?_) xd ?_
 ·simp only[CX];rw[ap (aV hB)]
 ·intro b2 o2 g2 _ _ _ hB hd fb;exfalso;cases o2 with
  |cells DK=>obtain⟨c0,t0,fr0,e1,_⟩:=fb;rw[hB]at e1;exact Xr _ _ _ e1
  |ro DK=>obtain⟨c0,t0,fr,e1,_⟩:=fb;rw[hB]at e1;exact Xr _ _ _ e1
  |map es kH=>obtain⟨_,_,_⟩:=fb;omega
  |loop st mZ R nt ps ats bd=>obtain⟨_,_,_⟩:=fb;omega
  |mW s pos=>obtain⟨_,_,_⟩:=fb;omega
  |tc t2 DK=>obtain⟨_,_,_,c0,e1,_⟩:=fb;rw[hB]at e1;exact Xr _ _ _ e1
def bP(σ:cI)(b:Nat)(g:vC):cI:=λc=>if c=b then some g else σ c
def dd{b:Nat}{g:vC}(hb:σ b=none):Sub σ (bP σ b g):=λc k hc=>by
 unfold bP;split
 ·rename_i e;subst e;rw[hb]at hc;cases hc
 ·exact hc
def cZ{b:Nat}{g:vC}:bP σ b g b=some g:=by simp[bP]
def bg.fresh(h:bg σ W w.heap):σ W.next=none:=by
 cases hk:σ W.next with
 |none=>rfl
 |some g=>have:=(h.m8 _ _ hk).1;omega
def bg.alloc(h:bg σ W w.heap){o:db}{x:oz}{e:Nat}
 (xd:mf (bP σ W.next ⟨w.heap.size,0,e⟩) (w.heap.push x) ⟨w.heap.size,0,e⟩ o)(qg:∀cs,o≠ .ro cs:=by intro _ hx;cases hx):
 bg (bP σ W.next ⟨w.heap.size,0,e⟩) (W.add o) (w.heap.push x)/\eF σ W w (bP σ W.next ⟨w.heap.size,0,e⟩) (W.add o) {w with heap:=w.heap.push x}:=by
 have Ap:=h.fresh;have hs:Sub σ (bP σ W.next ⟨w.heap.size,0,e⟩):=dd Ap;have fb:∀B,B<w.heap.size->(w.heap.push x)[B]? =w.heap[B]? :=λB hB=>by rw[sN];rw[bK]
 have ee:∀{c:Nat},c≠W.next->(W.add o).get c=W.get c:=λhc=>W.aD _ (aV hc)
 have pk:∀c g,bP σ W.next ⟨w.heap.size,0,e⟩ c=some g->(c=W.next/\g=⟨w.heap.size,0,e⟩)\/(c≠W.next/\σ c=some g):=λc g hc=>by
  unfold bP at hc;split at hc
  ·rename_i hx;injection hc with hc;exact .inl ⟨hx,hc.symm⟩
  ·rename_i hx;exact .inr ⟨hx,hc⟩
 refine⟨⟨?_,?_,?_,?_⟩,⟨hs,?_,?_,rfl,rfl,rfl,?_,?_,?_⟩⟩
 ·intro c hc;have xC:W.next+1<=c:=hc;rw[ee (by omega)];exact h.free c (by omega)
 ·intro c g hc;rcases pk c g hc with⟨rfl,rfl⟩|⟨_,h2⟩
  ·simp[AW.ar]
  ·have:=h.m8 c g h2;simp[AW.ar];omega
 ·intro c o2 g hc hk;rcases pk c g hk with⟨rfl,rfl⟩|⟨h1,h2⟩
  ·rw[AW.aH]at hc;injection hc with hc;subst hc;exact xd
  ·rw[ee h1]at hc;exact((h.obj c o2 g hc h2).mono hs).same (fb _ (h.m8 c g h2).2)
 ·intro b1 b2 o1 o2 g1 g2 Mk h1 h2 k1 k2 hr;rcases pk b1 g1 k1 with⟨rfl,rfl⟩|⟨x1,y1⟩
  ·rcases pk b2 g2 k2 with⟨rfl,rfl⟩|⟨x2,y2⟩
   ·exact absurd rfl Mk
   ·have:=(h.m8 _ _ y2).2;exact .inl (by simp only[ne_eq];omega)
  ·rcases pk b2 g2 k2 with⟨rfl,rfl⟩|⟨x2,y2⟩
   ·have:=(h.m8 _ _ y1).2;exact .inl (by simp only[ne_eq];omega)
   ·rw[ee x1]at h1;rw[ee x2]at h2;exact h.qK _ _ _ _ _ _ Mk h1 h2 y1 y2 hr
 ·intro b cs hb;by_cases hx:b=W.next
  ·subst hx;rw[h.free _ (aM _)]at hb;cases hb
  ·rw[ee hx];exact hb
 ·simp
 ·intro B hB _;exact fb B hB
 ·intro c o2 hc hk;have hcn:c≠W.next:=λe=>by subst e;rw[h.free _ (aM _)]at hc;cases hc
  refine⟨by rw[ee hcn];exact hc,?_⟩;unfold bP;rw[ap hcn];exact hk
 ·intro c g hk hB;rcases pk c g hk with⟨rfl,rfl⟩|⟨h1,h2⟩
  ·simp at hB
  ·exact .inl h2
end
end
section
variable [ah]
def cP(B o j:Nat):(⟨B,o,none⟩:aP).add j=⟨B,o+j,none⟩:=by
 unfold Addr.add;split
 ·rename_i h;subst h;rfl
 ·rfl
def pg(a:aP)(j:Nat)(h:a.spot=none):(a.add j).spot=none:=by unfold Addr.add;split<;>simp[h]
def gt(a:aP)(j:Nat):(a.add j).block=a.block:=by unfold Addr.add;split<;>rfl
def pP(a:aP)(j:Nat):(a.add j).off=a.off+j:=by
 unfold Addr.add;split
 ·rename_i h;subst h;rfl
 ·rfl
def QT(P:ag)(t:ae):Option Bool:=(P.underlying t).map λd=>match d with|.struct _|.array .. =>true|_=>false
def kQ(P:ag)(t:ae):Option Nat:=(P.info? t).map (·.size)
def Bb{P:ag}{t:ae}{n:Nat}(h:kQ P t=some n):∃i,P.info? t=some i/\i.size=n/\P.cellsOf t=n:=by
 unfold kQ at h;cases hi:P.info? t with
 |none=>rw[hi]at h;cases h
 |some i=>rw[hi]at h;simp at h;exact⟨i,rfl,h,by simp[Program.cellsOf,hi,h]⟩
def bD{P:ag}{t:ae}{n:Nat}(h:kQ P t=some n)(w:am):(sizeOf t).run P w=.ok n w:=by
 obtain⟨i,hi,_,h3⟩:=Bb h;have:(sizeOf t).run P w=.ok (P.cellsOf t) w:=by simp[sizeOf,typeInfo,hi,Program.cellsOf]
 rw[this,h3]
def ti{P:ag}{t:ae}{b:Bool}(h:QT P t=some b)(w:am):(isAgg t).run P w=.ok b w:=by
 unfold QT at h;cases hu:P.underlying t with
 |none=>rw[hu]at h;cases h
 |some d=>rw[hu]at h;simp only[cF,gK]at h;subst h;cases d<;>simp[isAgg,bH hu]
def aC(W:AW)(b:Nat):Option (List ad):=match W.get b with|some (.cells cs)=>some cs|some (.ro cs)=>some cs|some (.tc _ cs)=>some cs|_=>none
section
variable {P:ag} {σ:cI} {W:AW} {w:am}
def zr(h:bg σ W w.heap){b:Nat}{cs:List ad}{g:vC}(hc:aC W b=some cs)(hg:σ b=some g){i:Nat}{v:ad}(hv:cs[i]? =some v):
 ∃v',w.cell? ⟨g.B,g.s+i,none⟩=some v'/\VR σ v v':=by
 unfold aC at hc;split at hc
 ·rename_i ck di;injection hc with hc;subst hc;obtain⟨c,t,fr,h1,h0,h2,h3,h4⟩:=h.obj b _ g di hg;obtain⟨v',f1,f2⟩:=h4 i v hv;exact⟨v',by simp[World.cell?,h1,f1],f2⟩
 ·rename_i ck di;injection hc with hc;subst hc;obtain⟨c,t,fr,h1,h2,h4⟩:=h.obj b _ g di hg;obtain⟨v',f1,f2⟩:=h4 i v hv;exact⟨v',by simp[World.cell?,h1,f1],f2⟩
 ·rename_i t ck di;injection hc with hc;subst hc;obtain⟨a1,a2,a3,c,h1,h2,h3,h4⟩:=h.obj b _ g di hg;obtain⟨v',f1,f2⟩:=h4 i v hv;exact⟨v',by simp[World.cell?,h1,a1,f1],f2⟩
 ·cases hc
def TX{α:Type}(l:List α):Nat->List α:=
 List.rec (motive:=λ_=>Nat->List α) (λ_=>[]) (λv t ih n=>Nat.rec (motive:=λ_=>List α) (v::t) (λm _=>ih m) n) l
def IT{α:Type}(l:List α):Nat->Option (List α):=
 List.rec (motive:=λ_=>Nat->Option (List α)) (λn=>Nat.rec (motive:=λ_=>Option (List α)) (some []) (λ_ _=>none) n)
  (λv _ ih n=>Nat.rec (motive:=λ_=>Option (List α)) (some []) (λm _=>Option.rec (motive:=λ_=>Option (List α)) none (λr=>some (v::r)) (ih m)) n) l
def WW{α:Type}(l:List α):∀n,TX l n=l.drop n:=by
 induction l with
 |nil=>intro n;simp[TX]
 |cons v l ih=>intro n;cases n with|zero=>rfl|succ n=>exact(ih n).trans (by simp)
def QG{α:Type}(l:List α):∀n,IT l n=if(l.take n).length=n then some (l.take n)else none:=by
 induction l with
 |nil=>intro n;cases n with|zero=>rfl|succ n=>simp[IT]
 |cons v l ih=>
  intro n;cases n with
  |zero=>rfl
  |succ n=>
   show Option.rec (motive:=λ_=>Option (List α)) none (λr=>some (v::r)) (IT l n)=_;rw[ih n];by_cases h:(l.take n).length=n
   ·rw[aq h,aq (by simp only[Iz,cG,h])];simp
   ·rw[ap h,ap (by simp only[Iz,cG];omega)]
def mm(W:AW)(b off n:Nat):Option (List ad):=
 match aC W b with
 |some cs=>IT (TX cs off) n
 |none=>none
def iw(W:AW)(b off n:Nat):mm W b off n=match aC W b with
 |some cs=>let l:=(cs.drop off).take n;if l.length=n then some l else none
 |none=>none:=by
 unfold mm;cases aC W b with
 |none=>rfl
 |some cs=>simp only[WW,QG]
def Ay(h:bg σ W w.heap){b off n:Nat}{l:List ad}{g:vC}(hr:mm W b off n=some l)(hg:σ b=some g):
 ∃l',LR σ l l'/\l.length=n/\(∀j v,l'[j]? =some v->w.cell? ⟨g.B,g.s+off+j,none⟩=some v)/\(loadCells ⟨g.B,g.s+off,none⟩ n).run P w=.ok l'.toArray w:=by
 rw[iw]at hr;split at hr
 ·rename_i cs hc;simp only at hr;split at hr
  ·rename_i eG;injection hr with hr;have di:∀j v,l[j]? =some v->∃v',w.cell? ⟨g.B,g.s+off+j,none⟩=some v'/\VR σ v v':=by
    intro j v hj;rw[<-hr,lD]at hj;split at hj
    ·rw[qn]at hj;obtain⟨v',a,b⟩:=zr h hc hg hj;exact⟨v',by rw[i9];exact a,b⟩
    ·cases hj
   have hln:l.length=n:=by rw[<-hr];exact eG
   let f:Nat->ad:=λj=>(w.cell? ⟨g.B,g.s+off+j,none⟩).getD ak
   refine⟨(List.range n).map f,⟨by simp[hln],λj v v' a b=>?_⟩,hln,?_,?_⟩
   ·have hj:j<n:=by rw[<-hln];exact(cn.1 a).1
    obtain⟨u,h1,h2⟩:=di j v a;simp[hj,f,h1]at b;subst b;exact h2
   ·intro j v hj;have hjn:j<n:=by have:=(cn.1 hj).1;simpa using this
    obtain⟨u,h1,h2⟩:=di j l[j] (bS (by omega));simp[hjn,f,h1]at hj;subst hj;exact h1
   ·have:=run_loadCells (P:=P) w ⟨g.B,g.s+off,none⟩ n f (λj hj=>by rw[cP];obtain⟨u,h1,h2⟩:=di j l[j] (bS (by omega));simp[f,h1]);exact this
  ·cases hr
 ·cases hr
def ju(P:ag)(W:AW)(t:ae)(x:ad):Option ad:=
 match x with
 |.pointer (some a)=>match QT P t with
  |some false=>match aC W a.block with
   |some cs=>YZ cs a.off
   |none=>none
  |some true=>match kQ P t with
   |some n=>(mm W a.block a.off n).map λl=>.agg l.toArray
   |none=>none
  |none=>none
 |_=>none
def Hb(h:bg σ W w.heap){t:ae}{x x' v:ad}(ha:ju P W t x=some v)(hx:VR σ x x'):
 ∃v',(Instr.loadAt t x').run P w=.ok v' w/\VR σ v v':=by
 unfold ju at ha;split at ha
 ·rename_i a;cases hx with
  |ptr a g hg hs=>
   split at ha
   ·rename_i adl;split at ha
    ·rename_i cs hc;rw[Ie]at ha;obtain⟨v',h1,h2⟩:=zr h hc hg ha;exact⟨v',by simp[Instr.loadAt,Instr.sureAddr,loadVar,ti adl,h1],h2⟩
    ·cases ha
   ·rename_i adl;split at ha
    ·rename_i n hn;cases hr:mm W a.block a.off n with
     |none=>rw[hr]at ha;cases ha
     |some l=>rw[hr]at ha;simp only[cF,gK]at ha;subst ha;obtain⟨l',h1,_,_,h3⟩:=Ay (P:=P) h hr hg;exact⟨.agg l'.toArray,by simp[Instr.loadAt,Instr.sureAddr,loadVar,ti adl,bD hn,h3],VR.Nz (by simpa using h1)⟩
    ·cases ha
   ·cases ha
 ·cases ha
def one(v:ad):Bool:=v.oneCell'
def adY{v v':ad}(h:VR σ v v'):one v'=one v:=by cases h<;>rfl
def Dh{l l':List ad}(h:LR σ l l')(ha:l.all one=true):∀v∈l',v.oneCell'=true:=by
 intro v hv;obtain⟨i,hi⟩:=List.getElem?_of_mem hv;have hil:i<l.length:=by rw[h.1];exact(cn.1 hi).1
 have:=h.2 i l[i] v (bS hil) hi;rw[show v.oneCell'=one v from rfl,adY this];exact cw.1 ha _ (ez hil)
def fN(cs:List ad)(off:Nat)(vs:List ad):List ad:=cs.take off++vs++cs.drop (off+vs.length)
def abJ:ad->Bool:=
 Value.rec (motive_1:=λ_=>Bool) (motive_2:=λ_=>PUnit) (motive_3:=λ_=>PUnit) (λ_=>true) (λ_ _=>true) (λ_ _=>true) (λ_ _ _=>true) (λ_=>true) (λ_=>true) (λ_ _ _=>true) (λ_=>true) (λ_=>true) (λ_ _ _ _ _=>true) true (λ_ _ _=>true) true (λ_ _=>false) (λ_ _=>false) (λ_ _=>.unit) .unit (λ_ _ _ _=>.unit)
def Y7(v:ad):abJ v=one v:=by cases v<;>rfl
def B4(vs:List ad):List ad->Option (List ad):=
 List.rec (motive:=λ_=>List ad->Option (List ad)) (λcs=>some cs)
  (λv _ ih cs=>List.rec (motive:=λ_=>Option (List ad)) none (λ_ t _=>Bool.rec (motive:=λ_=>Option (List ad)) none (Option.rec (motive:=λ_=>Option (List ad)) none (λr=>some (v::r)) (ih t)) (abJ v)) cs) vs
def LQ(vs:List ad):∀cs,B4 vs cs=if vs.length<=cs.length/\vs.all one=true then some (vs++cs.drop vs.length)else none:=by
 induction vs with
 |nil=>intro cs;simp[B4]
 |cons v vs ih=>
  intro cs;cases cs with
  |nil=>simp[B4]
  |cons c t=>
   show Bool.rec (motive:=λ_=>Option (List ad)) none (Option.rec (motive:=λ_=>Option (List ad)) none (λr=>some (v::r)) (B4 vs t)) (abJ v)=_;rw[ih t,Y7];cases h1:one v with
   |false=>simp[h1]
   |true=>
    by_cases h:vs.length<=t.length/\vs.all one=true
    ·rw[aq h,aq (by simp only[cG,eK,h1,h.2];exact⟨by omega,rfl⟩)];simp
    ·rw[ap h,ap (by simp only[cG,eK,h1,np];exactλk=>h ⟨by omega,k.2⟩)]
def El(cs:List ad):Nat->List ad->Option (List ad):=
 List.rec (motive:=λ_=>Nat->List ad->Option (List ad)) (λn vs=>Nat.rec (motive:=λ_=>Option (List ad)) (B4 vs []) (λ_ _=>none) n)
  (λc t ih n vs=>Nat.rec (motive:=λ_=>Option (List ad)) (B4 vs (c::t)) (λm _=>Option.rec (motive:=λ_=>Option (List ad)) none (λr=>some (c::r)) (ih m vs)) n) cs
def Ax(cs:List ad):∀(off:Nat) (vs:List ad),El cs off vs=if off+vs.length<=cs.length/\vs.all one=true then some (fN cs off vs)else none:=by
 induction cs with
 |nil=>
  intro off vs;cases off with
  |zero=>show B4 vs []=_;rw[LQ];simp[fN]
  |succ n=>show(none:Option (List ad))=_;rw[ap (by simp)]
 |cons c t ih=>
  intro off vs;cases off with
  |zero=>show B4 vs (c::t)=_;rw[LQ];simp[fN]
  |succ n=>
   show Option.rec (motive:=λ_=>Option (List ad)) none (λr=>some (c::r)) (El t n vs)=_;rw[ih n vs];have e:n+1+vs.length=(n+vs.length)+1:=by omega
   by_cases h:n+vs.length<=t.length/\vs.all one=true
   ·rw[aq h,aq ⟨by simp only[cG];omega,h.2⟩];simp[fN,e]
   ·rw[ap h,ap (by simp only[cG];exactλk=>h ⟨by omega,k.2⟩)]
def nI(W:AW)(b off:Nat)(vs:List ad):Option AW:=
 match W.get b with
 |some (.cells cs)=>(match El cs off vs with
  |some l=>some (W.put b (.cells l))
  |none=>none)
 |some (.tc t cs)=>(match El cs off vs with
  |some l=>some (W.put b (.tc t l))
  |none=>none)
 |_=>none
def MU(W:AW)(b off:Nat)(vs:List ad):nI W b off vs=match W.get b with
 |some (.cells cs)=>if off+vs.length<=cs.length/\vs.all one=true then some (W.put b (.cells (fN cs off vs)))else none
 |some (.tc t cs)=>if off+vs.length<=cs.length/\vs.all one=true then some (W.put b (.tc t (fN cs off vs)))else none
 |_=>none:=by
 unfold nI;split
 ·rename_i cs pS;rw[Ax];by_cases h:off+vs.length<=cs.length/\vs.all one=true
  ·rw[aq h,aq h]
  ·rw[ap h,ap h]
 ·rename_i t cs pS;rw[Ax];by_cases h:off+vs.length<=cs.length/\vs.all one=true
  ·rw[aq h,aq h]
  ·rw[ap h,ap h]
 ·rfl
def ly(c:List ad)(o:Nat)(vs:List ad)(h:o+vs.length<=c.length)(i:Nat):
 (c.take o++vs++c.drop (o+vs.length))[i]? =if o<=i/\i<o+vs.length then vs[i-o]? else c[i]? :=by
 rw[mA,rX];simp only[fu];have hm:min o c.length=o:=by omega
 rw[hm];split
 ·rename_i h1;rw[lD,aq h1,bK]
 ·rename_i h1;rw[rX];split
  ·rename_i h2;rw[kE]
  ·rename_i h2;rw[bK,qn];congr 1;omega
def i7(w:am)(g B:Nat)(c:Array ad)(h:B≠g):(w.setRow g c).heap[B]? =w.heap[B]? :=by simp only[World.setRow,uZ];rw[ap (aV h)]
def sM(h:bg σ W w.heap){b off:Nat}{vs EG:List ad}{W':AW}{g:vC}(hw:nI W b off vs=some W')(hg:σ b=some g)(hv:LR σ vs EG):
 ∃w',(storeCells ⟨g.B,g.s+off,none⟩ EG).run P w=.ok () w'/\bg σ W' w'.heap/\eF σ W w σ W' w':=by
 rw[MU]at hw;split at hw
 ·rename_i cs di;split at hw
  ·rename_i qS;injection hw with hw;obtain⟨eG,CA⟩:=qS;obtain⟨c,t,fr,h1,h0,h2,h3,h4⟩:=h.obj b _ g di hg;have hvl:=hv.1;by_cases Si:g.s<g.e;case neg=>
    have Q2:EG=[]:=uy (by omega);have al6:vs=[]:=uy (by omega);have alY:cs=[]:=uy (by omega);subst Q2;subst al6;subst alY;have Eo:off=0:=by simpa using eG
    subst Eo;refine⟨w,by simp[storeCells],?_⟩;rw[<-hw];have akt:fN ([]:List ad) 0 []=[]:=rfl;rw[akt];refine h.Qo di (λ_=>by simp) (λ_=>by simp) hg rfl rfl rfl rfl (λ_ _=>rfl) ⟨c,t,fr,h1,h0,h2,h3,h4⟩ (λ_ _ _ _ _ _ _ _ k=>k)
   obtain rfl:=h0 Si;have uk:=De (P:=P) g.B (g.s+off) t EG 0 c w h1 (by omega) (Dh hv CA);simp only[fY]at uk;refine⟨_,uk,?_⟩;rw[<-hw];have Cq:=ly c.toList (g.s+off) EG (by simp;omega);refine h.write (ck:=fN cs off vs) di hg (by simp[World.setRow]) rfl rfl rfl (λB hB=>i7 w g.B B _ hB) h1 (rP w g.B c _ t _ h1) (by simp;omega) ?_ ?_ ?_
   ·intro i hi;have:=Cq i;rw[bK]at this;simpa using this
   ·simp[fN];omega
   ·intro i v VJ;have hsg:=ly cs off vs eG i;rw[show fN cs off vs=cs.take off++vs++cs.drop (off+vs.length)from rfl,hsg]at VJ;have zA:=Cq (g.s+i);by_cases nM:off<=i/\i<off+vs.length
    ·rw[aq nM]at VJ;rw[kE]at zA;obtain⟨v',f1,f2⟩:=hv.get VJ;refine⟨v',?_,f2⟩;rw[show g.s+i-(g.s+off)=i-off by omega]at zA;rw[<-f1];simpa using zA
    ·rw[ap nM]at VJ;rw[bK]at zA;obtain⟨v',f1,f2⟩:=h4 i v VJ;exact⟨v',by rw[<-f1];simpa using zA,f2⟩
  ·cases hw
 ·rename_i t cs di;split at hw
  ·rename_i qS;injection hw with hw;obtain⟨eG,CA⟩:=qS;obtain⟨a1,a2,a3,c,h1,h2,h3,h4⟩:=h.obj b _ g di hg;have hvl:=hv.1;have uk:=De (P:=P) g.B (g.s+off) t EG 0 c w h1 (by omega) (Dh hv CA);simp only[fY]at uk;refine⟨_,uk,?_⟩;rw[<-hw];have Cq:=ly c.toList (g.s+off) EG (by simp;omega);refine h.VL (ck:=fN cs off vs) di hg (by simp[World.setRow]) rfl rfl rfl (λB hB=>i7 w g.B B _ hB) h1 (rP w g.B c _ t _ h1) (by simp;omega) ?_ ?_
   ·simp[fN];omega
   ·intro i v VJ;have hsg:=ly cs off vs eG i;rw[show fN cs off vs=cs.take off++vs++cs.drop (off+vs.length)from rfl,hsg]at VJ;have zA:=Cq i;by_cases nM:off<=i/\i<off+vs.length
    ·rw[aq nM]at VJ;rw[kE]at zA;obtain⟨v',f1,f2⟩:=hv.get VJ;refine⟨v',?_,f2⟩;rw[show i-(g.s+off)=i-off by omega]at zA;rw[<-f1];simpa using zA
    ·rw[ap nM]at VJ;rw[bK]at zA;obtain⟨v',f1,f2⟩:=h4 i v VJ;exact⟨v',by rw[<-f1];simpa using zA,f2⟩
  ·cases hw
 ·cases hw
def xI(P:ag)(W:AW)(t:ae)(x v:ad):Option AW:=
 match x with
 |.pointer (some a)=>match kQ P t with
  |some n=>if v.cells.size=n then nI W a.block a.off v.cells.toList else none
  |none=>none
 |_=>none
def M7(h:bg σ W w.heap){t:ae}{x x' v v':ad}{W':AW}(ha:xI P W t x v=some W')(hx:VR σ x x')(hv:VR σ v v'):
 ∃w',(Instr.storeAt t x' v').run P w=.ok () w'/\bg σ W' w'.heap/\eF σ W w σ W' w':=by
 unfold xI at ha;split at ha
 ·rename_i a;cases hx with
  |ptr a g hg hs=>
   split at ha
   ·rename_i n hn;split at ha
    ·rename_i qY;obtain⟨w',h1,h2⟩:=sM (P:=P) h ha hg hv.cells;have amV:v'.cells.size=n:=by have:=hv.cells.1;simp at this;omega
     exact⟨w',by simp[Instr.storeAt,Instr.sureAddr,storeVar,bD hn,amV,h1],h2⟩
    ·cases ha
   ·cases ha
 ·cases ha
def yf(h:bg σ W w.heap)(t:ae){cs ck:List ad}(hc:LR σ cs ck):
 (newRow t ck.toArray).run P w=.ok ⟨w.heap.size,0,none⟩ {w with heap:=w.heap.push (.cells ck.toArray t)}/\
 bP σ W.next ⟨w.heap.size,0,cs.length⟩ W.next=some ⟨w.heap.size,0,cs.length⟩/\
 bg (bP σ W.next ⟨w.heap.size,0,cs.length⟩) (W.add (.cells cs)) (w.heap.push (.cells ck.toArray t))/\
 eF σ W w (bP σ W.next ⟨w.heap.size,0,cs.length⟩) (W.add (.cells cs)) {w with heap:=w.heap.push (.cells ck.toArray t)}:=by
 refine⟨by simp[newRow],cZ,h.alloc ?_⟩;refine⟨ck.toArray,t,(0,0),by simp,λ_=>rfl,by simp,by simp[hc.1],λi v hv=>?_⟩;obtain⟨v',a,b⟩:=hc.get hv;exact⟨v',by simpa using a,b.mono (dd h.fresh)⟩
def bg.kill(h:bg σ W w.heap){b:Nat}{g0:vC}(hb:∀cs,W.get b≠some (.ro cs))(hg0:σ b=some g0):bg σ (W.kill b) w.heap/\eF σ W w σ (W.kill b) w:=by
 have hk:∀c o,(W.kill b).get c=some o->c≠b/\W.get c=some o:=λc o hc=>by
  by_cases hx:c=b
  ·subst hx;rw[AW.Ad]at hc;cases hc
  ·rw[AW.cE _ (aV hx)]at hc;exact⟨hx,hc⟩
 refine⟨⟨?_,h.m8,?_,?_⟩,⟨.refl _,?_,aM _,rfl,rfl,rfl,λ_ _ _=>rfl,?_,?_⟩⟩
 ·intro c hc;by_cases hx:c=b
  ·subst hx;exact AW.Ad _ _
  ·rw[AW.cE _ (aV hx)];exact h.free c hc
 ·intro c o g hc hg;exact h.obj c o g (hk c o hc).2 hg
 ·intro b1 b2 o1 o2 g1 g2 ee h1 h2 k1 k2 hr;exact h.qK b1 b2 o1 o2 g1 g2 ee (hk _ _ h1).2 (hk _ _ h2).2 k1 k2 hr
 ·intro c cs hc;have hx:c≠b:=λe=>by subst e;exact hb cs hc
  rw[AW.cE _ (aV hx)];exact hc
 ·intro c o2 hc hkn;have Jl:c≠b:=λe=>by subst e;rw[hg0]at hkn;cases hkn
  exact⟨by rw[AW.cE _ (aV Jl)];exact hc,hkn⟩
 ·exactλc g hg _=>.inl hg
end
end
section
variable [ah]
def bW(P:ag){α:Type}(s:Sem α):Option α:=
 Sem.rec (motive:=λ_=>Option α) (λa=>some a) (λ_ _ _ _=>none) (λ_ _ _ _ _=>none) (λ_ _ _=>none) (λ_ _ _=>none) (λ_ _ _ _=>none) (λ_ _ _=>none) (λ_ _ _=>none) (λ_ _ _ _=>none) (λ_ _ _=>none) (λ_ _ _=>none) (λ_ ih=>ih P) (λ_ _ _=>none) (λ_=>none) s
def pR{P:ag}{α:Type}(s:Sem α){a:α}(h:bW P s=some a)(w:am):s.run P w=.ok a w:=by
 induction s generalizing w with
 |pure b=>simp only[bW]at h;injection h with h;subst h;rfl
 |program k ih=>exact ih P h w
 |load m b k ih=>simp[bW]at h
 |store m b v k ih=>simp[bW]at h
 |new o k ih=>simp[bW]at h
 |shape r k ih=>simp[bW]at h
 |freeze b n k ih=>simp[bW]at h
 |frozen b k ih=>simp[bW]at h
 |getObj r k ih=>simp[bW]at h
 |setObj r o k ih=>simp[bW]at h
 |choose q k ih=>simp[bW]at h
 |sys c k ih=>simp[bW]at h
 |mark m k ih=>simp[bW]at h
 |halt x=>simp[bW]at h
def ax(R:ah.Fr)(o:an):ad:=
 match o with
 |.tmp t=>cL R t
 |.const v=>v
 |.global g=>.pointer (some ⟨g,0,none⟩)
 |.func f=>.func (.func f) #[] #[]
def G1{nt:Nat}{ng:List Nat}{σ:cI}{R:ah.Fr}{a:aU}(hR:dU nt σ R a.tmps)(hG:wV σ ng){o:an}(ho:oB nt ng o=true):VR σ (ax R o) (a.eval o):=by
 cases o with
 |tmp t=>exact hR.2 t (by simpa[oB]using ho)
 |const v=>exact g8 ho
 |global g=>obtain⟨e,he⟩:=hG g (sE.1 ho);have:=VR.ptr (σ:=σ) ⟨g,0,none⟩ _ he rfl;simpa[ax,Act.eval]using this
 |func f=>exact .func _ _ _ _ _ _ (.func f) rfl (λi v v' h=>by simp at h) rfl (λi v v' h=>by simp at h)
def yL:Option Next->Option ad
 |some (.value v)=>some v
 |_=>none
def wI:Op->Bool
 |.select .. =>false
 |_=>true
def jh(P:ag)(R:ah.Fr)(o:aj):Option ad:=
 if wI o.op&&o.op.operands.toList.all (λx=>bC (ax R x))then
  match yL (bW P (execOp (ax R) o))with
  |some v=>if bC v then some v else none
  |none=>none
 else none
def Sg{P:ag}{σ:cI}{R:ah.Fr}{ρ:an->ad}{o:aj}{v:ad}(h:jh P R o=some v)
 (hρ:∀x∈o.op.operands,VR σ (ax R x) (ρ x))(w:am):(execOp ρ o).run P w=.ok (.value v) w/\VR σ v v:=by
 unfold jh at h;split at h
 ·rename_i hc;simp only[a8,cw]at hc;obtain⟨hns,nQ⟩:=hc;have aft:execOp (ax R) o=execOp ρ o:=execOp_congr o (λcs b e=>by rw[e]at hns;simp[wI]at hns) (λx hx=>(fe (nQ x (by simpa using hx)) (hρ x hx)).symm);rw[aft]at h;split at h
  ·rename_i u hu;split at h
   ·rename_i hp;injection h with h;subst h;cases hr:bW P (execOp ρ o)with
    |none=>rw[hr]at hu;cases hu
    |some nx=>rw[hr]at hu;cases nx<;>first|(simp only[yL]at hu;injection hu with hu;subst hu;exact⟨pR _ hr w,g8 hp⟩)|(simp[yL]at hu)
   ·cases h
  ·cases h
 ·cases h
def AR(σ:cI)(a a':Array ad):Prop:=LR σ a.toList a'.toList
def AR.size{σ:cI}{a a':Array ad}(h:AR σ a a'):a.size=a'.size:=by have:=h.1;simpa using this
def AR.set{σ:cI}{a a':Array ad}(h:AR σ a a')(n:Nat){x x':ad}(hx:VR σ x x'):AR σ (a.setIfInBounds n x) (a'.setIfInBounds n x'):=by unfold AR;simp only[I8];exact LR.set h n hx
def Vv{σ:cI}(off:Nat):∀(l l':List ad) (k:Nat) (a a':Array ad),LR σ l l'->AR σ a a'->
 AR σ ((l.zipIdx k).foldl (λcs p=>cs.setIfInBounds (off+p.2) p.1) a) ((l'.zipIdx k).foldl (λcs p=>cs.setIfInBounds (off+p.2) p.1) a'):=by
 intro l;induction l with
 |nil=>intro l' k a a' h ha;have:=h.of_nil;subst this;exact ha
 |cons v l ih=>intro l' k a a' h ha;obtain⟨v',Xo,rfl,hv,hl⟩:=h.of_cons;simp only[List.zipIdx_cons,wF];exact ih Xo (k+1) _ _ hl (ha.set _ hv)
def PR(σ:cI)(ps ps':List (Nat×ad)):Prop:=ps.length=ps'.length/\∀(i:Nat) (p p':Nat×ad),ps[i]? =some p->ps'[i]? =some p'->p.1=p'.1/\VR σ p.2 p'.2
def PR.of_cons{σ:cI}{p:Nat×ad}{l m:List (Nat×ad)}(h:PR σ (p::l) m):∃v' l',m=(p.1,v')::l'/\VR σ p.2 v'/\PR σ l l':=by
 cases m with
 |nil=>have:=h.1;simp at this
 |cons q l'=>have h0:=h.2 0 p q (by simp) (by simp);refine⟨q.2,l',?_,h0.2,by have:=h.1;simpa using this,λi u u' a b=>h.2 (i+1) u u' (by simpa using a) (by simpa using b)⟩;rw[h0.1]
def yn{σ:cI}(oV:Nat->Option (Nat×Nat)):∀(ps ps':List (Nat×ad)) (a a' out:Array ad),PR σ ps ps'->AR σ a a'->Instr.fill oV a ps=some out->
 ∃qZ,Instr.fill oV a' ps'=some qZ/\AR σ out qZ:=by
 intro ps;induction ps with
 |nil=>
  intro ps' a a' out h ha hf;have:ps'=[]:=by have:=h.1;simp at this;exact uy this.symm
  subst this;simp only[Instr.fill]at hf|-;injection hf with hf;subst hf;exact⟨a',rfl,ha⟩
 |cons p ps ih=>
  intro ps' a a' out h ha hf;obtain⟨v',l',rfl,hv,hl⟩:=h.of_cons;obtain⟨i,v⟩:=p;simp only[Instr.fill]at hf|-;cases hp:oV i with
  |none=>rw[hp]at hf;cases hf
  |some os=>
   obtain⟨off,size⟩:=os;rw[hp]at hf;simp only at hf|-;have pS:v.cells.size=v'.cells.size:=by have:=hv.cells.1;simpa using this
   rw[<-pS,<-ha.size];split at hf
   ·cases hf
   ·rename_i qS;rw[ap qS];refine ih l' _ _ out hl ?_ hf;have:=Vv off v.cells.toList v'.cells.toList 0 a a' hv.cells ha;have e1:∀(u:ad) (b:Array ad),Array.foldl (λcs (x:ad×Nat)=>cs.setIfInBounds (off+x.2) x.1) b u.cells.zipIdx=(u.cells.toList.zipIdx 0).foldl (λcs p=>cs.setIfInBounds (off+p.2) p.1) b:=λu b=>by rw[<-Array.foldl_toList,Array.toList_zipIdx]
    rw[<-e1,<-e1]at this;exact this
section
variable {P:ag} {σ:cI} {W:AW} {w:am}
def iM(P:ag)(t:ae):Option ad:=match(P.info? t).bind (·.zero)with|some z=>if z.cells.toList.all bZ then some z else none|none=>none
def gf{t:ae}{z:ad}(h:iM P t=some z)(w:am):(zeroValue t).run P w=.ok z w/\z.cells.toList.all bZ=true:=by
 unfold iM at h;split at h
 ·rename_i z0 hz;split at h
  ·rename_i hs;injection h with h;subst h;cases hi:P.info? t with
   |none=>rw[hi]at hz;cases hz
   |some i=>rw[hi]at hz;simp only[bL]at hz;exact⟨by simp[zeroValue,typeInfo,hi,hz],hs⟩
  ·cases h
 ·cases h
def C5{z:ad}(h:z.cells.toList.all bZ=true):AR σ z.cells z.cells:=LR.mM (λ_=>eu) h
def parts(R:ah.Fr)(ps:Array (Nat×an)):List (Nat×ad):=ps.toList.map λp=>(p.1,ax R p.2)
def At{R:ah.Fr}{ρ:an->ad}(ps:Array (Nat×an))(h:∀p∈ps.toList,VR σ (ax R p.2) (ρ p.2)):
 PR σ (parts R ps) (ps.map λ(i,x)=>(i,ρ x)).toList:=by
 refine⟨by simp[parts],λi p p' a b=>?_⟩;simp only[parts,jH,Array.toList_map]at a b;cases hq:ps.toList[i]? with
 |none=>rw[hq]at a;cases a
 |some q=>rw[hq]at a b;simp at a b;subst a;subst b;exact⟨rfl,h q (qt hq)⟩
def rI(P:ag):List Field->Option (List (Nat×Nat))
 |[]=>some []
 |f::fs=>match kQ P f.type,rI P fs with
  |some n,some l=>some ((f.offset,n)::l)
  |_,_=>none
def Hz:∀(fs:List Field) (l:List (Nat×Nat)),rI P fs=some l->∀w,((fs.mapM λf=>do pure (f.offset,<-sizeOf f.type)):Sem (List (Nat×Nat))).run P w=.ok l w:=by
 intro fs;induction fs with
 |nil=>intro l h w;simp only[rI]at h;injection h with h;subst h;simp[List.mapM_nil]
 |cons f fs ih=>
  intro l h w;simp only[rI]at h;split at h
  ·rename_i n m hn hm;injection h with h;subst h;have h2:=ih m hm w;simp only[List.mapM_cons,b9,bD hn,bX,fq,h2]
  ·cases h
def BD(vs:List ad):List ad->Option (List ad):=
 List.rec (motive:=λ_=>List ad->Option (List ad)) (λcs=>some cs)
  (λv _ ih cs=>List.rec (motive:=λ_=>Option (List ad)) none (λ_ t _=>Option.rec (motive:=λ_=>Option (List ad)) none (λr=>some (v::r)) (ih t)) cs) vs
def KP(vs:List ad):∀cs,BD vs cs=if vs.length<=cs.length then some (vs++cs.drop vs.length)else none:=by
 induction vs with
 |nil=>intro cs;simp[BD]
 |cons v vs ih=>
  intro cs;cases cs with
  |nil=>simp[BD]
  |cons c t=>
   show Option.rec (motive:=λ_=>Option (List ad)) none (λr=>some (v::r)) (BD vs t)=_;rw[ih t];by_cases h:vs.length<=t.length
   ·rw[aq h,aq (by simp only[cG];omega)];simp
   ·rw[ap h,ap (by simp only[cG];omega)]
def HJ(cs:List ad):Nat->List ad->Option (List ad):=
 List.rec (motive:=λ_=>Nat->List ad->Option (List ad)) (λn vs=>Nat.rec (motive:=λ_=>Option (List ad)) (BD vs []) (λ_ _=>none) n)
  (λc t ih n vs=>Nat.rec (motive:=λ_=>Option (List ad)) (BD vs (c::t)) (λm _=>Option.rec (motive:=λ_=>Option (List ad)) none (λr=>some (c::r)) (ih m vs)) n) cs
def Oz(cs:List ad):∀(off:Nat) (vs:List ad),HJ cs off vs=if off+vs.length<=cs.length then some (fN cs off vs)else none:=by
 induction cs with
 |nil=>
  intro off vs;cases off with
  |zero=>show BD vs []=_;rw[KP];simp[fN]
  |succ n=>show(none:Option (List ad))=_;rw[ap (by simp)]
 |cons c t ih=>
  intro off vs;cases off with
  |zero=>show BD vs (c::t)=_;rw[KP];simp[fN]
  |succ n=>
   show Option.rec (motive:=λ_=>Option (List ad)) none (λr=>some (c::r)) (HJ t n vs)=_;rw[ih n vs];have e:n+1+vs.length=(n+vs.length)+1:=by omega
   by_cases h:n+vs.length<=t.length
   ·rw[aq h,aq (by simp only[cG];omega)];simp[fN,e]
   ·rw[ap h,ap (by simp only[cG];omega)]
def VC(cs:List ad)(o:Nat)(v:ad)(vs:List ad)(h:o+(vs.length+1)<=cs.length):fN (cs.set o v) (o+1) vs=fN cs o (v::vs):=by
 unfold fN;apply vw;intro i;rw[ly _ _ _ (by rw[sI];omega),ly _ _ _ (by simp only[cG];omega)];by_cases h1:i=o
 ·subst h1;rw[bK,aq (by simp only[cG];omega),n8];simp;omega
 ·by_cases h2:o+1<=i/\i<o+1+vs.length
  ·rw[aq h2,aq (by simp only[cG];omega)];obtain⟨k,rfl⟩:∃k,i=o+1+k:=⟨i-(o+1),by omega⟩;rw[show o+1+k-(o+1)=k by omega,show o+1+k-o=k+1 by omega,zm]
  ·rw[ap h2,ap (by simp only[cG];omega),n8,ap (λe=>h1 e.symm)]
def G6(off:Nat):∀(vs:List ad) (k:Nat) (cells:Array ad),off+k+vs.length<=cells.size->
 (List.foldl (λ(cs:Array ad) (p:ad×Nat)=>cs.setIfInBounds (off+p.2) p.1) cells (vs.zipIdx k)).toList=fN cells.toList (off+k) vs
 |[],k,cells,_=>by simp[fN]
 |v::vs,k,cells,h=>by rw[List.zipIdx_cons,wF,G6 off vs (k+1) _ (by simp only[Array.size_setIfInBounds];simp only[cG]at h;omega)];rw[I8];exact VC _ _ _ _ (by simp only[cG]at h;simp;omega)
def Gw(oV:Nat->Option (Nat×Nat)):List (Nat×ad)->List ad->Option (List ad)
 |[],cells=>some cells
 |(i,v)::iB,cells=>match oV i with
  |none=>none
  |some (off,size)=>match Nat.beq v.cells.size size with
   |true=>(match HJ cells off v.cells.toList with
    |some c=>Gw oV iB c
    |none=>none)
   |false=>none
def BY(oV:Nat->Option (Nat×Nat))(cells:Array ad)(l:List (Nat×ad)):Option (Array ad):=(Gw oV l cells.toList).map List.toArray
def E9(oV:Nat->Option (Nat×Nat)):∀(l:List (Nat×ad)) (cells:Array ad),BY oV cells l=Instr.fill oV cells l
 |[],cells=>by simp[BY,Gw,Instr.fill]
 |(i,v)::iB,cells=>by
  unfold Instr.fill;show(Gw oV ((i,v)::iB) cells.toList).map List.toArray=_;unfold Gw;cases oV i with
  |none=>rfl
  |some p=>
   obtain⟨off,size⟩:=p;simp only;by_cases hs:v.cells.size=size
   ·have hb:Nat.beq v.cells.size size=true:=by rw[dM];exact hs
    rw[hb];simp only;rw[Oz];by_cases hl:off+v.cells.size<=cells.size
    ·rw[aq (by simpa using hl),ap (by simp[hs];omega)];simp only;rw[<-E9 oV iB];show _=(Gw oV iB _).map List.toArray;congr 2;have hf:=G6 off v.cells.toList 0 cells (by simpa using hl);rw[fY]at hf;rw[<-hf,<-Array.foldl_toList,Array.toList_zipIdx]
    ·rw[ap (by simpa using hl),aq (by simp[hs];omega)];rfl
   ·have hb:Nat.beq v.cells.size size=false:=by
     cases hq:Nat.beq v.cells.size size with
     |false=>rfl
     |true=>exact absurd (wh hq) hs
    rw[hb,aq (by simp[hs])];rfl
def xH(P:ag)(R:ah.Fr)(t:ae)(ps:Array (Nat×an)):Option ad:=
 match iM P t,P.underlying t with
 |some z,some (.struct fs)=>match rI P fs.toList with
  |some pl=>(BY (pl.toArray[·]?) z.cells (parts R ps)).map .agg
  |none=>none
 |some z,some (.array _ e)=>match kQ P e with
  |some n=>(BY (λi=>some (i*n,n)) z.cells (parts R ps)).map .agg
  |none=>none
 |_,_=>none
def NN{R:ah.Fr}{ρ:an->ad}{t:ae}{ps:Array (Nat×an)}{v:ad}(h:xH P R t ps=some v)
 (hρ:∀p∈ps.toList,VR σ (ax R p.2) (ρ p.2))(w:am):
 ∃v',(Instr.build t (ps.map λ(i,x)=>(i,ρ x))).run P w=.ok v' w/\VR σ v v':=by
 have hp:=At (σ:=σ) (R:=R) (ρ:=ρ) ps hρ;unfold xH at h;simp only[E9]at h;split at h
 ·rename_i z fs hz hu;obtain⟨yk,An⟩:=gf hz w;split at h
  ·rename_i pl nQ;cases hf:Instr.fill (pl.toArray[·]?) z.cells (parts R ps)with
   |none=>rw[hf]at h;cases h
   |some out=>
    rw[hf]at h;simp only[cF,gK]at h;subst h;obtain⟨qZ,h1,h2⟩:=yn _ _ _ _ _ _ hp (C5 An) hf;have hm:=Hz fs.toList pl nQ w;refine⟨.agg qZ,?_,VR.Nz h2⟩;have hm':((fs.mapM λf=>do pure (f.offset,<-sizeOf f.type)):Sem (Array (Nat×Nat))).run P w=.ok pl.toArray w:=by rw[Array.mapM_eq_mapM_toList];simp only[Sem.run_map,hm,bX]
    simp only[Instr.build,b9,yk,bX,bH hu,hm',h1,fq]
  ·cases h
 ·rename_i z len e hz hu;obtain⟨yk,An⟩:=gf hz w;split at h
  ·rename_i n hn;cases hf:Instr.fill (λi=>some (i*n,n)) z.cells (parts R ps)with
   |none=>rw[hf]at h;cases h
   |some out=>rw[hf]at h;simp only[cF,gK]at h;subst h;obtain⟨qZ,h1,h2⟩:=yn _ _ _ _ _ _ hp (C5 An) hf;exact⟨.agg qZ,by simp only[Instr.build,b9,yk,bX,bH hu,bD hn,h1,fq],VR.Nz h2⟩
  ·cases h
 ·cases h
def Jb(z:ad)(n:Nat):Array ad:=(Array.range n).map (z.cells[· % z.cells.size]!)
def iP(z:ad)(n:Nat):Array ad:=if n=0 then#[]else Jb z n
def sC{z:ad}{n:Nat}(h:n=0):iP z n=#[]:=aq h
def vY{z:ad}{n:Nat}(h:n≠0):iP z n=Jb z n:=ap h
def nX(P:ag)(R:ah.Fr)(W:AW)(t:ae)(len:Nat)(ps:Array (Nat×an)):Option (ad×AW):=
 match P.underlying t with
 |some (.slice e)=>match kQ P e,iM P e with
  |some n,some z=>
   if len*n<=16777216/\len<dY/\(iP z (len*n)).toList.all bZ=true then
    match Instr.fill (λi=>some (i*n,n)) (iP z (len*n)) (parts R ps)with
    |some c=>some (W.new (.cells c.toList) λb W'=>(Value.slice (some ⟨b,0,none⟩) len len,W'))
    |none=>none
   else none
  |_,_=>none
 |_=>none
def tZ(cs:List ad)(len:Nat):List ad:=Nat.rec (motive:=λ_=>List ad) [] (λ_ ih=>cs++ih) len
def Lq(cs:List ad):∀(len i:Nat),i<len*cs.length->(tZ cs len)[i]? =cs[i % cs.length]?
 |0,i,h=>by simp at h
 |len+1,i,h=>by
  show(cs++tZ cs len)[i]? =_;by_cases hi:i<cs.length
  ·rw[C1 hi,Nat.mod_eq_of_lt hi]
  ·have h1:len*cs.length+cs.length=(len+1)*cs.length:=by rw[gZ,iI]
   rw[qG (by omega),Lq cs len (i-cs.length) (by omega)];congr 1;have h2:i=(i-cs.length)+cs.length:=by omega
   generalize i-cs.length=j at h2;rw[h2,Nat.add_mod_right]
def uG(cs:List ad):∀len,(tZ cs len).length=len*cs.length
 |0=>by show([]:List ad).length=_;simp
 |len+1=>by show(cs++tZ cs len).length=_;rw[cT,uG cs len,gZ,iI,Nat.add_comm]
def rJ(cs:List ad)(p:ad->Bool)(h:cs.all p=true):∀len,(tZ cs len).all p=true
 |0=>rfl
 |len+1=>by show(cs++tZ cs len).all p=true;rw[List.all_append,h,rJ cs p h len];rfl
def vK{z:ad}{len n:Nat}(hn:z.cells.size=n):iP z (len*n)=(tZ z.cells.toList len).toArray:=by
 have hl:z.cells.toList.length=n:=by simpa using hn
 apply Array.ext';apply vw;intro i;unfold iP;split
 ·rename_i h0;have:(tZ z.cells.toList len).length=0:=by rw[uG,hl,h0]
  rw[mz.1 this]
 ·rename_i h0;by_cases hi:i<len*n
  ·have e1:(Jb z (len*n)).toList[i]? =some (z.cells[i % z.cells.size]!):=by simp[Jb,hi]
   have uj:0<n:=by
    rcases Nat.eq_zero_or_pos n with h|h
    ·subst h;simp at h0
    ·exact h
   have hm:i % n<z.cells.size:=by rw[hn];exact Nat.mod_lt _ uj
   rw[e1,C3,Lq _ _ _ (by rw[hl];exact hi),hl,hn];simp[hm]
  ·rw[iE (by simp[Jb];omega),C3,iE (by rw[uG,hl];omega)]
def kM(P:ag)(R:ah.Fr)(W:AW)(t:ae)(len:Nat)(ps:Array (Nat×an)):Option (ad×AW):=
 match P.underlying t with
 |some (.slice e)=>match kQ P e,iM P e with
  |some n,some z=>
   if len*n<=16777216/\len<dY/\(Nat.beq z.cells.size n&&z.cells.toList.all bZ)=true then
    match BY (λi=>some (i*n,n)) (tZ z.cells.toList len).toArray (parts R ps)with
    |some c=>some (W.new (.cells c.toList) λb W'=>(Value.slice (some ⟨b,0,none⟩) len len,W'))
    |none=>none
   else none
  |_,_=>none
 |_=>none
def tR{P:ag}{R:ah.Fr}{W:AW}{t:ae}{len:Nat}{ps:Array (Nat×an)}{r:ad×AW}(h:kM P R W t len ps=some r):nX P R W t len ps=some r:=by
 unfold kM at h;simp only[E9]at h;unfold nX;revert h;generalize P.underlying t=u;intro h;split at h
 ·rename_i e;revert h;generalize kQ P e=x;generalize iM P e=y;intro h;split at h
  ·rename_i n z;split at h
   ·rename_i hc;obtain⟨hc1,SR,Tz⟩:=hc;rw[a8,dM]at Tz;have SJ:=vK (len:=len) Tz.1;try simp only
    rw[SJ,aq ⟨hc1,SR,by rw[C3];exact rJ _ _ Tz.2 _⟩];exact h
   ·cases h
  ·cases h
 ·cases h
def Cv(hW:bg σ W w.heap){R:ah.Fr}{ρ:an->ad}{t:ae}{len:Nat}{ps:Array (Nat×an)}{v:ad}{W':AW}
 (h:kM P R W t len ps=some (v,W'))(hρ:∀p∈ps.toList,VR σ (ax R p.2) (ρ p.2)):
 ∃σ' v' w',(Instr.buildSlice t len (ps.map λ(i,x)=>(i,ρ x))).run P w=.ok v' w'/\VR σ' v v'/\bg σ' W' w'.heap/\eF σ W w σ' W' w':=by
 have hp:=At (σ:=σ) (R:=R) (ρ:=ρ) ps hρ;replace h:=tR h;unfold nX at h;split at h
 ·rename_i e hu;split at h
  ·rename_i n z hn hz;obtain⟨yk,An⟩:=gf hz w;split at h
   ·rename_i hc;obtain⟨hc1,SR,Tz⟩:=hc;split at h
    ·rename_i c hf;injection h with h;rw[AW.dm]at h;injection h with hv hw;obtain⟨qZ,h1,h2⟩:=yn _ _ _ _ _ _ hp (LR.mM (σ:=σ) (λ_=>eu) Tz) hf;have B1:=yf (P:=P) hW e (cs:=c.toList) (ck:=qZ.toList) h2;refine⟨_,.slice (some ⟨w.heap.size,0,none⟩) len len,{w with heap:=w.heap.push (.cells qZ.toList.toArray e)},?_,?_,by rw[<-hw];exact B1.2.2.1,by rw[<-hw];exact B1.2.2.2⟩
     ·show(Instr.buildSlice t len _).run P w=.ok (.slice (some ⟨w.heap.size,0,none⟩) len len) _;have T4:¬len*n>2^ 24:=by omega
      have IC:=B1.1;simp only[ie]at IC;by_cases h0:len*n=0
      ·rw[sC h0]at h1;simp only[Instr.buildSlice,b9,bH hu,bX,bD hn,ap T4,fq,aq h0];rw[show(Array.map (λx=>(#[]:Array ad)[x % (#[]:Array ad).size]!) (Array.range (len*n)))=#[]by rw[h0];simp,h1];simp[IC]
      ·rw[vY h0]at h1;simp only[Instr.buildSlice,b9,bH hu,bX,bD hn,ap T4,fq,ap h0,yk];rw[show(Array.map (λx=>z.cells[x % z.cells.size]!) (Array.range (len*n)))=Jb z (len*n)from rfl,h1];simp[IC]
     ·rw[<-hv];have:=VR.slice (σ:=bP σ W.next ⟨w.heap.size,0,c.toList.length⟩) ⟨W.next,0,none⟩ len len len _ B1.2.1 rfl (.known len SR);simpa using this
    ·cases h
   ·cases h
  ·cases h
 ·cases h
def mw(P:ag)(W:AW)(t:ae)(l c:ad):Option (ad×AW):=
 match P.underlying t with
 |some (.slice e)=>match kQ P e,iM P e,(P.info? e).map (·.bytes),l,c with
  |some n,some z,some bytes,.int _ (.ofNat l),.int _ (.ofNat c)=>
   if l<=c/\c<9223372036854775808/\c*bytes<=281474976710656/\(iP z (c*n)).toList.all bZ=true then
    some (W.new (.cells (iP z (c*n)).toList) λb W'=>(Value.slice (some ⟨b,0,none⟩) l c,W'))
   else none
  |_,_,_,_,_=>none
 |_=>none
def y5{n:Nat}(h:n<9223372036854775808):IntKind.i64.wrap (n:Int)=n:=by
 have e1:IntKind.i64.bits=64:=rfl;have e2:IntKind.i64.signed=true:=rfl;simp only[IntKind.wrap,e1,e2];have:(n:Int) % (2^ 64:Int)=n:=by omega
 rw[this];simp;omega
def ES(hW:bg σ W w.heap){t:ae}{l l' c c':ad}{v:ad}{W':AW}
 (h:mw P W t l c=some (v,W'))(hl:VR σ l l')(hc:VR σ c c'):
 ∃σ' v' w',(Instr.makeSlice t l' c').run P w=.ok v' w'/\VR σ' v v'/\bg σ' W' w'.heap/\eF σ W w σ' W' w':=by
 unfold mw at h;split at h
 ·rename_i e hu;split at h
  ·rename_i n z bytes kl l kc c hn hz hb;cases hl;cases hc;obtain⟨yk,An⟩:=gf hz w;split at h
   ·rename_i qS;obtain⟨c1,c2,c3,c4⟩:=qS;injection h with h;rw[AW.dm]at h;injection h with hv hw;have hi:∃i,P.info? e=some i/\i.bytes=bytes:=by
     cases hi:P.info? e with
     |none=>rw[hi]at hb;cases hb
     |some i=>rw[hi]at hb;simp at hb;exact⟨i,rfl,hb⟩
    obtain⟨i,hi,Xj⟩:=hi;have SJ:LR σ (iP z (c*n)).toList (iP z (c*n)).toList:=
     LR.mM (λ_=>eu) c4
    have B1:=yf (P:=P) hW e SJ;refine⟨_,.slice (some ⟨w.heap.size,0,none⟩) l c,{w with heap:=w.heap.push (.cells (iP z (c*n)).toList.toArray e)},?_,?_,by rw[<-hw];exact B1.2.2.1,by rw[<-hw];exact B1.2.2.2⟩
    ·show(Instr.makeSlice t _ _).run P w=.ok (.slice (some ⟨w.heap.size,0,none⟩) l c) _;have hwl:IntKind.i64.wrap (Int.ofNat l)=(l:Int):=y5 (by omega);have hwc:IntKind.i64.wrap (Int.ofNat c)=(c:Int):=y5 c2;have EV:(typeInfo e).run P w=.ok i w:=by simp[typeInfo,hi]
     have ahr:(bytes:Int)*(c:Int)<=281474976710656:=by
      have:((c*bytes:Nat):Int)<=281474976710656:=by omega
      rw[Int.natCast_mul,Int.mul_comm]at this;exact this
     have IC:=B1.1;simp only[ie]at IC;have Ol:¬(((decide ((c:Int)<0)||decide ((i.bytes:Int)*(c:Int)>2^ 48))||decide ((l:Int)<0)||decide ((l:Int)>(c:Int)))=true):=by rw[Xj];simp;omega
     simp only[Instr.makeSlice,b9,bH hu,bX,asInt,asIntOf,fq,EV,hwl,hwc];rw[ap (by simpa using Ol)];by_cases h0:c*n=0
     ·rw[sC h0]at IC|-;simp only[b9,run_askRoom,bX,sL,bD hn,aq h0,fq];rw[show(Array.map (λx=>(#[]:Array ad)[x % (#[]:Array ad).size]!) (Array.range (c*n)))=#[]by rw[h0];simp,IC];simp
     ·rw[vY h0]at IC|-;simp only[b9,run_askRoom,bX,sL,bD hn,ap h0,yk,fq];rw[show(Array.map (λx=>z.cells[x % z.cells.size]!) (Array.range (c*n)))=Jb z (c*n)from rfl,IC];simp
    ·rw[<-hv];have:=VR.slice (σ:=bP σ W.next ⟨w.heap.size,0,(iP z (c*n)).toList.length⟩) ⟨W.next,0,none⟩ l c c _ B1.2.1 rfl (.known c (by unfold dY;omega));simpa using this
   ·cases h
  ·cases h
 ·cases h
end
end
section
variable [ah]
def OR(σ:cI):Option ad->Option ad->Prop
 |none,none=>True
 |some v,some v'=>VR σ v v'
 |_,_=>False
def kK:ad->Option Nat
 |.int _ (.ofNat n)=>some n
 |_=>none
def fm(v:Option ad)(d:Nat):Option Nat:=match v with|none=>some d|some v=>kK v
def v8{σ:cI}{v v':ad}{n:Nat}(h:kK v=some n)(hv:VR σ v v'):∃k,v'=.int k (n:Int):=by
 unfold kK at h;split at h
 ·injection h with h;subst h;cases hv;exact⟨_,rfl⟩
 ·cases h
section
variable {P:ag} {σ:cI} {W:AW} {w:am}
def lE(k:aO)(n y:Nat)(vf:BoundsCode)(h:n<=y)(w:am):(Instr.sliceBound (.int k (n:Int)) y vf).run P w=.ok n w:=by
 have:0<=(n:Int)/\(n:Int)<=(y:Int):=by omega
 simp[Instr.sliceBound,asIntOf,this]
def nJ(sl:Bool)(len cap:Nat){lo hi mx X8 pb mx':Option ad}{l h m:Nat}(h1:OR σ lo X8)(h2:OR σ hi pb)(h3:OR σ mx mx')
 (hl:fm lo 0=some l)(hh:fm hi len=some h)(hm:fm mx cap=some m)(hmx:mx.isSome=true->hi.isSome=true)
 (a1:l<=h)(a2:hi.isSome=true->h<=m)(a3:m<=cap)(w:am):(Instr.sliceBounds sl len cap X8 pb mx').run P w=.ok (l,h,m) w:=by
 have one:∀{v v':Option ad} {d n:Nat},OR σ v v'->fm v d=some n->(v=none/\v'=none/\n=d)\/(v.isSome=true/\∃k,v'=some (.int k (n:Int))):=by
  intro v v' d n ho hb;cases v with
  |none=>cases v' with
   |none=>simp only[fm]at hb;injection hb with hb;exact .inl ⟨rfl,rfl,hb.symm⟩
   |some v'=>exact ho.elim
  |some v=>cases v' with
   |none=>exact ho.elim
   |some v'=>obtain⟨k,rfl⟩:=v8 hb ho;exact .inr ⟨rfl,k,rfl⟩
 have hA:∀k vf,(Instr.sliceBound (.int k (m:Int)) cap vf).run P w=.ok m w:=λk vf=>lE k m cap vf a3 w
 have hC:∀k vf,(Instr.sliceBound (.int k (l:Int)) h vf).run P w=.ok l w:=λk vf=>lE k l h vf a1 w
 rcases one h3 hm with⟨e1,rfl,e3⟩|⟨e1,k3,rfl⟩
 ·subst e3;rcases one h2 hh with⟨f1,rfl,f3⟩|⟨f1,k2,rfl⟩
  ·subst f3;rcases one h1 hl with⟨g1,rfl,g3⟩|⟨g1,k1,rfl⟩
   ·subst g3;simp[Instr.sliceBounds]
   ·simp[Instr.sliceBounds,hC]
  ·have hB:∀vf,(Instr.sliceBound (.int k2 (h:Int)) m vf).run P w=.ok h w:=λvf=>lE k2 h m vf (a2 f1) w
   rcases one h1 hl with⟨g1,rfl,g3⟩|⟨g1,k1,rfl⟩
   ·subst g3;simp[Instr.sliceBounds,hB]
   ·simp[Instr.sliceBounds,hB,hC]
 ·rcases one h2 hh with⟨f1,rfl,f3⟩|⟨f1,k2,rfl⟩
  ·subst f1;exact absurd (hmx e1) (by simp)
  ·have hB:∀vf,(Instr.sliceBound (.int k2 (h:Int)) m vf).run P w=.ok h w:=λvf=>lE k2 h m vf (a2 f1) w
   rcases one h1 hl with⟨g1,rfl,g3⟩|⟨g1,k1,rfl⟩
   ·subst g3;simp[Instr.sliceBounds,hA,hB]
   ·simp[Instr.sliceBounds,hA,hB,hC]
def mH(P:ag)(t:ae)(x:ad)(lo hi mx:Option ad):Option ad:=
 match P.underlying t,x with
 |some (.slice e),.slice (some a) len cap=>
  match kQ P e,fm lo 0,fm hi len with
  |some z,some l,some h=>
   if l<=h then
    match mx with
    |none=>
     if cap=dY+z/\0<z then(if h<=len then some (.slice (some (a.add (l*z))) (h-l) cap)else none)
     else if cap<dY/\h<=cap then some (.slice (some (if cap=l then a else a.add (l*z))) (h-l) (cap-l))else none
    |some mv=>match fm (some mv) 0 with
     |some m=>if hi.isSome=true/\h<=m/\m<dY/\((cap=dY+z/\0<z/\m<=len)\/(cap<dY/\m<=cap))then some (.slice (some (if m=l then a else a.add (l*z))) (h-l) (m-l))else none
     |none=>none
   else none
  |_,_,_=>none
 |some (.slice e),.slice none len cap=>
  match kQ P e,fm lo 0,fm hi len,mx with
  |some _,some l,some h,none=>if l<=h/\h<=cap then some (.slice none (h-l) (cap-l))else none
  |_,_,_,_=>none
 |some (.array n e),.pointer (some a)=>
  match kQ P e,fm lo 0,fm hi n,mx with
  |some z,some l,some h,none=>if l<=h/\h<=n/\n<dY then some (.slice (some (if n=l then a else a.add (l*z))) (h-l) (n-l))else none
  |_,_,_,_=>none
 |_,_=>none
def Gd.inv{g:vC}{off l c c':Nat}(h:Gd g off l c c'):(c<dY/\c'=c)\/∃z,0<z/\c=dY+z/\l<=c'/\g.s+off+c'*z=g.e:=by
 cases h with
 |known _ h=>exact .inl ⟨h,rfl⟩
 |open_ z _ hz hl h=>exact .inr ⟨z,hz,rfl,hl,h⟩
def Gd.max{g:vC}{off l c c':Nat}(h:Gd g off l c c'):c'<dY/\(dY<=c->c'<=maxLen):=by
 cases h with
 |known _ h=>exact⟨h,λx=>absurd x (by omega)⟩
 |open_ z _ hz hl h hb=>exact⟨by unfold maxLen at hb;unfold dY;omega,λ_=>hb⟩
def NT{t:ae}{x x' v:ad}{lo hi mx X8 pb mx':Option ad}(h:mH P t x lo hi mx=some v)(hx:VR σ x x')
 (h1:OR σ lo X8)(h2:OR σ hi pb)(h3:OR σ mx mx')(w:am):∃v',(Instr.sliceAt t x' X8 pb mx').run P w=.ok v' w/\VR σ v v':=by
 unfold mH at h;split at h
 ·rename_i e a len cap hu;split at h
  ·rename_i z l hh hz MI Nq;split at h
   ·rename_i hlh;have run:∀(A':Option aP) (xW m:Nat),fm mx xW=some m->(mx.isSome=true->hi.isSome=true)->(hi.isSome=true->hh<=m)->m<=xW->
     (Instr.sliceAt t (.slice A' len xW) X8 pb mx').run P w=.ok (.slice (if m=l then A' else A'.map (·.add (l*z))) (hh-l) (m-l)) w:=by
     intro A' xW m b1 b2 b3 b4;have hb:=nJ (P:=P) true len xW h1 h2 h3 MI Nq b1 b2 hlh b3 b4 w;simp only[Instr.sliceAt,b9,bH hu,bX,Instr.slice,hb,bD hz,fq]
    cases mx with
    |none=>
     simp only at h;split at h
     ·rename_i qQ;obtain⟨rfl,Sf⟩:=qQ;split at h
      ·rename_i aS;injection h with h;subst h;cases hx with
       |slice _ _ _ c' g hg hs hc=>
        rcases hc.inv with⟨hk,_⟩|⟨z',yk,ZO,Zi,xf⟩
        ·exact absurd hk (by omega)
        ·refine⟨_,run (some _) c' c' rfl (by simp) (λ_=>by omega) (aM _),?_⟩;by_cases Fe:c'=l
         ·subst Fe;have:hh-c'=0:=by omega
          rw[this,yl,aq rfl];exact .cX _ _ _ g (by simpa[gt]using hg) (.inr (by omega))
         ·rw[ap Fe];simp only[cF,cP];have amZ:z=z':=by omega
          subst amZ;have:=VR.slice (σ:=σ) (a.add (l*z)) (hh-l) (dY+z) (c'-l) g (by rw[gt];exact hg) (pg _ _ hs)
           (by rw[pP];refine .open_ z _ Sf (by omega) ?_ (eW (Nat.sub_le _ _) (hc.max.2 (by omega)));rw[Nat.sub_mul];have:l*z<=c'*z:=lU _ (by omega);omega)
          rw[pP]at this;simpa[i9]using this
       |cX _ a' _ g hg hc=>
        have Mg:hh=0:=by omega
        have hl1:l=0:=by omega
        subst Mg;subst hl1;refine⟨_,run (some a') 0 0 rfl (by simp) (λ_=>by omega) (aM _),?_⟩;simp only[ba];exact .cX _ _ _ g (by simpa[gt]using hg) (.inr (by omega))
      ·cases h
     ·split at h
      ·rename_i yi m5;injection h with h;subst h;cases hx with
       |slice _ _ _ c' g hg hs hc=>
        rcases hc.inv with⟨hk,rfl⟩|⟨z',yk,ZO,Zi,xf⟩
        ·refine⟨_,run (some _) c' c' rfl (by simp) (λ_=>m5.2) (aM _),?_⟩;by_cases Fe:c'=l
         ·subst Fe;simp only[ba];exact .slice a _ _ _ g hg hs (.known _ (by omega))
         ·rw[ap Fe,ap Fe];simp only[cF,cP];have:=VR.slice (σ:=σ) (a.add (l*z)) (hh-l) (c'-l) (c'-l) g (by rw[gt];exact hg) (pg _ _ hs) (.known _ (by omega));rw[pP]at this;simpa[i9]using this
        ·exact absurd m5.1 (by omega)
       |cX _ a' _ g hg hc=>
        have hc0:cap=0:=by omega
        subst hc0;have Mg:hh=0:=by omega
        have hl1:l=0:=by omega
        subst Mg;subst hl1;refine⟨_,run (some a') 0 0 rfl (by simp) (λ_=>by omega) (aM _),?_⟩;simp only[ba];exact .cX _ _ _ g (by simpa[gt]using hg) (.inl rfl)
      ·cases h
    |some mv=>
     simp only at h;split at h
     ·rename_i m hm;split at h
      ·rename_i qS;obtain⟨c1,c2,c3,c4⟩:=qS;injection h with h;subst h;cases hx with
       |slice _ _ _ c' g hg hs hc=>
        have hmc:m<=c':=by rcases hc.inv with⟨hk,_⟩|⟨z',yk,ZO,Zi,xf⟩<;>omega
        refine⟨_,run (some _) c' m hm (λ_=>c1) (λ_=>c2) hmc,?_⟩;by_cases Fe:m=l
        ·subst Fe;simp only[ba];exact .slice a _ _ _ g hg hs (.known _ (by omega))
        ·rw[ap Fe,ap Fe];simp only[cF,cP];have:=VR.slice (σ:=σ) (a.add (l*z)) (hh-l) (m-l) (m-l) g (by rw[gt];exact hg) (pg _ _ hs) (.known _ (by omega));rw[pP]at this;simpa[i9]using this
       |cX _ a' _ g hg hc=>
        have Ye:m=0:=by omega
        subst Ye;have Mg:hh=0:=by omega
        have hl1:l=0:=by omega
        subst Mg;subst hl1;refine⟨_,run (some a') 0 0 hm (λ_=>c1) (λ_=>by omega) (aM _),?_⟩;simp only[ba];exact .cX _ _ _ g (by simpa[gt]using hg) (.inl rfl)
      ·cases h
     ·cases h
   ·cases h
  ·cases h
 ·rename_i e len cap hu;split at h
  ·rename_i z l hh hz MI Nq;split at h
   ·rename_i hc;injection h with h;subst h;cases hx;have hb:=nJ (P:=P) (mx:=none) true len cap h1 h2 h3 MI Nq rfl (by simp) hc.1 (λ_=>hc.2) (aM _) w;refine⟨.slice none (hh-l) (cap-l),?_,.DO _ _⟩;simp only[Instr.sliceAt,b9,bH hu,bX,Instr.slice,hb,bD hz,fq];simp
   ·cases h
  ·cases h
 ·rename_i n e a hu;split at h
  ·rename_i z l hh hz MI Nq;split at h
   ·rename_i hc;injection h with h;subst h;cases hx with
    |ptr _ g hg hs=>
     have hb:=nJ (P:=P) (mx:=none) false n n h1 h2 h3 MI Nq rfl (by simp) hc.1 (λ_=>hc.2.1) (aM _) w;refine⟨.slice (some (if n=l then⟨g.B,g.s+a.off,none⟩else(⟨g.B,g.s+a.off,none⟩:aP).add (l*z))) (hh-l) (n-l),?_,?_⟩
     ·simp only[Instr.sliceAt,b9,bH hu,bX,Instr.sureAddr,fq,hb,bD hz]
     ·by_cases Fe:n=l
      ·subst Fe;simp only[ba];exact .slice a _ _ _ g hg hs (.known _ (by omega))
      ·rw[ap Fe,ap Fe];simp only[cP];have:=VR.slice (σ:=σ) (a.add (l*z)) (hh-l) (n-l) (n-l) g (by rw[gt];exact hg) (pg _ _ hs) (.known _ (by omega));rw[pP]at this;simpa[i9]using this
   ·cases h
  ·cases h
 ·cases h
end
end
section
variable [ah]
section
variable {P:ag} {σ:cI} {W:AW} {w w':am}
def bg.IF(h:bg σ W w.heap){b off:Nat}{o o':db}{g:vC}(hb:W.get b=some o)(qg:∀cs,o≠ .ro cs)(hg:σ b=some g)
 (qY:w'.heap.size=w.heap.size)(Uh:w'.os=w.os)(TI:w'.tape=w.tape)(Bs:w'.output=w.output)
 (jG:∀B,B≠g.B->w'.heap[B]? =w.heap[B]?)
 {c c':Array ad}{t:ae}(hc:w.heap[g.B]? =some (.cells c t (0,0)))(xC:w'.heap[g.B]? =some (.cells c' t (0,0)))(pS:c'.size=c.size)
 (vz:∀i,i<g.s+off\/g.e<=i->c'[i]? =c[i]?)
 (xd:mf (bP σ W.next ⟨g.B,g.s+off,g.e⟩) w'.heap ⟨g.B,g.s+off,g.e⟩ o'):
 bg (bP σ W.next ⟨g.B,g.s+off,g.e⟩) ((W.kill b).add o') w'.heap/\eF σ W w (bP σ W.next ⟨g.B,g.s+off,g.e⟩) ((W.kill b).add o') w':=by
 have Ap:=h.fresh;have hs:Sub σ (bP σ W.next ⟨g.B,g.s+off,g.e⟩):=dd Ap;have YY:=h.m8 b g hg;have hk:∀c o,c≠W.next->((W.kill b).add o').get c=some o->c≠b/\W.get c=some o:=λc o hcn hx=>by
  rw[AW.aD _ _ (by rw[AW.dz];exact aV hcn)]at hx;by_cases Jl:c=b
  ·subst Jl;rw[AW.Ad]at hx;cases hx
  ·rw[AW.cE _ (aV Jl)]at hx;exact⟨Jl,hx⟩
 have agk:((W.kill b).add o').get W.next=some o':=AW.aH (W.kill b) _;have pk:∀c k,bP σ W.next ⟨g.B,g.s+off,g.e⟩ c=some k->(c=W.next/\k=⟨g.B,g.s+off,g.e⟩)\/(c≠W.next/\σ c=some k):=λc k hx=>by
  unfold bP at hx;split at hx
  ·rename_i he;injection hx with hx;exact .inl ⟨he,hx.symm⟩
  ·rename_i he;exact .inr ⟨he,hx⟩
 have ack:∀cs,W.get b≠some (.ro cs):=λcs hx=>by rw[hb]at hx;injection hx with hx;exact qg cs hx
 refine⟨⟨?_,?_,?_,?_⟩,⟨hs,?_,?_,Uh,TI,Bs,?_,?_,?_⟩⟩
 ·intro x hx;have XB:W.next+1<=x:=hx;cases hy:((W.kill b).add o').get x with
  |none=>rfl
  |some o=>have:=(hk x o (by omega) hy).2;rw[h.free x (by omega)]at this;cases this
 ·intro x k hx;rcases pk x k hx with⟨rfl,rfl⟩|⟨_,h2⟩
  ·exact⟨Nat.lt_succ_self _,by rw[qY];exact YY.2⟩
  ·have:=h.m8 x k h2;exact⟨Nat.lt_succ_of_lt this.1,by rw[qY];exact this.2⟩
 ·intro x o2 k hx hy;rcases pk x k hy with⟨rfl,rfl⟩|⟨h1,h2⟩
  ·rw[agk]at hx;injection hx with hx;subst hx;exact xd
  ·obtain⟨Sz,hxg⟩:=hk x o2 h1 hx;refine mf.mono hs ?_;have fb:=h.obj x o2 k hxg h2;by_cases hB:k.B=g.B
   ·have hd:=h.qK x b o2 _ k g Sz hxg hb h2 hg (rwR qg);have iA:k.e<=g.s\/g.e<=k.s:=hd.resolve_left (λee=>ee hB);cases o2 with
    |cells DK=>obtain⟨c0,t0,fr0,e1,e0,e2,e3,e4⟩:=fb;rw[hB,hc]at e1;injection e1 with e1;injection e1 with e1 Zt;subst e1;refine⟨c',t,(0,0),by rw[hB];exact xC,λ_=>rfl,e2,by omega,λi v hv=>?_⟩;obtain⟨v',f1,f2⟩:=e4 i v hv;have hi:i<DK.length:=(cn.1 hv).1;exact⟨v',by rw[vz _ (by omega)];exact f1,f2⟩
    |ro DK=>obtain⟨c0,t0,fr,e1,e2,e3⟩:=fb;rw[hB,hc]at e1;injection e1 with e1;injection e1 with e1 Zt;subst e1;refine⟨c',t,(0,0),by rw[hB];exact xC,e2,λi v hv=>?_⟩;have hi:i<DK.length:=(cn.1 hv).1;obtain⟨v',f1,f2⟩:=e3 i v hv;exact⟨v',by rw[vz _ (by omega)];exact f1,f2⟩
    |map es kH=>obtain⟨_,_,fP,e1,_⟩:=fb;rw[hB,hc]at e1;cases e1
    |loop st mZ R nt ps ats bd=>obtain⟨_,_,r,e1,_⟩:=fb;rw[hB,hc]at e1;cases e1
    |mW s pos=>obtain⟨_,_,e1⟩:=fb;rw[hB,hc]at e1;cases e1
    |tc t2 DK=>obtain⟨a1,a2,a3,c0,e1,e2,e3,e4⟩:=fb;rw[hB,hc]at e1;injection e1 with e1;injection e1 with e1 Zt;subst e1;subst Zt;refine⟨a1,a2,a3,c',by rw[hB];exact xC,e2,by omega,λi v hv=>?_⟩;obtain⟨v',f1,f2⟩:=e4 i v hv;have hi:i<DK.length:=(cn.1 hv).1;exact⟨v',by rw[vz _ (by omega)];exact f1,f2⟩
   ·exact fb.same (jG _ hB)
 ·intro b1 b2 o1 o2 g1 g2 ee h1 h2 k1 k2 hr;have sub:∀x o2 k,x≠W.next->((W.kill b).add o').get x=some o2->σ x=some k->g.B≠k.B\/g.e<=k.s\/k.e<=g.s+off:=λx o2 k hxn hx hxk=>by
   obtain⟨Sz,hxg⟩:=hk x o2 hxn hx;rcases h.qK b x _ o2 g k (aV Sz) hb hxg hg hxk (rwL qg)with r|r|r
   ·exact .inl r
   ·exact .inr (.inl r)
   ·exact .inr (.inr (by omega))
  rcases pk b1 g1 k1 with⟨rfl,rfl⟩|⟨x1,y1⟩
  ·rcases pk b2 g2 k2 with⟨rfl,rfl⟩|⟨x2,y2⟩
   ·exact absurd rfl ee
   ·exact sub b2 o2 g2 x2 h2 y2
  ·rcases pk b2 g2 k2 with⟨rfl,rfl⟩|⟨x2,y2⟩
   ·rcases sub b1 o1 g1 x1 h1 y1 with r|r|r
    ·exact .inl (aV r)
    ·exact .inr (.inr r)
    ·exact .inr (.inl r)
   ·exact h.qK _ _ _ _ _ _ ee (hk _ _ x1 h1).2 (hk _ _ x2 h2).2 y1 y2 hr
 ·intro x cs0 hx;have Sz:x≠b:=λe=>by subst e;exact ack cs0 hx
  have hxn:W.next≠x:=λe=>by subst e;rw[h.free _ (aM _)]at hx;cases hx
  rw[AW.aD _ _ (by rw[AW.dz];exact hxn),AW.cE _ (aV Sz)];exact hx
 ·rw[qY];exact aM _
 ·intro B hB hm;exact jG B (λe=>by subst e;exact hm ⟨b,g,hg,rfl,ack⟩)
 ·intro x o2 hx hxk;have Sz:x≠b:=λe=>by subst e;rw[hg]at hxk;cases hxk
  have hxn:W.next≠x:=λe=>by subst e;rw[h.free _ (aM _)]at hx;cases hx
  refine⟨by rw[AW.aD _ _ (by rw[AW.dz];exact hxn),AW.cE _ (aV Sz)];exact hx,?_⟩;unfold bP;rw[ap (aV hxn)];exact hxk
 ·intro x k AO hB;rcases pk x k AO with⟨rfl,rfl⟩|⟨h1,h2⟩
  ·exact .inr ⟨b,g,hg,rfl,ack⟩
  ·exact .inl h2
def bg.abz(h:bg σ W w.heap){b off:Nat}{cs ck:List ad}{g:vC}(hb:W.get b=some (.cells cs))(hg:σ b=some g)
 (qY:w'.heap.size=w.heap.size)(Uh:w'.os=w.os)(TI:w'.tape=w.tape)(Bs:w'.output=w.output)
 (jG:∀B,B≠g.B->w'.heap[B]? =w.heap[B]?)
 {c c':Array ad}{t:ae}(hc:w.heap[g.B]? =some (.cells c t (0,0)))(xC:w'.heap[g.B]? =some (.cells c' t (0,0)))(pS:c'.size=c.size)
 (vz:∀i,i<g.s+off\/g.e<=i->c'[i]? =c[i]?)(eG:g.s+off+ck.length<=g.e)
 (nM:∀(i:Nat) (v:ad),ck[i]? =some v->∃v',c'[g.s+off+i]? =some v'/\VR σ v v'):
 bg (bP σ W.next ⟨g.B,g.s+off,g.e⟩) ((W.kill b).add (.cells ck)) w'.heap/\eF σ W w (bP σ W.next ⟨g.B,g.s+off,g.e⟩) ((W.kill b).add (.cells ck)) w':=by
 obtain⟨c0,t0,fr0,q1,q0,q2,q3,q4⟩:=h.obj b _ g hb hg;rw[hc]at q1;injection q1 with q1;injection q1 with q1 q1';subst q1;refine h.IF hb (λ_=>by simp) hg qY Uh TI Bs jG hc xC pS vz ⟨c',t,(0,0),xC,λ_=>rfl,eG,by simp only;omega,λi v hv=>?_⟩;obtain⟨v',f1,f2⟩:=nM i v hv;exact⟨v',f1,f2.mono (dd h.fresh)⟩
def bM(W:AW)(x:ad)(m:Nat):Option (List ad):=
 match x with
 |.slice none _ _=>if m=0 then some []else none
 |.slice (some a) len _=>if m=0 then some []else if len=0 then none else mm W a.block a.off m
 |_=>none
def xE(h:bg σ W w.heap){x x':ad}{n z:Nat}{l:List ad}(hr:bM W x (n*z)=some l)(hx:VR σ x x'):
 ∃l',LR σ l l'/\l.length=n*z/\(Builtin.firstCells z n x').run P w=.ok l'.toArray w:=by
 have h0:∀(a':aP),(loadCells a' 0).run P w=.ok #[] w:=λa'=>by simp[loadCells,loadCellsFrom]
 unfold bM at hr;split at hr
 ·split at hr
  ·rename_i hm;injection hr with hr;subst hr;cases hx;exact⟨[],.nil,by simp[hm],by simp[Builtin.firstCells]⟩
  ·cases hr
 ·rename_i a _ _;split at hr
  ·rename_i hm;injection hr with hr;subst hr;cases hx
   ·exact⟨[],.nil,by simp[hm],by simp[Builtin.firstCells,hm,h0]⟩
   ·exact⟨[],.nil,by simp[hm],by simp[Builtin.firstCells,hm,h0]⟩
  ·rename_i hm;split at hr
   ·cases hr
   ·rename_i Mg;cases hx with
    |slice _ _ _ c' g hg hs hc=>obtain⟨l',h1,h2,_,h4⟩:=Ay (P:=P) h hr hg;exact⟨l',h1,h2,by simp[Builtin.firstCells,h4]⟩
    |cX _ a' _ g hg hc=>exact absurd rfl Mg
 ·cases hr
def Ql(EJ:Nat):∀(r c:Nat),c<=2*EJ+192->Builtin.growBy EJ r c<=2*EJ+192:=by
 intro r;induction r with
 |zero=>intro c h;exact h
 |succ r ih=>
  intro c h;simp only[Builtin.growBy];split
  ·exact h
  ·exact ih _ (by omega)
def xJ{EJ c:Nat}(h:c<EJ):Builtin.nextslicecap EJ c<=2*EJ+192:=by
 unfold Builtin.nextslicecap;split
 ·omega
 ·split
  ·omega
  ·exact Ql EJ 4 c (by omega)
def kN(P:ag)(t:ae):Option ae:=match P.underlying t with|some (.slice e)=>some e|_=>none
def nW{t e:ae}(h:kN P t=some e):P.underlying t=some (.slice e):=by
 unfold kN at h;split at h
 ·rename_i e' hu;injection h with h;subst h;exact hu
 ·cases h
def dB(P:ag)(W:AW)(argTypes:Array ae)(s x:ad):Option (ad×AW):=
 match argTypes.toList with
 |[t0,t1]=>if t0=t1 then
  match kN P t0,s,x with
  |some e,.slice base bE xO,.slice xb n xc=>match kQ P e,(P.info? e).map (λi=>(i.zero,i.bytes))with
   |some z,some (some zv,bytes)=>
    if 0<z/\zv.cells.size=z/\bE+n<1099511627776/\(2*(bE+n)+192)*bytes<=281474976710656 then
     if n=0 then(if bE<=xO then some (s,W)else none)
     else match bM W (.slice xb n xc) (n*z),bM W s (bE*z)with
      |some new,some um=>
       if new.all one=true then
        if xO=dY+z then
         match base with
         |some a=>match W.get a.block with
          |some (.cells _)=>some ((W.kill a.block).new (.cells (um++new)) λb W'=>(Value.slice (some ⟨b,0,none⟩) (bE+n) (dY+z),W'))
          |some (.tc e' cs)=>if e=e'/\z=1/\a.off=0/\cs.length=bE/\bE≠0/\ah.ex e=false then some ((W.kill a.block).new (.tc e (cs++new)) λb W'=>(Value.slice (some ⟨b,0,none⟩) (bE+n) (dY+1),W'))else none
          |_=>none
         |none=>none
        else if xO<dY then
         match base with
         |some a=>
          if bE+n<=xO then(nI W a.block (a.off+bE*z) new).map λW'=>(Value.slice (some a) (bE+n) xO,W')
          else some (W.new (.cells (um++new)) λb W'=>(Value.slice (some ⟨b,0,none⟩) (bE+n) (dY+z),W'))
         |none=>if bE=0/\xO=0 then some (W.new (.cells (um++new)) λb W'=>(Value.slice (some ⟨b,0,none⟩) (bE+n) (dY+z),W'))else none
        else none
       else none
      |_,_=>none
    else none
   |_,_=>none
  |_,_,_=>none
  else none
 |_=>none
def lN(zero:Array ad)(n:Nat):(Builtin.zeroCells zero n).size=n*zero.size:=by simp[Builtin.zeroCells]
def LO(hW:bg σ W w.heap)(e:ae){z:Nat}{zv:ad}{um new lZ iv:List ad}{k:Nat}(cap:Nat)
 (h1:LR σ um lZ)(h2:LR σ new iv)(hz:zv.cells.size=z)(Sf:0<z)(eG:um.length+new.length=k*z)(m5:k<=cap/\cap<=maxLen):
 VR (bP σ W.next ⟨w.heap.size,0,cap*z⟩) (.slice (some ⟨W.next,0,none⟩) k (dY+z)) (.slice (some ⟨w.heap.size,0,none⟩) k cap)/\
  bg (bP σ W.next ⟨w.heap.size,0,cap*z⟩) (W.add (.cells (um++new))) ((w.drew.alloc (.cells (lZ.toArray++iv.toArray++Builtin.zeroCells zv.cells (cap-k)) e)).heap)/\
  eF σ W w (bP σ W.next ⟨w.heap.size,0,cap*z⟩) (W.add (.cells (um++new))) (w.drew.alloc (.cells (lZ.toArray++iv.toArray++Builtin.zeroCells zv.cells (cap-k)) e)):=by
 have qY:(lZ.toArray++iv.toArray++Builtin.zeroCells zv.cells (cap-k)).size=cap*z:=by have ao4:=m5.1;simp only[Array.size_append,sz,lN,hz,<-h1.1,<-h2.1];rw[eG,<-gZ];congr 1;omega
 have:=hW.alloc (o:=.cells (um++new)) (x:=.cells (lZ.toArray++iv.toArray++Builtin.zeroCells zv.cells (cap-k)) e) (e:=cap*z) (by
  refine⟨lZ.toArray++iv.toArray++Builtin.zeroCells zv.cells (cap-k),e,(0,0),by rw[sN];simp,λ_=>rfl,?_,by rw[qY];exact aM _,λi v hv=>?_⟩
  ·simp only[cT,eG,aN];exact lU _ m5.1
  ·obtain⟨v',a,b⟩:=(h1.append h2).get hv;refine⟨v',?_,b.mono (dd hW.fresh)⟩;have hi:i<(lZ++iv).length:=(cn.1 a).1;rw[aN,zJ];rw[aq (by simpa using hi)];simpa using a);have hv:=VR.slice (σ:=bP σ W.next ⟨w.heap.size,0,cap*z⟩) ⟨W.next,0,none⟩ k (dY+z) cap ⟨w.heap.size,0,cap*z⟩ cZ rfl (.open_ z cap Sf m5.1 (by simp) m5.2);exact⟨by simpa using hv,this.1,⟨this.2.sub,this.2.ro,this.2.size,rfl,rfl,rfl,this.2.keep,this.2.ghost,this.2.grow⟩⟩
def Lz(P:ag)(w:am)(t ty e:ae)(z:Nat)(base:Option aP)(bE c' xc:Nat)(xb:Option aP)
 (hu:P.underlying t=some (.slice e))(hz:kQ P e=some z)(aS:bE<=c'):
 (Builtin.append_ #[t,t] ty #[.slice base bE c',.slice xb 0 xc]).run P w=.ok (.slice base bE c') w:=by
 have h0:∀(a':aP),(loadCells a' 0).run P w=.ok #[] w:=λa'=>by simp[loadCells,loadCellsFrom]
 cases base<;>cases xb<;>simp[Builtin.append_,bH hu,bD hz,Builtin.lenOf,aS,Builtin.firstCells,h0,storeCells]
def uI(P:ag)(w w2:am)(t ty e:ae)(z:Nat)(b off bE c' n xc:Nat)(xb:Option aP)(iv:List ad)
 (hu:P.underlying t=some (.slice e))(hz:kQ P e=some z)
 (xd:(Builtin.firstCells z n (.slice xb n xc)).run P w=.ok iv.toArray w)(aS:bE+n<=c')(uk:(storeCells ⟨b,off+bE*z,none⟩ iv).run P w=.ok () w2):
 (Builtin.append_ #[t,t] ty #[.slice (some ⟨b,off,none⟩) bE c',.slice xb n xc]).run P w=.ok (.slice (some ⟨b,off,none⟩) (bE+n) c') w2:=by
 simp[Builtin.append_,bH hu,bD hz,Builtin.lenOf,aS,xd,cP,uk]
def Hg{e:ae}{zo:Option ad}{bytes z:Nat}(h:(P.info? e).map (λi=>(i.zero,i.bytes))=some (zo,bytes))(hz:kQ P e=some z):
 ∃i,P.info? e=some i/\i.zero=zo/\i.bytes=bytes/\i.size=z:=by
 obtain⟨i,hi,h1,_⟩:=Bb hz;rw[hi]at h;simp at h;exact⟨i,hi,h.1,h.2,h1⟩
def fz(h:bg σ W w.heap){A:Option aP}{n c z:Nat}{x':ad}{l:List ad}(hr:bM W (.slice A n c) (n*z)=some l)(hx:VR σ (.slice A n c) x')(hn:0<n*z):
 ∃a' c' l',x'=.slice (some a') n c'/\LR σ l l'/\l.length=n*z/\(∀j v,l'[j]? =some v->w.cell? (a'.add j)=some v):=by
 unfold bM at hr;split at hr
 ·rw[bK]at hr;cases hr
 ·rename_i a len cc xf;injection xf with e1 e2 e3;rw[bK]at hr;split at hr
  ·cases hr
  ·rename_i Mg;subst e1;subst e2;cases hx with
   |slice _ _ _ c' g hg hs hc=>obtain⟨l',h1,h2,h3,_⟩:=Ay (P:=(default:ag)) h hr hg;exact⟨_,c',l',rfl,h1,h2,λj v hj=>by rw[cP];exact h3 j v hj⟩
   |cX _ a' _ g hg hc=>exact absurd rfl Mg
 ·cases hr
def PH(EJ um:Nat)(e:ae)(t:Nat):EJ<=(Question.appendCap EJ um e).cut t:=by simp only[Question.cut];omega
def IV(hW:bg σ W w.heap)(e:ae){cs ck:List ad}{zs:Array ad}{cap:Nat}(h1:LR σ cs ck)(m5:cs.length+zs.size=cap)(h0:0<cs.length)(hm:cap<=maxLen)(Df:ah.ex e=false){c:Array ad}(hc:c=ck.toArray++zs):
 VR (bP σ W.next ⟨w.heap.size,0,cap⟩) (.slice (some ⟨W.next,0,none⟩) cs.length (dY+1)) (.slice (some ⟨w.heap.size,0,none⟩) cs.length cap)/\
  bg (bP σ W.next ⟨w.heap.size,0,cap⟩) (W.add (.tc e cs)) ((w.drew.alloc (.cells c e)).heap)/\
  eF σ W w (bP σ W.next ⟨w.heap.size,0,cap⟩) (W.add (.tc e cs)) (w.drew.alloc (.cells c e)):=by
 subst hc;have hl:=h1.1;have qY:(ck.toArray++zs).size=cap:=by simp only[Array.size_append,sz];omega
 have:=hW.alloc (o:=.tc e cs) (x:=.cells (ck.toArray++zs) e) (e:=cap) (by refine⟨rfl,by simp only;omega,⟨hm,λhx=>by rw[Df]at hx;cases hx⟩,ck.toArray++zs,by rw[sN];simp,by simp only;omega,by simp only;omega,λi v hv=>?_⟩;obtain⟨v',a,b⟩:=h1.get hv;refine⟨v',?_,b.mono (dd hW.fresh)⟩;have hi:i<ck.length:=(cn.1 a).1;rw[zJ,aq (by simpa using hi)];simpa using a);have hv:=VR.slice (σ:=bP σ W.next ⟨w.heap.size,0,cap⟩) ⟨W.next,0,none⟩ cs.length (dY+1) cap ⟨w.heap.size,0,cap⟩ cZ rfl (.open_ 1 cap (by omega) (by omega) (by simp) hm);exact⟨by simpa using hv,this.1,⟨this.2.sub,this.2.ro,this.2.size,rfl,rfl,rfl,this.2.keep,this.2.ghost,this.2.grow⟩⟩
def JH(hW:bg σ W w.heap){argTypes:Array ae}{ty:ae}{s x s' x' v:ad}{W':AW}(h:dB P W argTypes s x=some (v,W'))(hs:VR σ s s')(hx:VR σ x x'):
 ∃σ' v' w',(Builtin.append_ argTypes ty #[s',x']).run P w=.ok v' w'/\VR σ' v v'/\bg σ' W' w'.heap/\eF σ W w σ' W' w':=by
 unfold dB at h;split at h
 ·rename_i t0 t1 oX;have EU:argTypes=#[t0,t1]:=by rw[<-ie (xs:=argTypes),oX]
  split at h
  ·rename_i ht;subst ht;subst EU;split at h
   ·rename_i e base bE xO xb n xc he;have hu:=nW he;split at h
    ·rename_i z zv bytes hz EV;obtain⟨i,hi,hiz,Xj,Da⟩:=Hg EV hz;split at h
     ·rename_i hc;obtain⟨Sf,hzs,hsm,hby⟩:=hc;split at h
      ·rename_i Pd;subst Pd;split at h
       ·rename_i aS;injection h with h;injection h with hv hw;subst hv;subst hw;have pE:∀(c':Nat) (B:Option aP) (Pw:Option aP) (BP:Nat),x'=.slice Pw 0 BP->s'=.slice B bE c'->bE<=c'->
         ∃σ' v' w',(Builtin.append_ #[t0,t0] ty #[s',x']).run P w=.ok v' w'/\VR σ' (.slice base bE xO) v'/\bg σ' W w'.heap/\eF σ W w σ' W w':=by
         intro c' B Pw BP e1 e2 e3;subst e1;subst e2;exact⟨σ,_,w,Lz P w t0 ty e z B bE c' BP Pw hu hz e3,hs,hW,eF.refl _ _ _⟩
        have hxf:∃Pw BP,x'=.slice Pw 0 BP:=by cases hx<;>exact⟨_,_,rfl⟩
        obtain⟨Pw,BP,rfl⟩:=hxf;cases hs with
        |DO l c=>exact pE _ _ Pw BP rfl rfl aS
        |slice a l c c' g hg tI pF=>exact pE _ _ Pw BP rfl rfl (by rcases pF.inv with⟨_,h2⟩|⟨_,_,_,h2,_⟩<;>omega)
        |cX a a' c g hg pF=>exact pE _ _ Pw BP rfl rfl (by omega)
       ·cases h
      ·rename_i Pd;split at h
       ·rename_i new um xd fb;split at h
        ·rename_i CA;have hnz:0<n*z:=mO (by omega) Sf;obtain⟨xa,BP,iv,rfl,B1,Oj,Xr⟩:=fz hW xd hx hnz;obtain⟨lZ,KI,Nb,yG⟩:=xE (P:=P) hW fb hs;have hnf:(Builtin.firstCells z n (.slice (some xa) n BP)).run P w=.ok iv.toArray w:=by
          have hl:iv.length=n*z:=by rw[<-B1.1];exact Oj
          have:=C6 (P:=P) w xa iv Xr;rw[hl]at this;simpa[Builtin.firstCells]using this
         have eG:um.length+new.length=(bE+n)*z:=by rw[Nb,Oj,gZ]
         have grow:∀(a':aP) (c':Nat),s'=.slice (some a') bE c'->(0<bE->∀j u,lZ[j]? =some u->w.cell? (a'.add j)=some u)->c'<bE+n->
          ∃cap,(bE+n<=cap/\cap<=maxLen)/\(Builtin.append_ #[t0,t0] ty #[s',.slice (some xa) n BP]).run P w=
           .ok (.slice (some ⟨w.heap.size,0,none⟩) (bE+n) cap) (w.drew.alloc (.cells (lZ.toArray++iv.toArray++Builtin.zeroCells zv.cells (cap-(bE+n))) e)):=by
          intro a' c' e1 e2 e3;subst e1;have m5:=xJ e3;have ud:Builtin.nextslicecap (bE+n) c'*i.bytes<=281474976710656:=by have:=lU i.bytes m5;rw[Xj]at this|-;omega
          refine⟨_,⟨PH _ _ _ _,Db w (bE+n) c' e (by unfold maxLen;omega)⟩,run_append_grow (P:=P) w t0 ty e i zv hu hi hiz a' bE c' lZ (by rw[<-KI.1,Nb,Da]) (λj u hj=>?_) xa n BP iv (by rw[<-B1.1,Oj,Da]) Xr e3 (by omega) ud⟩;refine e2 ?_ j u hj;rcases Nat.eq_zero_or_pos bE with h0|h0
          ·have h1:=Nb;rw[h0,sW,KI.1]at h1;have:=(cn.1 hj).1;omega
          ·exact h0
         have aaJ:=λ(cap:Nat) (m5:bE+n<=cap/\cap<=maxLen)=>LO (w:=w) hW e cap KI B1 hzs Sf eG m5
         split at h
         ·rename_i qQ;split at h
          ·rename_i a;split at h
           ·rename_i cs di;injection h with h;rw[AW.dm]at h;injection h with hv hw;have qg:∀cs,W.get a.block≠some (.ro cs):=λcs hx=>by rw[di]at hx;cases hx
            have hmp:∃g0,σ a.block=some g0:=by cases hs with|slice _ _ _ c' g hg tI pF=>exact⟨g,hg⟩|cX _ a' _ g hg pF=>exact⟨g,hg⟩
            obtain⟨g0,hg0⟩:=hmp;obtain⟨hWk,hEk⟩:=hW.kill qg hg0;have abi:∀(cap:Nat),(bE+n<=cap/\cap<=maxLen)->(Builtin.append_ #[t0,t0] ty #[s',.slice (some xa) n BP]).run P w=
             .ok (.slice (some ⟨w.heap.size,0,none⟩) (bE+n) cap) (w.drew.alloc (.cells (lZ.toArray++iv.toArray++Builtin.zeroCells zv.cells (cap-(bE+n))) e))->
             ∃σ' v' w',(Builtin.append_ #[t0,t0] ty #[s',.slice (some xa) n BP]).run P w=.ok v' w'/\VR σ' v v'/\bg σ' W' w'.heap/\eF σ W w σ' W' w':=by
             intro cap m5 jC;obtain⟨g1,g2,g3⟩:=LO (w:=w) hWk e cap KI B1 hzs Sf eG m5;exact⟨_,_,_,jC,by rw[<-hv];exact g1,by rw[<-hw];exact g2,by rw[<-hw];exact hEk.trans g3⟩
            cases hs with
            |cX _ a' _ g hg pF=>obtain⟨cap,h1,h2⟩:=grow a' 0 rfl (λhx=>absurd hx (by omega)) (by omega);exact abi cap h1 h2
            |slice _ _ _ c' g hg tI pF=>
             rcases pF.inv with⟨hk,_⟩|⟨z',yk,ZO,Zi,xf⟩
             ·exact absurd hk (by omega)
             ·have An:z'=z:=by omega
              subst An;obtain⟨c0,ct,fr0,q1,q0,q2,q3,q4⟩:=hW.obj a.block _ g di hg;by_cases ud:bE+n<=c'
              ·have hcz:0<c'*z':=mO (by omega) Sf;obtain rfl:=q0 (by omega);have ahr:(bE+n)*z'<=c'*z':=lU _ ud;have Jx:bE*z'+n*z'=(bE+n)*z':=(gZ _ _ _).symm;have uk:=De (P:=P) g.B (g.s+a.off+bE*z') ct iv 0 c0 w q1 (by rw[<-B1.1,Oj];omega) (Dh B1 CA);simp only[fY]at uk;have jC:=uI P w _ t0 ty e z' g.B (g.s+a.off) bE c' n BP (some xa) iv hu hz hnf ud uk;have alw:iv.length=n*z':=by rw[<-B1.1];exact Oj
               have arb:lZ.length=bE*z':=by rw[<-KI.1];exact Nb
               have Cq:=ly c0.toList (g.s+a.off+bE*z') iv (by simp;omega);have tN:∀j u,um[j]? =some u->∃u',c0[g.s+a.off+j]? =some u'/\VR σ u u':=by
                intro j u hj;have hj2:j<bE*z':=by rw[<-Nb];exact(cn.1 hj).1
                have Hc:0<bE*z':=by omega
                obtain⟨a2,c2,l2,e2,l2r,l2l,l2c⟩:=fz hW fb (VR.slice a bE _ c' g hg tI pF) Hc;injection e2 with e2 _ _;injection e2 with e2;subst e2;obtain⟨u',f1,f2⟩:=l2r.get hj;have:=l2c j u' f1;rw[cP]at this;simp only[World.cell?,q1,ql,nH,cV]at this;exact⟨u',this,f2⟩
               have Ko:=hW.abz (w':=w.setRow g.B (c0.toList.take (g.s+a.off+bE*z')++iv++c0.toList.drop (g.s+a.off+bE*z'+iv.length)).toArray)
                (b:=a.block) (off:=a.off) (ck:=um++new) di hg (by simp[World.setRow]) rfl rfl rfl (λB hB=>i7 w g.B B _ hB) q1 (rP w g.B c0 _ ct _ q1) (by simp;omega)
                (by intro j hj;have:=Cq j;rw[bK]at this;simpa using this)
                (by rw[cT,eG];omega)
                (by
                  intro j u hj;have h2:=Cq (g.s+a.off+j);rw[rX]at hj;split at hj
                  ·rename_i hjl;rw[bK]at h2;obtain⟨u',f1,f2⟩:=tN j u hj;exact⟨u',by rw[<-f1];simpa using h2,f2⟩
                  ·rename_i hjl;have hjn:=(cn.1 hj).1;rw[kE]at h2;obtain⟨u',f1,f2⟩:=B1.get hj;rw[show g.s+a.off+j-(g.s+a.off+bE*z')=j-um.length by omega,f1]at h2;exact⟨u',by simpa using h2,f2⟩)
               have Sd:=VR.slice (σ:=bP σ W.next ⟨g.B,g.s+a.off,g.e⟩) ⟨W.next,0,none⟩ (bE+n) (dY+z') c' ⟨g.B,g.s+a.off,g.e⟩ cZ rfl (.open_ z' c' Sf ud (by simp only[fY];exact xf) (pF.max.2 (by omega)));simp only[fY]at Sd;exact⟨_,_,_,jC,by rw[<-hv];exact Sd,by rw[<-hw];exact Ko.1,by rw[<-hw];exact Ko.2⟩
              ·obtain⟨cap,h1,h2⟩:=grow _ c' rfl (λHc j u hj=>by
                have HM:0<bE*z':=mO Hc Sf;obtain⟨a2,c2,l2,e2,l2r,l2l,l2c⟩:=fz hW fb (VR.slice a bE _ c' g hg tI pF) HM;injection e2 with e2 _ _;injection e2 with e2;subst e2;have IG:(Builtin.firstCells z' bE (.slice (some ⟨g.B,g.s+a.off,none⟩) bE c')).run P w=.ok l2.toArray w:=by have:=C6 (P:=P) w ⟨g.B,g.s+a.off,none⟩ l2 l2c;rw[<-l2r.1,l2l]at this;simpa[Builtin.firstCells]using this
                rw[yG]at IG;injection IG with IG _;have:lZ=l2:=by simpa using IG
                rw[this]at hj;exact l2c j u hj) (by omega);exact abi cap h1 h2
           ·rename_i e' cs di;split at h;case isFalse=>cases h
            rename_i Tz;obtain⟨rfl,rfl,Eo,Fe,Hc,Lr⟩:=Tz;injection h with h;rw[AW.dm]at h;injection h with hv hw;have qg:∀cs,W.get a.block≠some (.ro cs):=λcs hx=>by rw[di]at hx;cases hx
            have alw:iv.length=n:=by rw[<-B1.1,Oj,jE]
            have amF:new.length=n:=by rw[Oj,jE]
            cases hs with
            |cX _ a' _ g hg pF=>exact absurd rfl Hc
            |slice _ _ _ c' g hg tI pF=>
             rcases pF.inv with⟨hk,_⟩|⟨z',yk,ZO,Zi,xf⟩
             ·unfold dY at hk qQ;omega
             ·have An:z'=1:=by omega
              subst An;obtain⟨a1,a2,a3,c,q1,q2,q3,q4⟩:=hW.obj a.block _ g di hg;have akZ:c'=c.size:=by omega
              have Si:(⟨g.B,g.s+a.off,none⟩:aP)=⟨g.B,0,none⟩:=by rw[a1,Eo]
              rw[Si];have Df:∃lZ:List ad,LR σ cs lZ/\∀(j:Nat) (u:ad),lZ[j]? =some u->c[j]? =some u:=by
               have kW:∀j,j<cs.length->j<c.size:=λj hj=>by omega
               refine⟨c.toList.take cs.length,⟨by rw[fu];simp;omega,λj u u' h1 h2=>?_⟩,λj u hj=>?_⟩
               ·obtain⟨v',f1,f2⟩:=q4 j u h1;rw[lD]at h2;split at h2
                ·rw[rY,f1]at h2;injection h2 with h2;subst h2;exact f2
                ·cases h2
               ·rw[lD]at hj;split at hj
                ·simpa using hj
                ·cases hj
              obtain⟨ac0,agQ,hoc⟩:=Df;have an6:=agQ.1;have hap:=agQ.append B1;by_cases ud:bE+n<=c'
              ·have uk:=De (P:=P) g.B (0+bE*1) e iv 0 c w q1 (by omega) (Dh B1 CA);simp only[fY]at uk;have jC:=uI P w _ t0 ty e 1 g.B 0 bE c' n BP (some xa) iv hu hz hnf ud uk;have Cq:=ly c.toList (0+bE*1) iv (by simp;omega);have Ko:=hW.IF (w':=w.setRow g.B (c.toList.take (0+bE*1)++iv++c.toList.drop (0+bE*1+iv.length)).toArray) (b:=a.block) (off:=0) (o':=.tc e (cs++new))
                (c':=(c.toList.take (0+bE*1)++iv++c.toList.drop (0+bE*1+iv.length)).toArray) di (λ_=>by simp) hg (by simp[World.setRow]) rfl rfl rfl (λB hB=>i7 w g.B B _ hB) q1 (rP w g.B c _ e _ q1) (by simp;omega)
                (λj hj=>by rw[vH (by simp;omega),vH (by omega)])
                ⟨by simp only;omega,a2,⟨a3.1,λhx=>by rw[Lr]at hx;cases hx⟩,_,rP w g.B c _ e _ q1,by simp only[cT];omega,by simp;omega,λj u hj=>by
                  have h2:=Cq j;rw[rX]at hj;split at hj
                  ·rename_i hjl;rw[bK]at h2;obtain⟨u',f1,f2⟩:=q4 j u hj;exact⟨u',by rw[<-f1];simpa using h2,f2.mono (dd hW.fresh)⟩
                  ·rename_i hjl;have hjn:=(cn.1 hj).1;rw[kE]at h2;obtain⟨u',f1,f2⟩:=B1.get hj;rw[show j-(0+bE*1)=j-cs.length by omega,f1]at h2;exact⟨u',by simpa using h2,f2.mono (dd hW.fresh)⟩⟩
               have Sd:=VR.slice (σ:=bP σ W.next ⟨g.B,g.s+0,g.e⟩) ⟨W.next,0,none⟩ (bE+n) (dY+1) c' ⟨g.B,g.s+0,g.e⟩ cZ rfl (.open_ 1 c' (by omega) ud (by simp only;omega) (pF.max.2 (by omega)));simp only[a1,fY]at Sd;refine⟨_,_,_,jC,by rw[<-hv];exact Sd,?_,?_⟩
               ·rw[<-hw];simpa only[a1,fY]using Ko.1
               ·rw[<-hw];simpa only[a1,fY]using Ko.2
              ·have m5:=xJ (show c'<bE+n by omega);have aik:Builtin.nextslicecap (bE+n) c'*i.bytes<=281474976710656:=by have:=lU i.bytes m5;rw[Xj]at this|-;omega
               have jC:=run_append_grow (P:=P) w t0 ty e i zv hu hi hiz ⟨g.B,0,none⟩ bE c' ac0 (by rw[<-an6,Da];omega) (λj u hj=>by
                have:=hoc j u hj;rw[cP];simp[World.cell?,q1,this]) xa n BP iv (by rw[Da];omega) Xr (by omega) (by omega) aik;obtain⟨hWk,hEk⟩:=hW.kill qg hg;have hge:=grownCap_ge w (bE+n) c' e;obtain⟨g1,g2,g3⟩:=IV (w:=w) hWk e (cs:=cs++new) (ck:=ac0++iv) (zs:=Builtin.zeroCells zv.cells (grownCap w (bE+n) c' e-(bE+n))) (cap:=grownCap w (bE+n) c' e) hap
                (by rw[cT,lN,hzs];omega) (by rw[cT];omega) (Db w (bE+n) c' e (by unfold maxLen;omega)) Lr
                (c:=ac0.toArray++iv.toArray++Builtin.zeroCells zv.cells (grownCap w (bE+n) c' e-(bE+n))) (by simp)
               rw[cT,amF,Fe]at g1;exact⟨_,_,_,jC,by rw[<-hv];exact g1,by rw[<-hw];exact g2,by rw[<-hw];exact hEk.trans g3⟩
           ·cases h
          ·cases h
         ·split at h
          ·rename_i yi arD;split at h
           ·rename_i a;have akm:∀(g:vC) (c':Nat),σ a.block=some g->a.spot=none->Gd g a.off bE xO c'->s'=.slice (some ⟨g.B,g.s+a.off,none⟩) bE c'->0<bE->∀j u,lZ[j]? =some u->w.cell? ((⟨g.B,g.s+a.off,none⟩:aP).add j)=some u:=by
             intro g c' hg tI pF wu Hc j u hj;have HM:0<bE*z:=mO Hc Sf;obtain⟨a2,c2,l2,e2,l2r,l2l,l2c⟩:=fz hW fb (VR.slice a bE _ c' g hg tI pF) HM;injection e2 with e2 _ _;injection e2 with e2;subst e2;have IG:(Builtin.firstCells z bE (.slice (some ⟨g.B,g.s+a.off,none⟩) bE c')).run P w=.ok l2.toArray w:=by have:=C6 (P:=P) w ⟨g.B,g.s+a.off,none⟩ l2 l2c;rw[<-l2r.1,l2l]at this;simpa[Builtin.firstCells]using this
             rw[<-wu,yG]at IG;injection IG with IG _;have:lZ=l2:=by simpa using IG
             rw[this]at hj;exact l2c j u hj
            split at h
            ·rename_i ud;cases hwn:nI W a.block (a.off+bE*z) new with
             |none=>rw[hwn]at h;cases h
             |some W2=>
              rw[hwn]at h;simp only[cF,gK,Dd]at h;obtain⟨hv,hw⟩:=h;subst hw;cases hs with
              |cX _ a' _ g hg pF=>omega
              |slice _ _ _ c' g hg tI pF=>
               rcases pF.inv with⟨hk,rfl⟩|⟨z',yk,ZO,Zi,xf⟩
               ·obtain⟨w2,k1,k2,k3⟩:=sM (P:=P) hW hwn hg B1;have jC:=uI P w w2 t0 ty e z g.B (g.s+a.off) bE c' n BP (some xa) iv hu hz hnf ud (by rw[i9];exact k1);refine⟨σ,_,w2,jC,?_,k2,k3⟩;rw[<-hv];exact .slice a _ _ _ g hg tI (.known _ hk)
               ·omega
            ·rename_i ud;injection h with h;rw[AW.dm]at h;injection h with hv hw;have pE:∀(cap:Nat),(bE+n<=cap/\cap<=maxLen)->(Builtin.append_ #[t0,t0] ty #[s',.slice (some xa) n BP]).run P w=
              .ok (.slice (some ⟨w.heap.size,0,none⟩) (bE+n) cap) (w.drew.alloc (.cells (lZ.toArray++iv.toArray++Builtin.zeroCells zv.cells (cap-(bE+n))) e))->
              ∃σ' v' w',(Builtin.append_ #[t0,t0] ty #[s',.slice (some xa) n BP]).run P w=.ok v' w'/\VR σ' v v'/\bg σ' W' w'.heap/\eF σ W w σ' W' w':=by
              intro cap m5 jC
              obtain⟨g1,g2,g3⟩:=aaJ cap m5
              exact⟨_,_,_,jC,by rw[<-hv];exact g1,by rw[<-hw];exact g2,by rw[<-hw];exact g3⟩
             cases hs with
             |cX _ a' _ g hg pF=>obtain⟨cap,h1,h2⟩:=grow a' 0 rfl (λhx=>absurd hx (by omega)) (by omega);exact pE cap h1 h2
             |slice _ _ _ c' g hg tI pF=>
              have Fe:c'<bE+n:=by rcases pF.inv with⟨_,h2⟩|⟨_,_,h2,_,_⟩<;>omega
              obtain⟨cap,h1,h2⟩:=grow _ c' rfl (akm g c' hg tI pF rfl) Fe;exact pE cap h1 h2
           ·split at h
            ·rename_i SB;obtain⟨rfl,rfl,Lr⟩:=SB;injection h with h;rw[AW.dm]at h;injection h with hv hw;cases hs;have afm:lZ=[]:=by have:=KI.1;rw[Nb,sW]at this;exact uy this.symm
             subst afm;have ud:n*i.bytes<=281474976710656:=by have:=lU i.bytes (show n<=2*(0+n)+192 by omega);rw[Xj]at this|-;omega
             have jC:=run_append_nil (P:=P) w t0 ty e i zv hu hi hiz xa n BP iv (by rw[<-B1.1,Oj,Da]) Xr (by omega) (by omega) ud;obtain⟨g1,g2,g3⟩:=aaJ _ ⟨PH (0+n) 0 e (w.tape w.drawn (.appendCap n 0 e)),by simpa[grownCap]using Db w n 0 e (by unfold maxLen;omega)⟩;simp only[aN]at g1 g2 g3 hv;refine⟨_,_,_,jC,by rw[<-hv];exact g1,?_,?_⟩
             ·rw[<-hw];simpa[grownCap]using g2
             ·rw[<-hw];simpa[grownCap]using g3
            ·cases h
          ·cases h
        ·cases h
       ·cases h
     ·cases h
    ·cases h
   ·cases h
  ·cases h
 ·cases h
def D8(P:ag)(W:AW)(argTypes:Array ae)(s x:ad):Option (ad×AW):=
 match argTypes.toList with
 |[t0,t1]=>match P.underlying t1 with
  |some .string=>match kN P t0,s,x with
   |some e,.slice base bE xO,.string str=>match kQ P e,(P.info? e).map (λi=>(i.zero,i.bytes))with
    |some 1,some (some (Value.int IntKind.u8 (.ofNat 0)),1)=>
     if bE+str.size<1099511627776 then
      if str.size=0 then(if bE<=xO then some (s,W)else none)
      else match base with
       |some a=>if xO=dY+1/\a.off=0 then match W.get a.block with
        |some (.tc e' cs)=>if e=e'/\cs.length=bE/\bE≠0/\ah.ex e=false then some ((W.kill a.block).new (.tc e (cs++Lib.strCells str)) λb W'=>(Value.slice (some ⟨b,0,none⟩) (bE+str.size) (dY+1),W'))else none
        |_=>none
        else none
       |none=>if bE=0/\xO=0/\ah.ex e=false then some (W.new (.tc e (Lib.strCells str)) λb W'=>(Value.slice (some ⟨b,0,none⟩) (0+str.size) (dY+1),W'))else none
     else none
    |_,_=>none
   |_,_,_=>none
  |_=>none
 |_=>none
def uF(σ:cI)(s:ByteArray):LR σ (Lib.strCells s) (Lib.strCells s):=by
 refine⟨rfl,λi v v' h1 h2=>?_⟩;rw[h1]at h2;injection h2 with h2;subst h2;unfold Lib.strCells at h1;rw[jH]at h1;cases hx:s.data.toList[i]? with
 |none=>rw[hx]at h1;cases h1
 |some b=>rw[hx]at h1;injection h1 with h1;subst h1;exact .int _ _
def HD(hW:bg σ W w.heap){argTypes:Array ae}{ty:ae}{s x s' x' v:ad}{W':AW}(h:D8 P W argTypes s x=some (v,W'))(hs:VR σ s s')(hx:VR σ x x'):
 ∃σ' v' w',(Builtin.append_ argTypes ty #[s',x']).run P w=.ok v' w'/\VR σ' v v'/\bg σ' W' w'.heap/\eF σ W w σ' W' w':=by
 unfold D8 at h;split at h
 ·rename_i t0 t1 oX;have EU:argTypes=#[t0,t1]:=by rw[<-ie (xs:=argTypes),oX]
  subst EU;split at h
  ·rename_i XI;split at h
   ·rename_i e base bE xO str he;have hu:=nW he;cases hx;split at h
    ·rename_i hz EV;obtain⟨i,hi,hiz,Xj,Da⟩:=Hg EV hz;split at h
     ·rename_i hsm;have hmx:∀n sc,n<=maxLen->grownCap w n sc e<=maxLen:=λn sc hn=>Db w n sc e hn
      have Jx:bE+str.size<=maxLen:=by unfold maxLen;omega
      split at h
      ·rename_i Pd;split at h
       ·rename_i aS;injection h with h;injection h with hv hw;subst hv;subst hw;have SB:∀(a':aP),(loadCells a' 0).run P w=.ok #[] w:=λa'=>by simp[loadCells,loadCellsFrom]
        have pE:∀(c':Nat) (B:Option aP),s'=.slice B bE c'->bE<=c'->∃σ' v' w',(Builtin.append_ #[t0,t1] ty #[s',.string str]).run P w=.ok v' w'/\VR σ' (.slice base bE xO) v'/\bg σ' W w'.heap/\eF σ W w σ' W w':=by intro c' B e2 e3;subst e2;have hf:=Lib.run_firstCells_string (P:=P) w 1 str;rw[Pd]at hf;have Qq:Lib.strCells str=[]:=uy (by rw[lS];exact Pd);rw[Qq]at hf;refine⟨σ,_,w,?_,hs,hW,eF.refl _ _ _⟩;cases B<;>simp[Builtin.append_,bH hu,bH XI,bD hz,Builtin.lenOf,Pd,e3,hf,storeCells]
        cases hs with
        |DO l c=>exact pE _ _ rfl aS
        |slice a l c c' g hg tI pF=>exact pE _ _ rfl (by rcases pF.inv with⟨_,h2⟩|⟨_,_,_,h2,_⟩<;>omega)
        |cX a a' c g hg pF=>exact pE _ _ rfl (by omega)
       ·cases h
      ·rename_i Pd;split at h
       ·rename_i a;split at h
        ·rename_i qS;obtain⟨qQ,Eo⟩:=qS;split at h
         ·rename_i e' cs di;split at h
          ·rename_i Tz;obtain⟨rfl,Fe,Hc,Lr⟩:=Tz;injection h with h;rw[AW.dm]at h;injection h with hv hw;have qg:∀cs,W.get a.block≠some (.ro cs):=λcs hx=>by rw[di]at hx;cases hx
           cases hs with
           |cX _ a' _ g hg pF=>exact absurd rfl Hc
           |slice _ _ _ c' g hg tI pF=>
            rcases pF.inv with⟨hk,_⟩|⟨z',yk,ZO,Zi,xf⟩
            ·unfold dY at hk qQ;omega
            ·have An:z'=1:=by omega
             subst An;obtain⟨a1,a2,a3,c,q1,q2,q3,q4⟩:=hW.obj a.block _ g di hg;have akZ:c'=c.size:=by omega
             have Si:(⟨g.B,g.s+a.off,none⟩:aP)=⟨g.B,0,none⟩:=by rw[a1,Eo]
             rw[Si];have Df:∃lZ:List ad,LR σ cs lZ/\∀(j:Nat) (u:ad),lZ[j]? =some u->c[j]? =some u:=by
              have kW:∀j,j<cs.length->j<c.size:=λj hj=>by omega
              refine⟨c.toList.take cs.length,⟨by rw[fu];simp;omega,λj u u' h1 h2=>?_⟩,λj u hj=>?_⟩
              ·obtain⟨v',f1,f2⟩:=q4 j u h1;rw[lD]at h2;split at h2
               ·rw[rY,f1]at h2;injection h2 with h2;subst h2;exact f2
               ·cases h2
              ·rw[lD]at hj;split at hj
               ·simpa using hj
               ·cases hj
             obtain⟨lZ,KI,hoc⟩:=Df;have Nb:=KI.1;have hap:=KI.append (uF σ str);by_cases ud:bE+str.size<=c'
             ·have jC:=Lib.run_append_room_string (P:=P) w t0 t1 ty e i hu XI hi Da g.B bE c' c q1 str ud (by omega);have Cq:=ly c.toList bE (Lib.strCells str) (by rw[lS];simp;omega);rw[lS]at Cq;have Ko:=hW.IF (w':=w.setRow g.B (c.toList.take bE++Lib.strCells str++c.toList.drop (bE+str.size)).toArray) (b:=a.block) (off:=0) (o':=.tc e (cs++Lib.strCells str))
               (c':=(c.toList.take bE++Lib.strCells str++c.toList.drop (bE+str.size)).toArray) di (λ_=>by simp) hg (by simp[World.setRow]) rfl rfl rfl (λB hB=>i7 w g.B B _ hB) q1 (rP w g.B c _ e _ q1) (by simp[lS];omega)
               (λj hj=>by rw[vH (by simp[lS];omega),vH (by omega)])
               ⟨by simp only;omega,a2,⟨a3.1,λhx=>by rw[Lr]at hx;cases hx⟩,_,rP w g.B c _ e _ q1,by simp only[cT,lS];omega,by simp[lS];omega,λj u hj=>by
                 have h2:=Cq j;rw[rX]at hj;split at hj
                 ·rename_i hjl;rw[bK]at h2;obtain⟨u',f1,f2⟩:=q4 j u hj;exact⟨u',by rw[<-f1];simpa using h2,f2.mono (dd hW.fresh)⟩
                 ·rename_i hjl;have hjn:=(cn.1 hj).1;rw[lS]at hjn;rw[kE]at h2;obtain⟨u',f1,f2⟩:=(uF σ str).get hj;rw[Fe]at f1;rw[f1]at h2;exact⟨u',by simpa using h2,f2.mono (dd hW.fresh)⟩⟩
              have Sd:=VR.slice (σ:=bP σ W.next ⟨g.B,g.s+0,g.e⟩) ⟨W.next,0,none⟩ (bE+str.size) (dY+1) c' ⟨g.B,g.s+0,g.e⟩ cZ rfl (.open_ 1 c' (by omega) ud (by simp only;omega) (pF.max.2 (by omega)));simp only[a1,fY]at Sd;refine⟨_,_,_,jC,by rw[<-hv];exact Sd,?_,?_⟩
              ·rw[<-hw];simpa only[a1,fY]using Ko.1
              ·rw[<-hw];simpa only[a1,fY]using Ko.2
             ·have m5:=xJ (show c'<bE+str.size by omega);have jC:=Lib.run_append_grow_string (P:=P) w t0 t1 ty e i (.int .u8 0) hu XI hi hiz ⟨g.B,0,none⟩ bE c' lZ (by rw[<-Nb,Da];omega) (λj u hj=>by
               have:=hoc j u hj;rw[cP];simp[World.cell?,q1,this]) str (by omega) (by omega) (by rw[Xj];omega);obtain⟨hWk,hEk⟩:=hW.kill qg hg;have hge:=grownCap_ge w (bE+str.size) c' e;obtain⟨g1,g2,g3⟩:=IV (w:=w) hWk e (cs:=cs++Lib.strCells str) (ck:=lZ++Lib.strCells str) (zs:=Builtin.zeroCells (Value.int .u8 0).cells (grownCap w (bE+str.size) c' e-(bE+str.size))) (cap:=grownCap w (bE+str.size) c' e) hap
               (by rw[cT,lS,lN,show(Value.int IntKind.u8 0).cells.size=1 from rfl];omega) (by rw[cT,lS];omega) (hmx _ _ Jx) Lr
               (c:=lZ.toArray++(Lib.strCells str).toArray++Builtin.zeroCells (Value.int .u8 0).cells (grownCap w (bE+str.size) c' e-(bE+str.size))) (by simp)
              rw[cT,lS,Fe]at g1;exact⟨_,_,_,jC,by rw[<-hv];exact g1,by rw[<-hw];exact g2,by rw[<-hw];exact hEk.trans g3⟩
          ·cases h
         ·cases h
        ·cases h
       ·split at h
        ·rename_i SB;obtain⟨rfl,rfl,Lr⟩:=SB;injection h with h;rw[AW.dm]at h;injection h with hv hw;cases hs;have ud:str.size*i.bytes<=281474976710656:=by rw[Xj];omega
         have jC:=run_append_nil_string (P:=P) w t0 t1 ty e i (.int .u8 0) hu XI hi hiz str (by omega) (by omega) ud;have hge:=grownCap_ge w str.size 0 e;obtain⟨g1,g2,g3⟩:=IV (w:=w) hW e (cs:=Lib.strCells str) (ck:=Lib.strCells str) (zs:=Builtin.zeroCells (Value.int .u8 0).cells (grownCap w str.size 0 e-str.size)) (cap:=grownCap w str.size 0 e) (uF σ str)
          (by rw[lS,lN,show(Value.int IntKind.u8 0).cells.size=1 from rfl];omega) (by rw[lS];omega) (hmx _ _ (by omega)) Lr
          (c:=str.data.map (λb=>Value.int .u8 b.toNat)++Builtin.zeroCells (Value.int .u8 0).cells (grownCap w str.size 0 e-str.size)) (by congr 1;apply Array.ext';simp[Lib.strCells])
         rw[lS]at g1;exact⟨_,_,_,jC,by rw[<-hv,aN];exact g1,by rw[<-hw];exact g2,by rw[<-hw];exact g3⟩
        ·cases h
     ·cases h
    ·cases h
   ·cases h
  ·cases h
 ·cases h
def zx(P:ag)(W:AW)(argTypes:Array ae)(s x:ad):Option (ad×AW):=
 match argTypes.toList with
 |[t0,t1]=>if t0=t1 then dB P W argTypes s x else D8 P W argTypes s x
 |_=>none
def Hp(hW:bg σ W w.heap){argTypes:Array ae}{ty:ae}{s x s' x' v:ad}{W':AW}(h:zx P W argTypes s x=some (v,W'))(hs:VR σ s s')(hx:VR σ x x'):
 ∃σ' v' w',(Builtin.append_ argTypes ty #[s',x']).run P w=.ok v' w'/\VR σ' v v'/\bg σ' W' w'.heap/\eF σ W w σ' W' w':=by
 unfold zx at h;split at h
 ·split at h
  ·exact JH hW h hs hx
  ·exact HD hW h hs hx
 ·cases h
def rR(x:ad):Option ad:=match x with
 |.slice none _ _=>some (.pointer none)
 |.slice (some a) l c=>if l≠0/\c≠0 then some (.pointer (some a))else none
 |_=>none
def Dq{x x' v:ad}{ts:Array ae}{ty:ae}(h:rR x=some v)(hx:VR σ x x'):∃v',(Builtin.unsafeSliceData_ ts ty #[x']).run P w=.ok v' w/\VR σ v v':=by
 unfold rR at h;split at h
 ·injection h with h;subst h;cases hx;exact⟨_,Lib.run_unsafeSliceData_nil _ _ _ _ _,.J0⟩
 ·split at h
  ·rename_i a l c hc;injection h with h;subst h;cases hx with
   |slice _ _ _ c' g hg hs pF=>exact⟨_,Lib.run_unsafeSliceData_row _ _ _ _ _ _ (by rcases pF.inv with⟨_,h2⟩|⟨_,_,_,h2,_⟩<;>omega),.ptr a g hg hs⟩
   |cX _ a' _ g hg pF=>exact absurd rfl hc.1
  ·cases h
 ·cases h
def byteOf(v:ad):Option UInt8:=match v with
 |.int .u8 (.ofNat n)=>if n<256 then some (UInt8.ofNat n)else none
 |_=>none
def Sc{v:ad}{x:UInt8}(h:byteOf v=some x):v=.int .u8 x.toNat:=by
 unfold byteOf at h;split at h
 ·rename_i n;split at h
  ·rename_i hn;injection h with h;subst h;have:(UInt8.ofNat n).toNat=n:=by simp;omega
   rw[this];rfl
  ·cases h
 ·cases h
def yX:List ad->Option (List UInt8):=List.rec (motive:=λ_=>Option (List UInt8)) (some []) (λv _ ih=>match byteOf v with
 |some b=>ih.map (λl=>b::l)
 |none=>none)
def uO:∀{cs:List ad} {l:List UInt8},yX cs=some l->cs.length=l.length/\∀(j:Nat) (x:UInt8),l[j]? =some x->cs[j]? =some (.int .u8 x.toNat)
 |[],l,h=>by injection h with h;subst h;exact⟨rfl,λj x hj=>by simp at hj⟩
 |v::cs,l,h=>by
  have h':(match byteOf v with
   |some b=>(yX cs).map (λl=>b::l)
   |none=>none)=some l:=h;cases hv:byteOf v with
  |none=>rw[hv]at h';cases h'
  |some b0=>
   rw[hv]at h';cases hb:yX cs with
   |none=>rw[hb]at h';cases h'
   |some l0=>
    rw[hb]at h';injection h' with h';subst h';obtain⟨h1,h2⟩:=uO hb;refine⟨by simp[h1],λj x hj=>?_⟩;cases j with
    |zero=>simp only[Bx,gK]at hj|-;subst hj;exact Sc hv
    |succ j=>simpa using h2 j x (by simpa using hj)
def Rq(w:am)(a:aP)(m:Nat){c:Array ad}{t:ae}{fr:Nat×Nat}(h:w.heap[a.block]? =some (.cells c t fr)):∃fr',(w.freeze a m).heap[a.block]? =some (.cells c t fr'):=by
 unfold World.freeze;split
 ·exact⟨fr,h⟩
 ·obtain⟨lo,hi⟩:=fr;simp only[uZ,aq,h,cF];exact⟨_,rfl⟩
def RU(w:am)(a:aP)(m:Nat){B:Nat}(h:B≠a.block):(w.freeze a m).heap[B]? =w.heap[B]? :=by
 unfold World.freeze;split
 ·rfl
 ·simp only[uZ];rw[ap (aV h)]
def KO(w:am)(a:aP)(m:Nat):(w.freeze a m).heap.size=w.heap.size:=by
 unfold World.freeze;split
 ·rfl
 ·simp
def Rt(w:am)(a:aP)(m:Nat):(w.freeze a m).os=w.os/\(w.freeze a m).tape=w.tape/\(w.freeze a m).output=w.output:=by unfold World.freeze;split<;>exact⟨rfl,rfl,rfl⟩
def bg.X6(h:bg σ W w.heap){b:Nat}{t:ae}{cs:List ad}{g:vC}(hb:W.get b=some (.tc t cs))(hg:σ b=some g)(m:Nat):
 bg σ (W.kill b) (w.freeze ⟨g.B,0,none⟩ m).heap/\eF σ W w σ (W.kill b) (w.freeze ⟨g.B,0,none⟩ m):=by
 have qg:∀cs,W.get b≠some (.ro cs):=λcs hx=>by rw[hb]at hx;cases hx
 have hk:∀c o,(W.kill b).get c=some o->c≠b/\W.get c=some o:=λc o hc=>by
  by_cases hx:c=b
  ·subst hx;rw[AW.Ad]at hc;cases hc
  ·rw[AW.cE _ (aV hx)]at hc;exact⟨hx,hc⟩
 obtain⟨a1,a2,a3,c,q1,q2,q3,q4⟩:=h.obj b _ g hb hg;obtain⟨fr',oX⟩:=Rq w ⟨g.B,0,none⟩ m q1;have qY:=KO w ⟨g.B,0,none⟩ m;obtain⟨os1,os2,os3⟩:=Rt w ⟨g.B,0,none⟩ m;have jG:∀B,B≠g.B->(w.freeze ⟨g.B,0,none⟩ m).heap[B]? =w.heap[B]? :=λB hB=>RU w ⟨g.B,0,none⟩ m hB
 obtain⟨k1,k2⟩:=h.kill qg hg;refine⟨⟨k1.free,λb2 g2 h2=>by rw[qY];exact h.m8 b2 g2 h2,λx o2 g2 hx hy=>?_,k1.qK⟩,⟨.refl _,k2.ro,by rw[qY];exact aM _,os1,os2,os3,λB hB hm=>?_,k2.ghost,λx g2 hx _=>.inl hx⟩⟩
 ·obtain⟨Sz,hxg⟩:=hk x o2 hx;have fb:=h.obj x o2 g2 hxg hy;by_cases hB:g2.B=g.B
  ·have hd:g2.e<=g.s\/g.e<=g2.s:=(h.qK x b o2 _ g2 g Sz hxg hb hy hg (rwR (λ_ hx=>by cases hx))).resolve_left (λee=>ee hB);cases o2 with
   |cells DK=>obtain⟨c0,t0,fr0,e1,e0,e2,e3,e4⟩:=fb;rw[hB,q1]at e1;injection e1 with e1;injection e1 with e1 Zt amC;subst e1;exact⟨c,t,fr',by rw[hB];exact oX,λkW=>by omega,e2,e3,e4⟩
   |ro DK=>obtain⟨c0,t0,fr0,e1,e2,e3⟩:=fb;rw[hB,q1]at e1;injection e1 with e1;injection e1 with e1 Zt amC;subst e1;exact⟨c,t,fr',by rw[hB];exact oX,e2,e3⟩
   |map es kH=>obtain⟨_,_,fP,e1,_⟩:=fb;rw[hB,q1]at e1;cases e1
   |loop st mZ R nt ps ats bd=>obtain⟨_,_,r,e1,_⟩:=fb;rw[hB,q1]at e1;cases e1
   |mW s pos=>obtain⟨_,_,e1⟩:=fb;rw[hB,q1]at e1;cases e1
   |tc t2 DK=>obtain⟨b1,b2,b3,_⟩:=fb;omega
  ·exact fb.same (jG _ hB)
 ·exact jG B (λe=>by subst e;exact hm ⟨b,g,hg,rfl,qg⟩)
def mK(P:ag)(W:AW)(argTypes:Array ae)(p n:ad):Option (ad×AW):=match argTypes.toList with
 |[pt,_]=>match p,n with
  |.pointer q,.int .i64 (.ofNat m)=>if m=0 then some (.string .empty,W)else match q with
   |some a=>match P.underlying pt,W.get a.block with
    |some (.pointer e),some (.tc e' cs)=>if e=e'/\a.off=0/\m<=cs.length/\m<1099511627776 then match kQ P e,yX (cs.take m)with
     |some 1,some l=>some (.string ⟨l.toArray⟩,W.kill a.block)
     |_,_=>none
     else none
    |_,_=>none
   |none=>none
  |_,_=>none
 |_=>none
def zY(hW:bg σ W w.heap){argTypes:Array ae}{ty:ae}{p n p' n' v:ad}{W':AW}(h:mK P W argTypes p n=some (v,W'))(hp:VR σ p p')(hn:VR σ n n'):
 ∃σ' v' w',(Builtin.unsafeString_ argTypes ty #[p',n']).run P w=.ok v' w'/\VR σ' v v'/\bg σ' W' w'.heap/\eF σ W w σ' W' w':=by
 unfold mK at h;split at h
 ·rename_i pt it oX;have EU:argTypes=#[pt,it]:=by rw[<-ie (xs:=argTypes),oX]
  subst EU;split at h
  ·rename_i q m;cases hn;split at h
   ·rename_i Ye;injection h with h;injection h with h1 h2;subst h1;subst h2;subst Ye;obtain⟨q',rfl⟩:∃q',p'=.pointer q':=by cases hp<;>exact⟨_,rfl⟩
    exact⟨σ,_,w,Lib.run_unsafeString_none w pt it ty q',.string _,hW,eF.refl _ _ _⟩
   ·rename_i Ye;split at h
    ·rename_i a;split at h
     ·rename_i e e' cs hu di;split at h
      ·rename_i hc;obtain⟨rfl,Eo,hmc,hmb⟩:=hc;split at h
       ·rename_i l hz hl;injection h with h;injection h with h1 h2;subst h1;subst h2;cases hp with
        |ptr _ g hg hs=>
         obtain⟨a1,a2,a3,c,q1,q2,q3,q4⟩:=hW.obj a.block _ g di hg;obtain⟨b1,b2⟩:=uO hl;obtain⟨_,_,_,hcz⟩:=Bb hz;have eG:m=l.length:=by rw[<-b1,fu];omega
         have Si:(⟨g.B,g.s+a.off,none⟩:aP)=⟨g.B,0,none⟩:=by rw[a1,Eo]
         obtain⟨f1,f2⟩:=hW.X6 di hg m;refine⟨σ,_,_,?_,.string _,f1,f2⟩;rw[Si,eG];refine Lib.run_unsafeString_row w pt it ty e hu hcz g.B c.size (by simp[World.shape?,q1]) l (λe=>by subst e;simp at eG;omega) (by omega) (by omega) ?_;intro j x hj;have h3:=b2 j x hj;rw[lD]at h3;split at h3
         ·obtain⟨v',g1,g2⟩:=q4 j _ h3;cases g2;rw[cP];simp[World.cell?,q1,g1]
         ·cases h3
       ·cases h
      ·cases h
     ·cases h
    ·cases h
  ·cases h
 ·cases h
def qW(P:ag)(W:AW)(s d:ae)(x:ad):Option ad:=match x with
 |.slice (some a) n c=>(match P.underlying s,P.underlying d with
  |some (.slice e),some .string=>(match P.underlying e with
   |some (.int .u8)=>(match bM W (.slice (some a) n c) n with
    |some cs=>(match yX cs with
     |some l=>some (.string ⟨l.toArray⟩)
     |none=>none)
    |none=>none)
   |_=>none)
  |_,_=>none)
 |_=>none
def Ey(P:ag)(W:AW)(s d:ae)(x:ad)(alt:Option ad):Option ad:=match x with
 |.slice (some a) n c=>qW P W s d (.slice (some a) n c)
 |_=>alt
def F1(hW:bg σ W w.heap){s d:ae}{x x' v:ad}(h:qW P W s d x=some v)(hx:VR σ x x'):∃v',(convert s d x').run P w=.ok v' w/\VR σ v v':=by
 unfold qW at h;split at h;case h_2=>cases h
 rename_i a n c;split at h;case h_2=>cases h
 rename_i e hs hd;split at h;case h_2=>cases h
 rename_i he;split at h;case h_2=>cases h
 rename_i cs pS;split at h;case h_2=>cases h
 rename_i l hl;injection h with h;subst h;obtain⟨b1,b2⟩:=uO hl;rcases Nat.eq_zero_or_pos n with rfl|hn
 ·obtain rfl:cs=[]:=by unfold bM at pS;simp only[aq]at pS;injection pS with pS;exact pS.symm
  obtain rfl:l=[]:=mz.1 (by rw[<-b1];rfl);obtain⟨a',c',rfl⟩:∃a' c',x'=.slice (some a') 0 c':=by cases hx<;>exact⟨_,_,rfl⟩
  refine⟨.string ByteArray.empty,?_,.string _⟩;rw[run_convert_bytes_string w s d e _ 0 c' hs he hd,run_bytesToString w _ 0 c' [] (by simp[loadCells,loadCellsFrom])];rfl
 ·obtain⟨a',c',l',rfl,h1,h2,h3⟩:=fz (z:=1) hW (by rw[jE];exact pS) hx (by omega);refine⟨_,?_,.string _⟩;rw[jE]at h2;have hln:l.length=n:=by rw[<-b1,h2]
  rw[run_convert_bytes_string w s d e _ n c' hs he hd,run_bytesToString w _ n c' (l.map λb=>(b.toNat:Int)) ?_]
  ·rw[foldl_push_bytes];congr 2;have:((λn:Int=>UInt8.ofNat n.toNat)∘λb:UInt8=>(b.toNat:Int))=id:=by funext b;simp
   simp[ByteArray.empty,ByteArray.emptyWithCapacity,this];rfl
  ·have:=C6 (P:=P) w a' (l.map λb=>Value.int .u8 (b.toNat:Int)) (λj u hj=>by
    rw[jH]at hj;cases hlj:l[j]? with
    |none=>rw[hlj]at hj;cases hj
    |some y=>rw[hlj]at hj;injection hj with hj;subst hj;obtain⟨u',g1,g2⟩:=h1.get (b2 j y hlj);have:=h3 j u' g1;cases g2;exact this);simp only[gV,hln]at this;rw[this,List.map_map];rfl
end
end
section
variable [ah]
section
variable {P:ag} {σ:cI} {W:AW} {w:am}
def PI(P:ag)(W:AW)(argTypes:Array ae)(d x:ad):Option (ad×AW):=
 match argTypes.toList with
 |t0::_=>match kN P t0,d,x with
  |some e,.slice base dl _,.slice xb sl xc=>match kQ P e with
   |some z=>
    if Nat.min sl dl=0 then some (goInt 0,W)
    else if z=0 then none
    else match bM W (.slice xb sl xc) (Nat.min sl dl*z),base with
     |some new,some a=>(nI W a.block a.off new).map λW'=>(goInt (Nat.min sl dl),W')
     |_,_=>none
   |none=>none
  |_,_,_=>none
 |[]=>none
def Qk(hW:bg σ W w.heap){argTypes:Array ae}{ty:ae}{d x d' x' v:ad}{W':AW}(h:PI P W argTypes d x=some (v,W'))(hd:VR σ d d')(hx:VR σ x x'):
 ∃v' w',(Builtin.copy_ argTypes ty #[d',x']).run P w=.ok v' w'/\VR σ v v'/\bg σ W' w'.heap/\eF σ W w σ W' w':=by
 have h0:∀(a':aP),(loadCells a' 0).run P w=.ok #[] w:=λa'=>by simp[loadCells,loadCellsFrom]
 unfold PI at h;split at h
 ·rename_i t0 iB oX;have EU:argTypes=(t0::iB).toArray:=by rw[<-oX]
  subst EU;split at h
  ·rename_i e base dl dc xb sl xc he;have hu:=nW he;split at h
   ·rename_i z hz;have Za:∃Pw BP,x'=.slice Pw sl BP:=by cases hx<;>exact⟨_,_,rfl⟩
    obtain⟨Pw,BP,rfl⟩:=Za;have Zr:∃b' c',d'=.slice b' dl c':=by cases hd<;>exact⟨_,_,rfl⟩
    obtain⟨db',dc',rfl⟩:=Zr;split at h
    ·rename_i hn;injection h with h;injection h with hv hw;subst hv;subst hw;refine⟨goInt 0,w,?_,.int _ _,hW,eF.refl _ _ _⟩;have hf:(Builtin.firstCells z 0 (.slice Pw sl BP)).run P w=.ok #[] w:=by cases Pw<;>simp[Builtin.firstCells,h0]
     have Fw:min sl dl=0:=hn;cases db'<;>simp[Builtin.copy_,bH hu,Builtin.lenOf,bD hz,hf,storeCells,hn,goInt]
    ·rename_i hn;split at h
     ·cases h
     ·rename_i Sf;split at h
      ·rename_i new a hr;cases hwn:nI W a.block a.off new with
       |none=>rw[hwn]at h;cases h
       |some W2=>
        rw[hwn]at h;simp only[cF,gK,Dd]at h;obtain⟨hv,hw⟩:=h;subst hw;subst hv;obtain⟨iv,h1,h2,h3⟩:=xE (P:=P) hW hr hx;cases hd with
        |cX _ a' _ g hg pF=>exact absurd (Nat.min_zero _) hn
        |slice _ _ _ c' g hg tI pF=>obtain⟨w2,k1,k2,k3⟩:=sM (P:=P) hW hwn hg h1;refine⟨goInt (Nat.min sl dl),w2,?_,.int _ _,k2,k3⟩;have Fw:Nat.min sl dl=min sl dl:=rfl;rw[Fw]at h3;simp[Builtin.copy_,bH hu,Builtin.lenOf,bD hz,h3,k1,goInt]
      ·cases h
   ·cases h
  ·cases h
 ·cases h
def Jp(P:ag)(W:AW)(argTypes:Array ae)(x:ad):Option AW:=
 match argTypes.toList with
 |t0::_=>match kN P t0,x with
  |some e,.slice base n _=>match kQ P e,iM P e with
   |some z,some zv=>
    if n=0 then some W
    else match base with
     |none=>none
     |some a=>if(Builtin.zeroCells zv.cells n).toList.all bZ=true/\0<z then nI W a.block a.off (Builtin.zeroCells zv.cells n).toList else none
   |_,_=>none
  |_,_=>none
 |[]=>none
def Ns(hW:bg σ W w.heap){argTypes:Array ae}{ty:ae}{x x':ad}{W':AW}(h:Jp P W argTypes x=some W')(hx:VR σ x x'):
 ∃w',(Builtin.clear_ argTypes ty #[x']).run P w=.ok (.tuple #[]) w'/\bg σ W' w'.heap/\eF σ W w σ W' w':=by
 unfold Jp at h;split at h
 ·rename_i t0 iB oX;have EU:argTypes=(t0::iB).toArray:=by rw[<-oX]
  subst EU;split at h
  ·rename_i e base n c he;have hu:=nW he;split at h
   ·rename_i z zv hz hzv;obtain⟨yk,An⟩:=gf hzv w;split at h
    ·rename_i hn;subst hn;injection h with h;subst h;refine⟨w,?_,hW,eF.refl _ _ _⟩;cases hx<;>simp[Builtin.clear_,bH hu]
    ·rename_i hn;split at h
     ·cases h
     ·rename_i a;split at h
      ·rename_i hc;cases hx with
       |cX _ a' _ g hg pF=>exact absurd rfl hn
       |slice _ _ _ c' g hg tI pF=>obtain⟨w2,k1,k2,k3⟩:=sM (P:=P) hW h hg (LR.mM (σ:=σ) (λ_=>eu) hc.1);refine⟨w2,?_,k2,k3⟩;obtain⟨m,rfl⟩:∃m,n=m+1:=⟨n-1,by omega⟩;simp[Builtin.clear_,bH hu,yk,k1]
      ·cases h
   ·cases h
  ·cases h
 ·cases h
def Yz(k:aO)(n:Int)(h:k.min<=n/\n<=k.max):k.wrap n=n:=by obtain⟨h1,h2⟩:=h;cases k<;>simp[IntKind.wrap,IntKind.min,IntKind.max,IntKind.signed,IntKind.bits]at * <;>omega
def B7(k:aO)(n:Int):Int:=if k.min<=n/\n<=k.max then n else k.wrap n
def vT(k:aO)(n:Int):B7 k n=k.wrap n:=by
 unfold B7;split
 ·rename_i h;exact(Yz k n h).symm
 ·rfl
def xZ(k:aO)(n:Int):ad:=
 Int.rec (motive:=λ_=>ad) (λa=>Nat.rec (motive:=λ_=>ad) (.int k (.ofNat 0)) (λm _=>.int k (.ofNat (Nat.succ m))) a)
  (λa=>Nat.rec (motive:=λ_=>ad) (.int k (.negSucc 0)) (λm _=>.int k (.negSucc (Nat.succ m))) a) n
def oL(k:aO)(n:Int):xZ k n=.int k n:=by
 cases n with
 |ofNat a=>cases a<;>rfl
 |negSucc a=>cases a<;>rfl
def Bc(op:BinOp)(k:aO)(a b:Int):Option ad:=
 match op with
 |.add=>some (xZ k (B7 k (a+b)))
 |.sub=>some (xZ k (B7 k (a-b)))
 |.mul=>some (xZ k (B7 k (a*b)))
 |.eql=>some (.bool (decide (a=b)))
 |.neq=>some (.bool (!decide (a=b)))
 |.lss=>some (.bool (decide (a<b)))
 |.leq=>some (.bool (decide (a<=b)))
 |.gtr=>some (.bool (decide (b<a)))
 |.geq=>some (.bool (decide (b<=a)))
 |_=>none
def mh(P:ag)(W:AW)(t:ae)(x y:ad):Option Bool:=
 match P.underlying t,x,y with
 |some (.pointer _),.pointer none,.pointer b=>some b.isNone
 |some (.pointer _),.pointer (some _),.pointer none=>some false
 |some (.pointer e),.pointer (some a),.pointer (some b)=>match kQ P e with
  |some (_+1)=>match W.get a.block,W.get b.block with
   |some (.cells ca),some (.cells cb)=>if a.block=b.block then some (decide (a.off=b.off))else if a.off<ca.length/\b.off<cb.length then some false else none
   |_,_=>none
  |_=>none
 |some (.slice _),.slice none _ _,.slice b _ _=>some b.isNone
 |some (.slice _),.slice (some _) _ _,.slice none _ _=>some false
 |some (.map _ _),.map none,.map b=>some b.isNone
 |some (.map _ _),.map (some _),.map none=>some false
 |some (.func _ _ _),.nilFunc,.nilFunc=>some true
 |some (.func _ _ _),.nilFunc,.func _ _ _=>some false
 |some (.func _ _ _),.func _ _ _,.nilFunc=>some false
 |_,_,_=>none
def Wg(hW:bg σ W w.heap){t:ae}{x y x' y':ad}{b:Bool}(h:mh P W t x y=some b)(hx:VR σ x x')(hy:VR σ y y')(d:Nat):
 (Op.equalIn (d+1) t x' y').run P w=.ok b w:=by
 unfold mh at h;split at h
 ·rename_i e b0 hu;injection h with h;subst h;cases hx;cases hy<;>simp[Op.equalIn,bH hu]
 ·rename_i e a0 hu;injection h with h;subst h;cases hx;cases hy;simp[Op.equalIn,bH hu]
 ·rename_i e a0 b0 hu;split at h
  ·rename_i n hn;split at h
   ·split at h
    ·rename_i Uk;injection h with h;subst h;cases hx with
     |ptr _ g hg hs=>
      cases hy with
      |ptr _ g2 tL zA=>
       rw[<-Uk,hg]at tL;injection tL with tL;subst tL;have akU:((⟨g.B,g.s+a0.off,none⟩:aP)==⟨g.B,g.s+b0.off,none⟩)=decide (a0.off=b0.off):=by rw[wO];simp
       simp[Op.equalIn,bH hu,bD hn,sameAddr,akU]
    ·rename_i ca cb hca Jl Uk;split at h
     ·rename_i nM;injection h with h;subst h;cases hx with
      |ptr _ g hg hs=>
       cases hy with
       |ptr _ g2 tL zA=>
        obtain⟨c1,t1,fr1,p1,p0,p2,p3,_⟩:=hW.obj _ _ g hca hg;obtain rfl:=p0 (by omega);obtain⟨c2,t2,fr2,q1,q0,q2,q3,_⟩:=hW.obj _ _ g2 Jl tL;obtain rfl:=q0 (by omega);have hd:=hW.qK _ _ _ _ g g2 Uk hca Jl hg tL rfl;have ee:(⟨g.B,g.s+a0.off,none⟩:aP)≠⟨g2.B,g2.s+b0.off,none⟩:=by
         intro he;injection he with e1 e2 _;rcases hd with r|r|r
         ·exact r e1
         ·omega
         ·omega
        simp[Op.equalIn,bH hu,bD hn,run_sameAddr_other w ee p1 q1]
     ·cases h
   ·cases h
  ·cases h
 ·rename_i e _ _ b0 _ _ hu;injection h with h;subst h;cases hx;cases hy<;>simp[Op.equalIn,bH hu]
 ·rename_i e a0 _ _ _ _ hu;injection h with h;subst h;cases hx<;>cases hy<;>simp[Op.equalIn,bH hu]
 ·rename_i k e b0 hu;injection h with h;subst h;cases hx;cases hy<;>simp[Op.equalIn,bH hu]
 ·rename_i k e a0 hu;injection h with h;subst h;cases hx;cases hy;simp[Op.equalIn,bH hu]
 ·rename_i ps rs vv hu;injection h with h;subst h;cases hx;cases hy;simp[Op.equalIn,bH hu]
 ·rename_i ps rs vv _ _ _ hu;injection h with h;subst h;cases hx;cases hy;simp[Op.equalIn,bH hu]
 ·rename_i ps rs vv _ _ _ hu;injection h with h;subst h;cases hx;cases hy;simp[Op.equalIn,bH hu]
 ·cases h
end
end
section
variable [ah]
section
variable {P:ag} {σ:cI} {W:AW} {w:am}
def FR(σ:cI):Option (Nat×ad)->Option (Nat×ad)->Prop
 |none,none=>True
 |some (i,v),some (j,v')=>i=j/\VR σ v v'
 |_,_=>False
def ER.of_cons{e:bc}{l m:List bc}(h:ER σ (e::l) m):∃e' l',m=e'::l'/\VR σ e.key e'.key/\VR σ e.val e'.val/\e.born=e'.born/\ER σ l l':=by
 cases m with
 |nil=>have:=h.1;simp at this
 |cons e' l'=>have h0:=h.2 0 e e' (by simp) (by simp);exact⟨e',l',rfl,h0.1,h0.2.1,h0.2.2,by have:=h.1;simpa using this,λi u u' a b=>h.2 (i+1) u u' (by simpa using a) (by simpa using b)⟩
def ER.of_nil{m:List bc}(h:ER σ [] m):m=[]:=by have:=h.1;simp at this;exact uy this.symm
def ER.nil:ER σ [] []:=⟨rfl,λi e e' a=>by simp at a⟩
def eI(es:List bc):Bool:=es.all λe=>bC e.key
def KE(kind:TypeDesc)(k:ad):∀(es fP:List bc) (i:Nat) (r:Option (Nat×ad)),ER σ es fP->eI es=true->Instr.findNow kind k es i=some r->
 ∃r',Instr.findNow kind k fP i=some r'/\FR σ r r':=by
 intro es;induction es with
 |nil=>intro fP i r h _ hf;have:=h.of_nil;subst this;simp only[Instr.findNow]at hf|-;injection hf with hf;subst hf;exact⟨none,rfl,ao⟩
 |cons e es ih=>
  intro fP i r h hp hf;obtain⟨e',l',rfl,hk,hv,_,hl⟩:=h.of_cons;simp only[eI,eK,a8]at hp;have ZV:=fe hp.1 hk;simp only[Instr.findNow]at hf|-;rw[ZV];cases hs:Instr.sameNow kind k e.key with
  |none=>rw[hs]at hf;cases hf
  |some b=>
   rw[hs]at hf;cases b with
   |true=>simp only at hf|-;injection hf with hf;subst hf;exact⟨_,rfl,rfl,hv⟩
   |false=>simp only at hf|-;exact ih l' (i+1) r hl hp.2 hf
def P0(P:ag)(kt:ae)(k:ad):List bc->Nat->Option (Option (Nat×ad))
 |[],_=>some none
 |e::es,i=>match bW P (Op.equal kt k e.key)with
  |some true=>some (some (i,e.val))
  |some false=>P0 P kt k es (i+1)
  |none=>none
def uW(kt:ae)(k:ad):∀(es fP:List bc) (i:Nat) (r:Option (Nat×ad)),ER σ es fP->eI es=true->P0 P kt k es i=some r->
 ∃r',(Instr.findAsking kt k fP i).run P w=.ok r' w/\FR σ r r':=by
 intro es;induction es with
 |nil=>intro fP i r h _ hf;have:=h.of_nil;subst this;simp only[P0]at hf;injection hf with hf;subst hf;exact⟨none,rfl,ao⟩
 |cons e es ih=>
  intro fP i r h hp hf;obtain⟨e',l',rfl,hk,hv,_,hl⟩:=h.of_cons;simp only[eI,eK,a8]at hp;have ZV:=fe hp.1 hk;simp only[P0]at hf;cases hs:bW P (Op.equal kt k e.key)with
  |none=>rw[hs]at hf;cases hf
  |some b=>
   rw[hs]at hf;have hr:=pR _ hs w;rw[<-ZV]at hr;cases b with
   |true=>simp only at hf;injection hf with hf;subst hf;exact⟨some (i,e'.val),by simp[Instr.findAsking,hr],rfl,hv⟩
   |false=>simp only at hf;obtain⟨r',h1,h2⟩:=ih l' (i+1) r hl hp.2 hf;exact⟨r',by simp[Instr.findAsking,hr,h1],h2⟩
def OP(P:ag)(kt:ae)(k:ad)(es:List bc):Option (Option (Nat×ad)):=
 if bC k=true/\eI es=true then
  match P.underlying kt with
  |some kind=>match Instr.findNow kind k es 0 with
   |some r=>some r
   |none=>none
  |none=>none
 else none
def tr(P:ag)(kt:ae)(k:ad)(es:List bc):Option (Option (Nat×ad)):=
 match OP P kt k es with
 |some r=>some r
 |none=>if bC k=true/\eI es=true then
  match P.underlying kt with
  |some (.array n e)=>(match Instr.findNow (.array n e) k es 0 with|some _=>none|none=>P0 P kt k es 0)
  |some (.struct fs)=>(match Instr.findNow (.struct fs) k es 0 with|some _=>none|none=>P0 P kt k es 0)
  |_=>none
  else none
def zX(kind:TypeDesc)(k:ad):∀(es fP:List bc) (i:Nat),ER σ es fP->eI es=true->Instr.findNow kind k es i=none->Instr.findNow kind k fP i=none:=by
 intro es;induction es with
 |nil=>intro fP i h _ hf;simp[Instr.findNow]at hf
 |cons e es ih=>
  intro fP i h hp hf;obtain⟨e',l',rfl,hk,hv,_,hl⟩:=h.of_cons;simp only[eI,eK,a8]at hp;have ZV:=fe hp.1 hk;simp only[Instr.findNow]at hf|-;rw[ZV];cases hs:Instr.sameNow kind k e.key with
  |none=>rfl
  |some b=>
   rw[hs]at hf;cases b with
   |true=>simp at hf
   |false=>simp only at hf|-;exact ih l' (i+1) hl hp.2 hf
def rF{kt:ae}{k k':ad}{es fP:List bc}{r:Option (Nat×ad)}(h:tr P kt k es=some r)(hk:VR σ k k')(he:ER σ es fP):
 ∃r',(Instr.findKey kt k' fP).run P w=.ok r' w/\FR σ r r'/\k'=k:=by
 unfold tr at h;split at h
 ·rename_i r0 h0;injection h with h;subst h;unfold OP at h0;split at h0
  ·rename_i hc;have ZV:=fe hc.1 hk;subst ZV;split at h0
   ·rename_i kind hu;split at h0
    ·rename_i r1 h1;injection h0 with h0;subst h0;obtain⟨r',a,b⟩:=KE kind k' es fP 0 r1 he hc.2 h1;exact⟨r',by simp[Instr.findKey,bH hu,a],b,rfl⟩
    ·cases h0
   ·cases h0
  ·cases h0
 ·split at h
  ·rename_i hc;have ZV:=fe hc.1 hk;subst ZV;split at h
   ·rename_i n e hu;split at h
    ·cases h
    ·rename_i h1;obtain⟨r',a,b⟩:=uW (P:=P) (w:=w) kt k' es fP 0 r he hc.2 h;exact⟨r',by simp[Instr.findKey,bH hu,zX _ _ es fP 0 he hc.2 h1,a],b,rfl⟩
   ·rename_i fs hu;split at h
    ·cases h
    ·rename_i h1;obtain⟨r',a,b⟩:=uW (P:=P) (w:=w) kt k' es fP 0 r he hc.2 h;exact⟨r',by simp[Instr.findKey,bH hu,zX _ _ es fP 0 he hc.2 h1,a],b,rfl⟩
   ·cases h
  ·cases h
def rL(P:ag)(empty:Bool)(kt:ae)(k:ad):Bool:=
 bC k&&(bW P (Instr.checkKey empty 10000 kt k)).isSome
def kz{empty:Bool}{kt:ae}{k k':ad}(h:rL P empty kt k=true)(hk:VR σ k k')(w:am):(Instr.checkKey empty 10000 kt k').run P w=.ok () w:=by
 simp only[rL,a8]at h;rw[fe h.1 hk];cases hp:bW P (Instr.checkKey empty 10000 kt k)with
 |none=>rw[hp]at h;simp at h
 |some u=>exact pR _ hp w
def CV{z:ad}(h:z.cells.toList.all bZ=true):VR σ z z:=by
 cases z with
 |agg cs=>exact VR.Nz (LR.mM (λ_=>eu) h)
 |_=>exact eu (by simpa[Value.cells]using h)
def Di(hW:bg σ W w.heap){r:Nat}{g:vC}{es:List bc}{c:Nat}(hr:W.get r=some (.map es c))(hg:σ r=some g):
 g.s=0/\g.e=1/\∃fP:Array bc,w.heap[g.B]? =some (.map fP c)/\ER σ es fP.toList:=hW.obj r _ g hr hg
def run_getObj_map{B:Nat}{es:Array bc}{c:Nat}(h:w.heap[B]? =some (.map es c)):(getObj B).run P w=.ok (.map es c) w:=by simp[getObj,Sem.run,h]
def lJ{B:Nat}{es:Array bc}{c:Nat}(o:oz)(h:w.heap[B]? =some (.map es c)):(setObj B o).run P w=.ok () {w with heap:=w.heap.setIfInBounds B o}:=by simp[setObj,Sem.run,h]
def uY(P:ag)(e:ae)(ok:Bool)(r:Option (Nat×ad)):Option ad:=
 match r with
 |some (_,v)=>some (if ok then .tuple #[v,.bool true]else v)
 |none=>match iM P e with
  |some z=>some (if ok then .tuple #[z,.bool false]else z)
  |none=>none
def ll(P:ag)(W:AW)(t:ae)(m k:ad)(ok:Bool):Option ad:=
 match P.underlying t,m with
 |some (.map kt e),.map none=>if rL P true kt k then uY P e ok none else none
 |some (.map kt e),.map (some r)=>match W.get r with
  |some (.map es _)=>if rL P es.isEmpty kt k then match tr P kt k es with
   |some r=>uY P e ok r
   |none=>none
   else none
  |_=>none
 |_,_=>none
def IW{a b a' b':ad}(h1:VR σ a a')(h2:VR σ b b'):VR σ (.tuple #[a,b]) (.tuple #[a',b']):=VR.tuple' (by simpa using LR.cons h1 (.cons h2 .nil))
def Li(kt:ae)(d:TypeDesc)(hu:P.underlying kt=some d)(k:ad):(Instr.findKey kt k []).run P w=.ok none w:=by simp[Instr.findKey,bH hu,Instr.findNow]
def FL{kt:ae}(h:P.underlying kt=none)(empty:Bool)(d:Nat)(k:ad):(Instr.checkKey empty (d+1) kt k).run P w=.halt (.stuck "no such type") w:=by simp[Instr.checkKey,underlying,h]
def LA{empty:Bool}{kt:ae}{k:ad}(h:rL P empty kt k=true):∃d,P.underlying kt=some d:=by
 simp only[rL,a8]at h;cases hp:bW P (Instr.checkKey empty 10000 kt k)with
 |none=>rw[hp]at h;simp at h
 |some u=>
  have hr:=pR (P:=P) _ hp default;cases hd:P.underlying kt with
  |some d=>exact⟨d,rfl⟩
  |none=>exfalso;have h1:(Instr.checkKey empty 10000 kt k).run P default=.halt (.stuck "no such type") default:=FL hd empty 9999 k;rw[h1]at hr;cases hr
def Cc{es:List bc}{fP:Array bc}(h:ER σ es fP.toList):fP.isEmpty=es.isEmpty:=by obtain⟨l⟩:=fP;have h1:=h.1;cases es<;>cases l<;>first|rfl|(simp at h1;done)|simp
def Iw(fP:Array bc)(i:Nat):(fP.eraseIdxIfInBounds i).toList=fP.toList.eraseIdx i:=by
 unfold Array.eraseIdxIfInBounds;split
 ·simp
 ·rename_i hi;rw[List.eraseIdx_of_length_le];simp;omega
def Qx(fP:Array bc)(i:Nat)(hi:i<fP.size)(k v:ad):fP.modify i (λe=>{e with key:=k,val:=v})=fP.setIfInBounds i {fP[i]with key:=k,val:=v}:=by
 apply Array.ext_getElem?;intro n;rw[uZ,CX];by_cases hn:i=n
 ·subst hn;simp[hi]
 ·simp[hn]
def Kv(hW:bg σ W w.heap){t:ae}{m k m' k' v:ad}{ok:Bool}(h:ll P W t m k ok=some v)(hm:VR σ m m')(hk:VR σ k k'):
 ∃v',(Instr.lookup t m' k' ok).run P w=.ok v' w/\VR σ v v':=by
 unfold ll at h;split at h
 ·rename_i kt e hu;split at h
  ·rename_i Qp;cases hm;obtain⟨d,hd⟩:=LA Qp;simp only[uY]at h;split at h
   ·rename_i z hz;injection h with h;subst h;obtain⟨yk,An⟩:=gf hz w;refine⟨if ok then .tuple #[z,.bool false]else z,?_,?_⟩
    ·simp[Instr.lookup,bH hu,kz Qp hk w,Li kt d hd,yk]
    ·cases ok
     ·exact CV An
     ·exact IW (CV An) (.bool false)
   ·cases h
  ·cases h
 ·rename_i kt e r hu;split at h
  ·rename_i es c hr;split at h
   ·rename_i Qp;split at h
    ·rename_i fr hf;cases hm with
     |map _ g hg=>
      obtain⟨g1,g2,fP,g3,g4⟩:=Di hW hr hg;obtain⟨r',f1,f2,f3⟩:=rF (w:=w) hf hk g4;have T9:=Cc g4;cases fr with
      |some p=>
       cases r' with
       |none=>exact f2.elim
       |some p'=>
        simp only[uY]at h;injection h with h;subst h;refine⟨if ok then .tuple #[p'.2,.bool true]else p'.2,?_,?_⟩
        ·simp only[Instr.lookup,b9,bH hu,bX,run_getObj_map g3,fq,T9,kz Qp hk w,f1]
        ·cases ok
         ·exact f2.2
         ·exact IW f2.2 (.bool true)
      |none=>
       cases r' with
       |some p'=>exact f2.elim
       |none=>
        simp only[uY]at h;split at h
        ·rename_i z hz;injection h with h;subst h;obtain⟨yk,An⟩:=gf hz w;refine⟨if ok then .tuple #[z,.bool false]else z,?_,?_⟩
         ·simp only[Instr.lookup,b9,bH hu,bX,run_getObj_map g3,fq,T9,kz Qp hk w,f1,yk]
         ·cases ok
          ·exact CV An
          ·exact IW (CV An) (.bool false)
        ·cases h
    ·cases h
   ·cases h
  ·cases h
 ·cases h
def gJ(P:ag)(W:AW)(t:ae)(m k v:ad):Option AW:=
 match P.underlying t,m with
 |some (.map kt _),.map (some r)=>match W.get r with
  |some (.map es c)=>if rL P false kt k then match tr P kt k es with
   |some (some (i,_))=>match es[i]? with
    |some e=>if Instr.sameBits 10000 e.key k=true/\bC e.key=true then some (W.put r (.map (es.set i {e with key:=k,val:=v}) c))else none
    |none=>none
   |some none=>some (W.put r (.map (es++[{key:=k,val:=v,born:=c}]) (c+1)))
   |none=>none
   else none
  |_=>none
 |_,_=>none
def ER.set{es fP:List bc}(h:ER σ es fP)(i:Nat){e e':bc}(hk:VR σ e.key e'.key)(hv:VR σ e.val e'.val)(hb:e.born=e'.born):ER σ (es.set i e) (fP.set i e'):=by
 refine⟨by simp[h.1],λj a b x y=>?_⟩;rw[n8]at x y;by_cases hn:i=j
 ·subst hn;simp only[ba]at x y;split at x
  ·split at y
   ·simp at x y;subst x;subst y;exact⟨hk,hv,hb⟩
   ·cases y
  ·cases x
 ·rw[ap hn]at x y;exact h.2 j a b x y
def ER.snoc{es fP:List bc}(h:ER σ es fP){e e':bc}(hk:VR σ e.key e'.key)(hv:VR σ e.val e'.val)(hb:e.born=e'.born):ER σ (es++[e]) (fP++[e']):=by
 refine⟨by simp[h.1],λj a b x y=>?_⟩;rw[rX]at x y;rw[<-h.1]at y;split at x
 ·rename_i hj;rw[aq hj]at y;exact h.2 j a b x y
 ·rename_i hj;rw[ap hj]at y;cases hjj:j-es.length with
  |zero=>rw[hjj]at x y;simp at x y;subst x;subst y;exact⟨hk,hv,hb⟩
  |succ n=>rw[hjj]at x;simp at x
def ER.erase{es fP:List bc}(h:ER σ es fP)(i:Nat):ER σ (es.eraseIdx i) (fP.eraseIdx i):=by
 refine⟨by simp[List.length_eraseIdx,h.1],λj a b x y=>?_⟩;rw[List.getElem?_eraseIdx]at x y;split at x
 ·rename_i hj;rw[aq hj]at y;exact h.2 _ a b x y
 ·rename_i hj;rw[ap hj]at y;exact h.2 _ a b x y
def Dk(hW:bg σ W w.heap){r:Nat}{g:vC}{es Yc:List bc}{fP:Array bc}{c c2:Nat}(hr:W.get r=some (.map es c))(hg:σ r=some g)(h1:g.s=0)(h2:g.e=1)(h3:w.heap[g.B]? =some (.map fP c))
 (YI:Array bc)(he:ER σ Yc YI.toList):
 bg σ (W.put r (.map Yc c2)) (w.heap.setIfInBounds g.B (.map YI c2))/\eF σ W w σ (W.put r (.map Yc c2)) {w with heap:=w.heap.setIfInBounds g.B (.map YI c2)}:=by
 have kW:g.B<w.heap.size:=(dC.1 h3).1;exact hW.setObj hr (λ_ hx=>by cases hx) hg ⟨h1,h2⟩ (λc t fr hx=>by rw[h3]at hx;cases hx)
  ⟨h1,h2,YI,by simp[kW],he⟩
def D1(hW:bg σ W w.heap){t:ae}{m k v m' k' v':ad}{W':AW}(h:gJ P W t m k v=some W')(hm:VR σ m m')(hk:VR σ k k')(hv:VR σ v v'):
 ∃w',(Instr.mapUpdate t m' k' v').run P w=.ok () w'/\bg σ W' w'.heap/\eF σ W w σ W' w':=by
 unfold gJ at h;split at h
 ·rename_i kt e r hu;split at h
  ·rename_i es c hr;split at h
   ·rename_i Qp;cases hm with
    |map _ g hg=>
     obtain⟨g1,g2,fP,g3,g4⟩:=Di hW hr hg;split at h
     ·rename_i i u hf;obtain⟨r',f1,f2,f3⟩:=rF (w:=w) hf hk g4;subst f3;split at h
      ·rename_i en hen;split at h
       ·rename_i hsb;injection h with h;subst h;cases r' with
        |none=>exact f2.elim
        |some p=>
         obtain⟨j,u'⟩:=p;obtain⟨rfl,_⟩:=f2;have pb:i<fP.size:=by have h0:=(cn.1 hen).1;have:=g4.1;simp at this;omega
         have ani:fP[i]? =some fP[i]:=hZ pb;have hee:=g4.2 i en fP[i] hen (by simp[pb]);have amL:fP[i].key=en.key:=fe hsb.2 hee.1;obtain⟨q1,q2⟩:=Dk (c2:=c) hW hr hg g1 g2 g3 (fP.setIfInBounds i {fP[i]with key:=k',val:=v'}) (Yc:=es.set i {en with key:=k',val:=v})
          (by rw[I8];exact g4.set i (e:={en with key:=k',val:=v}) (e':={fP[i]with key:=k',val:=v'}) hk hv hee.2.2)
         refine⟨_,?_,q1,q2⟩;have adP:=Qx fP i pb k' v';have Y3:(Instr.keyThatStays (((fP[i]?).map (·.key)).getD k') k').run P w=.ok k' w:=by rw[ani];simp only[cF,nA,amL,Instr.keyThatStays];rw[aq hsb.1];rfl
         simp only[Instr.mapUpdate,b9,bH hu,bX,run_getObj_map g3,kz Qp hk w,f1,Y3,adP];exact lJ _ g3
       ·cases h
      ·cases h
     ·rename_i hf;obtain⟨r',f1,f2,f3⟩:=rF (w:=w) hf hk g4;subst f3;injection h with h;subst h;cases r' with
      |some p=>exact f2.elim
      |none=>
       obtain⟨q1,q2⟩:=Dk (c2:=c+1) hW hr hg g1 g2 g3 (fP.push {key:=k',val:=v',born:=c}) (Yc:=es++[{key:=k',val:=v,born:=c}])
        (by rw[Array.toList_push];exact g4.snoc (e:={key:=k',val:=v,born:=c}) (e':={key:=k',val:=v',born:=c}) hk hv rfl)
       refine⟨_,?_,q1,q2⟩;simp only[Instr.mapUpdate,b9,bH hu,bX,run_getObj_map g3,kz Qp hk w,f1];exact lJ _ g3
     ·cases h
   ·cases h
  ·cases h
 ·cases h
def qc(P:ag)(W:AW)(argTypes:Array ae)(m k:ad):Option AW:=
 match argTypes.toList with
 |t::_=>match P.underlying t,m with
  |some (.map kt _),.map none=>if rL P true kt k then some W else none
  |some (.map kt _),.map (some r)=>match W.get r with
   |some (.map es c)=>if rL P es.isEmpty kt k then match tr P kt k es with
    |some (some (i,_))=>some (W.put r (.map (es.eraseIdx i) c))
    |some none=>some (W.put r (.map es c))
    |none=>none
    else none
   |_=>none
  |_,_=>none
 |[]=>none
def Lm(hW:bg σ W w.heap){argTypes:Array ae}{ty:ae}{m k m' k':ad}{W':AW}(h:qc P W argTypes m k=some W')(hm:VR σ m m')(hk:VR σ k k'):
 ∃w',(Builtin.delete_ argTypes ty #[m',k']).run P w=.ok (.tuple #[]) w'/\bg σ W' w'.heap/\eF σ W w σ W' w':=by
 unfold qc at h;split at h
 ·rename_i t iB oX;have EU:argTypes=(t::iB).toArray:=by rw[<-oX]
  subst EU;split at h
  ·rename_i kt e hu;split at h
   ·rename_i Qp;injection h with h;subst h;cases hm;refine⟨w,?_,hW,eF.refl _ _ _⟩;simp[Builtin.delete_,bH hu,kz Qp hk w]
   ·cases h
  ·rename_i kt e r hu;split at h
   ·rename_i es c hr;split at h
    ·rename_i Qp;cases hm with
     |map _ g hg=>
      obtain⟨g1,g2,fP,g3,g4⟩:=Di hW hr hg;have T9:=Cc g4;split at h
      ·rename_i i u hf;obtain⟨r',f1,f2,f3⟩:=rF (w:=w) hf hk g4;subst f3;injection h with h;subst h;cases r' with
       |none=>exact f2.elim
       |some p=>
        obtain⟨j,u'⟩:=p;obtain⟨rfl,_⟩:=f2;obtain⟨q1,q2⟩:=Dk (c2:=c) hW hr hg g1 g2 g3 (fP.eraseIdxIfInBounds i) (Yc:=es.eraseIdx i)
         (by rw[Iw];exact g4.erase i)
        refine⟨_,?_,q1,q2⟩;have hso:=lJ (P:=P) (.map (fP.eraseIdxIfInBounds i) c) g3;simp[Builtin.delete_,bH hu,run_getObj_map g3,T9,kz Qp hk w,f1,hso]
      ·rename_i hf;obtain⟨r',f1,f2,f3⟩:=rF (w:=w) hf hk g4;subst f3;injection h with h;subst h;cases r' with
       |some p=>exact f2.elim
       |none=>obtain⟨q1,q2⟩:=Dk (c2:=c) hW hr hg g1 g2 g3 fP (Yc:=es) g4;refine⟨_,?_,q1,q2⟩;have hso:=lJ (P:=P) (.map fP c) g3;simp[Builtin.delete_,bH hu,run_getObj_map g3,T9,kz Qp hk w,f1,hso]
      ·cases h
    ·cases h
   ·cases h
  ·cases h
 ·cases h
end
end
section
variable [ah]
def Ac(P:ag)(t:ae)(cs:Array ad)(off:Nat):Option ad:=
 match QT P t with
 |some true=>match kQ P t with
  |some n=>some (.agg (cs.extract off (off+n)))
  |none=>none
 |some false=>cs[off]?
 |none=>none
def TW(P:ag)(g:ae->ad->ad->Option Bool)(xs ys:Array ad):List Field->Option Bool
 |[]=>some true
 |f::fs=>if f.name= "_" then none else match Ac P f.type xs f.offset,Ac P f.type ys f.offset with
  |some a,some b=>(match g f.type a b with
   |some true=>TW P g xs ys fs
   |some false=>some false
   |none=>none)
  |_,_=>none
def I7(P:ag):Nat->ae->ad->ad->Option Bool
 |0,_,_,_=>none
 |n+1,t,x,y=>match P.underlying t with
  |some (.int _)=>(match x,y with
   |.int k a,.int k' b=>if k=k' then some (a==b)else none
   |_,_=>none)
  |some .bool=>(match x,y with
   |.bool a,.bool b=>some (a==b)
   |_,_=>none)
  |some (.struct fs)=>(match x,y with
   |.agg xs,.agg ys=>if P.stoodInHeld t=true then none else TW P (I7 P n) xs ys fs.toList
   |_,_=>none)
  |_=>none
def Fi(P:ag)(t:ae)(x y:ad):Option Bool:=match x,y with
 |.agg _,.agg _=>if P.eqGuardType P.depth t=true then none else I7 P 8 t x y
 |_,_=>none
def nl(P:ag)(W:AW)(op:BinOp)(t:ae)(x y:ad):Option ad:=
 match x,y with
 |.int k a,.int k' b=>if k=k' then Bc op k a b else none
 |_,_=>match op with
  |.eql=>(match mh P W t x y with
   |some b=>some (.bool b)
   |none=>(Fi P t x y).map .bool)
  |.neq=>(match mh P W t x y with
   |some b=>some (.bool !b)
   |none=>(Fi P t x y).map λb=>.bool !b)
  |_=>none
def nC(t:ae)(cs:List ad):db:=match cs with
 |[.pointer none,.slice none 0 0]=>.tc t [.pointer none,.slice none 0 0]
 |cs=>.cells cs
def FV(P:ag)(o:aj)(R:ah.Fr)(W:AW):Option (ad×AW):=
 match o.op with
 |.move x|.assign x=>some (ax R x,W)
 |.pick c a b=>match ax R c with
  |.bool true=>some (ax R a,W)
  |.bool false=>some (ax R b,W)
  |_=>none
 |.alloc t=>match iM P t with
  |some z=>some (W.new (nC t z.cells.toList) λb W'=>(Value.pointer (some ⟨b,0,none⟩),W'))
  |none=>none
 |.box _ x=>some (W.new (.cells (ax R x).cells.toList) λb W'=>(Value.pointer (some ⟨b,0,none⟩),W'))
 |.build t ps=>(xH P R t ps).map λv=>(v,W)
 |.buildSlice t len ps=>kM P R W t len ps
 |.load t a=>(ju P W t (ax R a)).map λv=>(v,W)
 |.store t a x=>(xI P W t (ax R a) (ax R x)).map λW'=>(ak,W')
 |.nilCheck x=>match ax R x with
  |.pointer (some a)=>some (.pointer (some a),W)
  |.func (.func f) a b=>some (.func (.func f) a b,W)
  |.func (.yield l) a b=>some (.func (.yield l) a b,W)
  |.iface t v=>some (.iface t v,W)
  |_=>none
 |.binOp op t x y _=>match nl P W op t (ax R x) (ax R y)with
  |some v=>some (v,W)
  |none=>(jh P R o).map λv=>(v,W)
 |.unOp .. =>(jh P R o).map λv=>(v,W)
 |.convert s d x=>(Ey P W s d (ax R x) (jh P R o)).map λv=>(v,W)
 |.makeInterface t x=>match P.underlying t with
  |some (.interface _)=>none
  |some _=>some (.iface t (ax R x),W)
  |none=>none
 |.makeFunc (.func f) first jj=>some (.func (.func f) (first.map (ax R)) (jj.map (ax R)),W)
 |.makeMap t r=>match r with
  |none=>some (W.new (.map [] 0) λb W'=>(Value.map (some b),W'))
  |some h=>match P.underlying t,ax R h with
   |some (.map _ _),.int _ _=>some (W.new (.map [] 0) λb W'=>(Value.map (some b),W'))
   |_,_=>none
 |.makeSlice t l c=>mw P W t (ax R l) (ax R c)
 |.slice t x lo hi mx=>match mH P t (ax R x) (lo.map (ax R)) (hi.map (ax R)) (mx.map (ax R))with
  |some v=>some (v,W)
  |none=>(jh P R o).map λv=>(v,W)
 |.fieldAddr s x f=>match P.underlying s,ax R x with
  |some (.struct fs),.pointer (some a)=>match fs[f]? with
   |some fl=>match kQ P fl.type with
    |some (_+1)=>some (.pointer (some (a.add fl.offset)),W)
    |_=>none
   |none=>none
  |_,_=>none
 |.field t x f=>match P.underlying t,ax R x with
  |some (.struct fs),.agg cs=>match fs[f]? with
   |some fl=>(Ac P fl.type cs fl.offset).map λv=>(v,W)
   |none=>none
  |_,_=>none
 |.indexAddr t x i=>match P.underlying t,ax R x,kK (ax R i)with
  |some (.slice e),.slice (some a) len _,some n=>match kQ P e with
   |some z=>if n<len then some (.pointer (some (a.add (n*z))),W)else none
   |none=>none
  |some (.array len e),.pointer (some a),some n=>match kQ P e with
   |some z=>if n<len then some (.pointer (some (a.add (n*z))),W)else none
   |none=>none
  |_,_,_=>none
 |.index t x i=>match P.underlying t,ax R x,kK (ax R i)with
  |some (.array len e),.agg cs,some n=>match kQ P e with
   |some z=>if n<len then(Ac P e cs (n*z)).map λv=>(v,W)else none
   |none=>none
  |_,_,_=>(jh P R o).map λv=>(v,W)
 |.lookup t m k ok=>(ll P W t (ax R m) (ax R k) ok).map λv=>(v,W)
 |.mapUpdate t m k v=>(gJ P W t (ax R m) (ax R k) (ax R v)).map λW'=>(ak,W')
 |.extract x i=>match ax R x with
  |.tuple vs=>(vs[i]?).map λv=>(v,W)
  |_=>none
 |.typeAssert x _ t ok=>match P.underlying t,ax R x with
  |some (.interface _),_=>none
  |some _,.iface u v=>if u=t then some (if ok then .tuple #[v,.bool true]else v,W)else none
  |_,_=>none
 |.range t x=>match P.underlying t,ax R x with
  |some .string,.string s=>some (W.new (.mW s 0) λb W'=>(Value.pointer (some ⟨b,0,none⟩),W'))
  |_,_=>none
 |.next it true=>match ax R it with
  |.pointer (some ⟨b,0,_⟩)=>match W.get b with
   |some (.mW s pos)=>if pos<s.size then some (.tuple #[.bool true,goInt pos,.int .i32 (Utf8.decode s pos).1],W.put b (.mW s (pos+(Utf8.decode s pos).2)))else some (.tuple #[.bool false],W)
   |_=>none
  |_=>none
 |_=>none
section
variable {P:ag} {σ:cI} {W:AW} {w:am}
def VR.io{b:Bool}{v:ad}(h:VR σ (.bool b) v):v=.bool b:=by cases h;rfl
def VR.xV{b:ByteArray}{v:ad}(h:VR σ (.string b) v):v=.string b:=by cases h;rfl
def VR.tn{a:aP}{v:ad}(h:VR σ (.pointer (some a)) v):∃g,σ a.block=some g/\a.spot=none/\v=.pointer (some ⟨g.B,g.s+a.off,none⟩):=by
 cases h with
 |ptr a g h hs=>exact⟨g,h,hs,rfl⟩
def VR.Rz{a:aP}{l c:Nat}{v:ad}(h:VR σ (.slice (some a) l c) v):(∃g c',σ a.block=some g/\a.spot=none/\Gd g a.off l c c'/\v=.slice (some ⟨g.B,g.s+a.off,none⟩) l c')\/(l=0/\∃a',v=.slice (some a') 0 0):=by
 cases h with
 |slice a l c c' g h hs hc=>exact .inl ⟨g,c',h,hs,hc,rfl⟩
 |cX a a' c g h hc=>exact .inr ⟨rfl,a',rfl⟩
def VR.By{t:ae}{u v:ad}(h:VR σ (.iface t u) v):∃u',VR σ u u'/\v=.iface t u':=by
 cases h with
 |iface t u u' h=>exact⟨u',h,rfl⟩
def VR.Pc{cs:Array ad}{v:ad}(h:VR σ (.agg cs) v):∃ck,LR σ cs.toList ck.toList/\v=.agg ck:=by
 cases h with
 |agg cs ck h1 h2=>exact⟨ck,.xQ h1 h2,rfl⟩
def VR.P5{cs:Array ad}{v:ad}(h:VR σ (.tuple cs) v):∃ck,LR σ cs.toList ck.toList/\v=.tuple ck:=by
 cases h with
 |tuple cs ck h1 h2=>exact⟨ck,.xQ h1 h2,rfl⟩
def VR.jO{fn:Fn}{fs cs:Array ad}{v:ad}(h:VR σ (.func fn fs cs) v):∃FA tH ck,WL σ fn FA/\LR σ fs.toList tH.toList/\LR σ cs.toList ck.toList/\v=.func FA tH ck:=by
 cases h with
 |func fn FA fs tH cs ck hf h1 h2 h3 h4=>exact⟨FA,tH,ck,hf,.xQ h1 h2,.xQ h3 h4,rfl⟩
def VR.p9{k:aO}{n:Int}{v:ad}(h:VR σ (.int k n) v):v=.int k n:=by cases h;rfl
def wD{t:ae}{cs ck:Array ad}{off:Nat}{v:ad}(h:Ac P t cs off=some v)(hc:LR σ cs.toList ck.toList)(w:am):
 ∃v',(part t ck off).run P w=.ok v' w/\VR σ v v':=by
 unfold Ac at h;split at h
 ·rename_i ha;split at h
  ·rename_i n hn;injection h with h;subst h;refine⟨.agg (ck.extract off (off+n)),by simp[part,ti ha,bD hn],VR.Nz ?_⟩;simp only[Array.toList_extract,H2];exact(hc.drop off).take _
  ·cases h
 ·rename_i ha;obtain⟨v',h1,h2⟩:=hc.get (i:=off) (v:=v) (by simpa using h);refine⟨v',?_,h2⟩;have Ch:ck[off]? =some v':=by simpa using h1
  simp[part,ti ha,Ch]
 ·cases h
def VR.y7{xs:Array ad}{v:ad}(h:VR σ (.agg xs) v):∃ys,v=.agg ys/\LR σ xs.toList ys.toList:=by
 cases h with
 |agg _ ck h1 h2=>exact⟨ck,rfl,by simpa using h1,λi v v' a b=>h2 i v v' (by simpa using a) (by simpa using b)⟩
def WC:∀(n:Nat) {t:ae} {x y x' y':ad} {b:Bool},I7 P n t x y=some b->VR σ x x'->VR σ y y'->∀d,(Op.equalIn (n+d) t x' y').run P w=.ok b w:=by
 intro n;induction n with
 |zero=>intro t x y x' y' b h;cases h
 |succ n ih=>
  intro t x y x' y' b h hx hy d;rw[show n+1+d=(n+d)+1 by omega];unfold I7 at h;split at h
  ·rename_i k0 hu;split at h
   ·rename_i k a k' c;split at h
    ·rename_i hk;subst hk;injection h with h;subst h;rw[hx.p9,hy.p9];exact run_equalIn_int w _ t k k0 a c hu
    ·cases h
   ·cases h
  ·rename_i hu;split at h
   ·rename_i a c;injection h with h;subst h;rw[hx.io,hy.io];exact run_equalIn_bool' w _ t a c hu
   ·cases h
  ·rename_i fs hu;split at h
   ·rename_i xs ys;split at h
    ·cases h
    rename_i uk;obtain⟨xs',rfl,Za⟩:=hx.y7;obtain⟨ys',rfl,hys⟩:=hy.y7;have hfo:P.fieldsOf t=fs:=by unfold Program.fieldsOf;rw[hu]
    rw[run_equalIn_struct w (n+d) t xs' ys' (by rw[hfo];exact hu) (by simpa using uk),hfo];generalize fs.toList=l at h;induction l with
    |nil=>injection h with h;subst h;simp[Op.eqFields]
    |cons f l ihl=>
     unfold TW at h;split at h
     ·cases h
     rename_i mY;split at h
     ·rename_i a c ha hc;obtain⟨a',ra,va⟩:=wD (P:=P) ha Za w;obtain⟨c',rc,vc⟩:=wD (P:=P) hc hys w;unfold Op.eqFields;rw[aq mY,b9,ra,bX,b9,rc,bX,b9];split at h
      ·rename_i he;rw[ih he va vc d,bX];simpa using ihl h
      ·rename_i he;injection h with h;subst h;rw[ih he va vc d,bX];simp
      ·cases h
     ·cases h
   ·cases h
  ·cases h
def SD(P:ag)(W:AW)(t:ae)(a b:Array ad):mh P W t (.agg a) (.agg b)=none:=by
 unfold mh;cases P.underlying t with
 |none=>rfl
 |some d=>cases d<;>rfl
def Gp{P:ag}{t:ae}{x y:ad}{b:Bool}(h:Fi P t x y=some b)(W:AW):mh P W t x y=none:=by
 unfold Fi at h;split at h
 ·exact SD P W t _ _
 ·cases h
def LG{t:ae}{x y x' y':ad}{b:Bool}(h:Fi P t x y=some b)(hx:VR σ x x')(hy:VR σ y y')(p q:an):
 (do eqGuard .eql t p q x' y';binOp .eql t x' y':Sem ad).run P w=.ok (.bool b) w/\(do eqGuard .neq t p q x' y';binOp .neq t x' y':Sem ad).run P w=.ok (.bool !b) w:=by
 unfold Fi at h;split at h
 ·rename_i xs ys;split at h
  ·cases h
  rename_i hg;obtain⟨xs',rfl,Za⟩:=hx.y7;obtain⟨ys',rfl,hys⟩:=hy.y7;have hr:(Op.equalIn 10000 t (.agg xs') (.agg ys')).run P w=.ok b w:=WC (w:=w) 8 h hx hy 9992;have J6:P.eqGuardType P.depth t=false:=by simpa using hg
  refine⟨?_,?_⟩
  ·rw[b9,run_eqGuard_agg _ _ _ _ _ _ _ J6,bX,run_eql_struct,hr,bX]
  ·rw[b9,run_eqGuard_agg _ _ _ _ _ _ _ J6,bX,run_neq_struct,hr,bX]
 ·cases h
def UJ(hW:bg σ W w.heap){op:BinOp}{t yt:ae}{x y:an}{ρ:an->ad}{u u' v:ad}{dst:Option Tmp}{type:ae}{pos:String}{after:Array Edge}{guard:Option (Nat×Bool)}
 (h:nl P W op t u u'=some v)(hx:VR σ u (ρ x))(hy:VR σ u' (ρ y)):
 ∃v',(execOp ρ {dst,op:=.binOp op t x y yt,type,pos,after,guard}).run P w=.ok (.value v') w/\VR σ v v':=by
 unfold nl at h;split at h
 ·rename_i k a k' b;split at h
  ·rename_i hk;subst hk;have ex:ρ x=.int k a:=hx.p9;have ey:ρ y=.int k b:=hy.p9;refine⟨v,?_,?_⟩
   ·have hg:∀(A B:ad),(eqGuard op t x y (.int k a) (.int k b)).run P w=.ok () w:=by intro _ _;unfold eqGuard;split<;>simp
    simp only[execOp,ex,ey,b9,hg .nilIface .nilIface,bX];unfold Bc at h;split at h<;>(try(cases h;done))<;>(injection h with h;subst h;try simp only[oL,vT])<;>
     simp[binOp,Op.intArith,Op.intCmp,bne]<;>(try rfl)
   ·unfold Bc at h;split at h<;>(try(cases h;done))<;>(injection h with h;subst h;try simp only[oL])<;>first|exact .int _ _|exact .bool _
  ·cases h
 ·have key:∀b,mh P W t u u'=some b->(Op.equal t (ρ x) (ρ y)).run P w=.ok b w:=λb hb=>Wg hW hb hx hy 9999
  have shp:∀b,mh P W t u u'=some b->(∀(op:BinOp),(eqGuard op t x y (ρ x) (ρ y)).run P w=.ok () w)/\(binOp .eql t (ρ x) (ρ y)=(do pure (.bool (<-Op.equal t (ρ x) (ρ y)))))/\(binOp .neq t (ρ x) (ρ y)=(do pure (.bool (!(<-Op.equal t (ρ x) (ρ y)))))):=by
   intro b hb;unfold mh at hb;split at hb<;>first
    |(cases hb;done)
    |(generalize ρ x=rx at *
      generalize ρ y=ry at *
      cases hx<;>cases hy<;>refine⟨λop=>?_,rfl,rfl⟩<;>(unfold eqGuard;split<;>simp))
  split at h
  ·cases he:mh P W t u u' with
   |none=>
    rw[he]at h;cases ht:Fi P t u u' with
    |none=>rw[ht]at h;cases h
    |some b=>rw[ht]at h;simp only[cF,gK]at h;subst h;have:=(LG (w:=w) ht hx hy x y).1;exact⟨.bool b,by simp only[execOp];rw[b9,this];rfl,.bool b⟩
   |some b=>rw[he]at h;simp only[gK]at h;subst h;obtain⟨s1,s2,s3⟩:=shp b he;exact⟨.bool b,by simp[execOp,s1,s2,key b he],.bool b⟩
  ·cases he:mh P W t u u' with
   |none=>
    rw[he]at h;cases ht:Fi P t u u' with
    |none=>rw[ht]at h;cases h
    |some b=>rw[ht]at h;simp only[cF,gK]at h;subst h;have:=(LG (w:=w) ht hx hy x y).2;exact⟨.bool (!b),by simp only[execOp];rw[b9,this];rfl,.bool _⟩
   |some b=>rw[he]at h;simp only[gK]at h;subst h;obtain⟨s1,s2,s3⟩:=shp b he;exact⟨.bool (!b),by simp[execOp,s1,s3,key b he],.bool _⟩
  ·cases h
def jr(P:ag)(σ:cI)(W:AW)(w:am)(s:Sem Next)(v:ad)(W':AW):Prop:=
 ∃σ' nx v' w',s.run P w=.ok nx w'/\(nx=.value v'\/(nx=.skip/\v'=ak))/\VR σ' v v'/\bg σ' W' w'.heap/\eF σ W w σ' W' w'
def jr.value{s:Sem ad}{v v':ad}{nx:Sem Next}(hn:nx=(do pure (.value (<-s))))(hW:bg σ W w.heap)(h:s.run P w=.ok v' w)(hv:VR σ v v'):jr P σ W w nx v W:=
 ⟨σ,.value v',v',w,by rw[hn];simp[h],.inl rfl,hv,hW,eF.refl _ _ _⟩
def jr.lT{s:Sem ad}{v:ad}{W':AW}{nx:Sem Next}(hn:nx=(do pure (.value (<-s))))(h:∃σ' v' w',s.run P w=.ok v' w'/\VR σ' v v'/\bg σ' W' w'.heap/\eF σ W w σ' W' w'):jr P σ W w nx v W':=by obtain⟨σ',v',w',h1,h2,h3,h4⟩:=h;exact⟨σ',.value v',v',w',by rw[hn];simp[h1],.inl rfl,h2,h3,h4⟩
def jr.unit{s:Sem Unit}{W':AW}{nx:Sem Next}(hn:nx=(do s;pure .skip))(h:∃w',s.run P w=.ok () w'/\bg σ W' w'.heap/\eF σ W w σ W' w'):jr P σ W w nx ak W':=by obtain⟨w',h1,h2,h3⟩:=h;exact⟨σ,.skip,ak,w',by rw[hn];simp[h1],.inr ⟨rfl,rfl⟩,.undef,h2,h3⟩
def jr.same{v v':ad}{nx:Sem Next}(hn:nx=pure (.value v'))(hW:bg σ W w.heap)(hv:VR σ v v'):jr P σ W w nx v W:=
 ⟨σ,.value v',v',w,by rw[hn];rfl,.inl rfl,hv,hW,eF.refl _ _ _⟩
def jr.aaR{R:ah.Fr}{ρ:an->ad}{o:aj}{v:ad}(hW:bg σ W w.heap)(h:jh P R o=some v)(hρ:∀x∈o.op.operands,VR σ (ax R x) (ρ x)):jr P σ W w (execOp ρ o) v W:=by obtain⟨h1,h2⟩:=Sg (P:=P) h hρ w;exact⟨σ,.value v,v,w,h1,.inl rfl,h2,hW,eF.refl _ _ _⟩
def XG(hW:bg σ W w.heap)(t:ae){cs ck:List ad}(hc:LR σ cs ck):
 ∃σ' v' w',((do pure (.pointer (some (<-newRow t ck.toArray)))):Sem ad).run P w=.ok v' w'/\VR σ' (.pointer (some ⟨W.next,0,none⟩)) v'/\bg σ' (W.add (.cells cs)) w'.heap/\eF σ W w σ' (W.add (.cells cs)) w':=by
 obtain⟨h1,h2,h3,h4⟩:=yf (P:=P) hW t hc;have hv:=VR.ptr (σ:=bP σ W.next ⟨w.heap.size,0,cs.length⟩) ⟨W.next,0,none⟩ _ h2 rfl;exact⟨_,.pointer (some ⟨w.heap.size,0,none⟩),{w with heap:=w.heap.push (.cells ck.toArray t)},by simp[h1],by simpa using hv,h3,h4⟩
def G8(t:ae)(cs:List ad):∀ds,nC t cs≠ .ro ds:=by intro ds;unfold nC;split<;>simp
def EE{σ:cI}{h:Array oz}{B:Nat}{t:ae}{cs ck:List ad}(hc:LR σ cs ck)(hB:h[B]? =some (.cells ck.toArray t (0,0))):mf σ h ⟨B,0,cs.length⟩ (nC t cs):=by
 have hl:=hc.1;unfold nC;split
 ·refine⟨rfl,by simp,⟨by simp[maxLen],λ_=>rfl⟩,ck.toArray,hB,by simp,by simpa using hl,λi v hv=>?_⟩;obtain⟨v',a,b⟩:=hc.get hv;exact⟨v',by simpa using a,b⟩
 ·refine⟨ck.toArray,t,(0,0),hB,λ_=>rfl,by simp,by simp[hl],λi v hv=>?_⟩;obtain⟨v',a,b⟩:=hc.get hv;exact⟨v',by simpa using a,b⟩
def Vk(hW:bg σ W w.heap)(t:ae){cs ck:List ad}(hc:LR σ cs ck):
 ∃σ' v' w',((do pure (.pointer (some (<-newRow t ck.toArray)))):Sem ad).run P w=.ok v' w'/\VR σ' (.pointer (some ⟨W.next,0,none⟩)) v'/\bg σ' (W.add (nC t cs)) w'.heap/\eF σ W w σ' (W.add (nC t cs)) w':=by
 have hv:=VR.ptr (σ:=bP σ W.next ⟨w.heap.size,0,cs.length⟩) ⟨W.next,0,none⟩ _ cZ rfl;obtain⟨h3,h4⟩:=hW.alloc (o:=nC t cs) (x:=.cells ck.toArray t) (e:=cs.length) (EE (hc.mono (dd hW.fresh)) (by simp)) (G8 t cs);exact⟨_,.pointer (some ⟨w.heap.size,0,none⟩),{w with heap:=w.heap.push (.cells ck.toArray t)},by simp[newRow],by simpa using hv,h3,h4⟩
def NP{R:ah.Fr}{ρ:an->ad}{x:Option an}(h:∀y,x=some y->VR σ (ax R y) (ρ y)):OR σ (x.map (ax R)) (x.map ρ):=by
 cases x with
 |none=>trivial
 |some y=>exact h y rfl
def wJ{R:ah.Fr}{ρ:an->ad}(a:Array an)(h:∀y∈a,VR σ (ax R y) (ρ y)):LR σ (a.map (ax R)).toList (a.map ρ).toList:=by
 refine⟨by simp,λi v v' x y=>?_⟩;simp only[Array.toList_map,jH]at x y;cases hq:a.toList[i]? with
 |none=>rw[hq]at x;cases x
 |some q=>rw[hq]at x y;simp at x y;subst x;subst y;exact h q (by simpa using qt hq)
def Po(hW:bg σ W w.heap):
 ∃σ' v' w',((do pure (.map (some (<-newObj (.map #[] 0))))):Sem ad).run P w=.ok v' w'/\VR σ' (.map (some W.next)) v'/\bg σ' (W.add (.map [] 0)) w'.heap/\eF σ W w σ' (W.add (.map [] 0)) w':=by
 have h:=hW.alloc (o:=.map [] 0) (x:=.map #[] 0) (e:=1) ⟨rfl,rfl,#[],by rw[sN];simp,.nil⟩;exact⟨_,.map (some w.heap.size),{w with heap:=w.heap.push (.map #[] 0)},by simp,.map _ _ cZ,h.1,h.2⟩
set_option maxHeartbeats 1000000 in
def OI(hW:bg σ W w.heap){o:aj}{R:ah.Fr}{ρ:an->ad}{v:ad}{W':AW}(h:FV P o R W=some (v,W'))(hρ:∀x∈o.op.operands,VR σ (ax R x) (ρ x)):
 jr P σ W w (execOp ρ o) v W':=by
 have Ke:∀u,jh P R o=some u->jr P σ W w (execOp ρ o) u W:=λu hu=>.aaR hW hu hρ
 have gQ:∀(x:Option ad),(x.map λv=>(v,W))=some (v,W')->x=some v/\W'=W:=by
  intro x hx;cases x with
  |none=>cases hx
  |some u=>simp at hx;exact⟨by rw[hx.1],hx.2.symm⟩
 have aaV:∀(x:Option AW),(x.map λW'=>(ak,W'))=some (v,W')->x=some W'/\v=ak:=by
  intro x hx;cases x with
  |none=>cases hx
  |some u=>simp at hx;exact⟨by rw[hx.2],hx.1.symm⟩
 obtain⟨dst,op,type,pos,after,guard⟩:=o;cases op<;>simp only[FV]at h<;>simp only[Op.operands]at hρ;case move x=>injection h with h;injection h with h1 h2;subst h1;subst h2;exact .same rfl hW (hρ x (by simp))
 case assign x=>injection h with h;injection h with h1 h2;subst h1;subst h2;exact .same rfl hW (hρ x (by simp))
 case pick c a b=>
  have hc:=hρ c (by simp);split at h<;>(try(cases h;done))<;>rename_i pF<;>rw[pF]at hc
  ·injection h with h;injection h with h1 h2;subst h1;subst h2;have:=hc.io;exact⟨σ,.value (ρ a),ρ a,w,by simp[execOp,this,asBool],.inl rfl,hρ a (by simp),hW,eF.refl _ _ _⟩
  ·injection h with h;injection h with h1 h2;subst h1;subst h2;have:=hc.io;exact⟨σ,.value (ρ b),ρ b,w,by simp[execOp,this,asBool],.inl rfl,hρ b (by simp),hW,eF.refl _ _ _⟩
 case alloc t=>
  split at h
  ·rename_i z hz;injection h with h;rw[AW.dm]at h;injection h with h1 h2;subst h1;subst h2;obtain⟨yk,An⟩:=gf hz w;refine .lT rfl ?_;obtain⟨σ',v',w',a,b,c⟩:=Vk (P:=P) hW t (cs:=z.cells.toList) (ck:=z.cells.toList) (C5 An);refine⟨σ',v',w',?_,b,c⟩;rw[<-a];simp[Instr.alloc,yk,newVar]
  ·cases h
 case box t x=>injection h with h;rw[AW.dm]at h;injection h with h1 h2;subst h1;subst h2;refine .lT rfl ?_;obtain⟨σ',v',w',a,b,c⟩:=XG (P:=P) hW t (hρ x (by simp)).cells;refine⟨σ',v',w',?_,b,c⟩;rw[<-a];simp[Instr.box,newVar]
 case build t ps=>obtain⟨hb,rfl⟩:=gQ _ h;obtain⟨v',h1,h2⟩:=NN hb (λp hp=>hρ p.2 (by simp;exact⟨p.1,by simpa using hp⟩)) w;exact .value rfl hW h1 h2
 case buildSlice t len ps=>exact .lT rfl (Cv hW h (λp hp=>hρ p.2 (by simp;exact⟨p.1,by simpa using hp⟩)))
 case insert=>cases h
 case load t a=>obtain⟨hb,rfl⟩:=gQ _ h;obtain⟨v',h1,h2⟩:=Hb hW hb (hρ a (by simp));exact .value rfl hW h1 h2
 case store t a x=>obtain⟨hb,rfl⟩:=aaV _ h;exact .unit rfl (M7 hW hb (hρ a (by simp)) (hρ x (by simp)))
 case ready=>cases h
 case waits=>cases h
 case nilCheck x=>
  have hx:=hρ x (by simp);split at h<;>(try(cases h;done))<;>rename_i pF<;>rw[pF]at hx<;>injection h with h<;>injection h with h1 h2<;>subst h1<;>subst h2
  ·obtain⟨g,_,_,e⟩:=hx.tn;exact⟨σ,.value (ρ x),ρ x,w,by simp[execOp,e],.inl rfl,hx,hW,eF.refl _ _ _⟩
  ·obtain⟨FA,tH,ck,hf,_,_,e⟩:=hx.jO;cases hf;exact⟨σ,.value (ρ x),ρ x,w,by simp[execOp,e],.inl rfl,hx,hW,eF.refl _ _ _⟩
  ·obtain⟨FA,tH,ck,hf,_,_,e⟩:=hx.jO;cases hf;exact⟨σ,.value (ρ x),ρ x,w,by simp[execOp,e],.inl rfl,hx,hW,eF.refl _ _ _⟩
  ·obtain⟨u',_,e⟩:=hx.By;exact⟨σ,.value (ρ x),ρ x,w,by simp[execOp,e],.inl rfl,hx,hW,eF.refl _ _ _⟩
 case binOp op t x y yt=>
  split at h
  ·rename_i u hb;injection h with h;injection h with h1 h2;subst h1;subst h2;obtain⟨v',h1,h2⟩:=UJ (dst:=dst) (type:=type) (pos:=pos) (after:=after) (guard:=guard) (yt:=yt) hW hb (hρ x (by simp)) (hρ y (by simp));exact⟨σ,.value v',v',w,h1,.inl rfl,h2,hW,eF.refl _ _ _⟩
  ·obtain⟨hb,rfl⟩:=gQ _ h;exact Ke _ hb
 case unOp=>obtain⟨hb,rfl⟩:=gQ _ h;exact Ke _ hb
 case convert s d x=>
  obtain⟨hb,rfl⟩:=gQ _ h;unfold Ey at hb;split at hb
  ·rename_i a0 n0 c0 Ab;obtain⟨v',a,b⟩:=F1 hW hb (by rw[<-Ab];exact hρ x (by simp));exact .value rfl hW a b
  ·exact Ke _ hb
 case sliceToArrayPointer=>cases h
 case makeInterface t x=>
  split at h
  ·cases h
  ·rename_i d hd hu;injection h with h;injection h with h1 h2;subst h1;subst h2;refine .value rfl hW (v':=.iface t (ρ x)) ?_ (.iface _ _ _ (hρ x (by simp)));simp only[Instr.makeInterface,b9,bH hu,bX];cases d<;>first|rfl|exact absurd rfl (hd _)
  ·cases h
 case makeFunc fn first jj=>
  cases fn<;>(try(simp only[]at h;cases h;done));rename_i f0;simp only at h;injection h with h;injection h with h1 h2;subst h1;subst h2;have k1:=wJ first (λy hy=>hρ y (by simp[hy]))
  have k2:=wJ jj (λy hy=>hρ y (by simp[hy]));exact .value (s:=Instr.makeFunc (.func f0) (first.map ρ) (jj.map ρ)) rfl hW rfl (.func _ _ _ _ _ _ (.func f0) k1.arr.1 k1.arr.2 k2.arr.1 k2.arr.2)
 case makeMap t r=>
  split at h
  ·injection h with h;rw[AW.dm]at h;injection h with h1 h2;subst h1;subst h2;refine .lT rfl ?_;obtain⟨σ',v',w',a,b,c⟩:=Po (P:=P) hW;exact⟨σ',v',w',by rw[<-a];simp[Instr.makeMap],b,c⟩
  ·rename_i hh;split at h
   ·rename_i kt e kd n hu he;injection h with h;rw[AW.dm]at h;injection h with h1 h2;subst h1;subst h2;refine .lT rfl ?_;obtain⟨σ',v',w',a,b,c⟩:=Po (P:=P) hW;have hv:=hρ hh (by simp);rw[he]at hv;exact⟨σ',v',w',by rw[<-a];simp[Instr.makeMap,bH hu,hv.p9,asInt,asIntOf],b,c⟩
   ·cases h
 case makeChan=>cases h
 case makeSlice t l c=>exact .lT rfl (ES hW h (hρ l (by simp)) (hρ c (by simp)))
 case slice t x lo hi mx=>
  split at h
  ·rename_i u hs;injection h with h;injection h with h1 h2;subst h1;subst h2;obtain⟨v',a,b⟩:=NT hs (hρ x (by simp)) (NP (λy hy=>hρ y (by simp[hy]))) (NP (λy hy=>hρ y (by simp[hy]))) (NP (λy hy=>hρ y (by simp[hy]))) w;exact .value rfl hW a b
  ·obtain⟨hb,rfl⟩:=gQ _ h;exact Ke _ hb
 case fieldAddr s x f=>
  split at h
  ·rename_i fs a hu Ab;split at h
   ·rename_i fl IX;split at h
    ·rename_i n hn;injection h with h;injection h with h1 h2;subst h1;subst h2;have hx:=hρ x (by simp);rw[Ab]at hx;obtain⟨g,hg,tI,e⟩:=hx.tn;refine .value rfl hW (v':=.pointer (some ⟨g.B,g.s+(a.add fl.offset).off,none⟩)) ?_ (.ptr _ g (by rw[gt];exact hg) (pg _ _ tI));simp[Instr.fieldAt,bH hu,IX,e,Instr.sureAddr,fieldPlace,bD hn,cP,pP,i9]
    ·cases h
   ·cases h
  ·cases h
 case field t x f=>
  split at h
  ·rename_i fs cs hu Ab;split at h
   ·rename_i fl IX;obtain⟨hb,rfl⟩:=gQ _ h;have hx:=hρ x (by simp);rw[Ab]at hx;obtain⟨ck,hc,e⟩:=hx.Pc;obtain⟨v',a,b⟩:=wD (P:=P) hb hc w;exact .value rfl hW (by simp[Instr.field,bH hu,IX,e,asAgg,a]) b
   ·cases h
  ·cases h
 case indexAddr t x i=>
  have hi:=hρ i (by simp);have hx:=hρ x (by simp);split at h
  ·rename_i e a len cap n hu Ab hn;obtain⟨k,pb⟩:=v8 hn hi;rw[Ab]at hx;split at h
   ·rename_i z hz;split at h
    ·rename_i kW;injection h with h;injection h with h1 h2;subst h1;subst h2;rcases hx.Rz with⟨g,c',hg,tI,hc,e'⟩|⟨h0,_⟩
     ·refine .value rfl hW (v':=.pointer (some ⟨g.B,g.s+(a.add (n*z)).off,none⟩)) ?_ (.ptr _ g (by rw[gt];exact hg) (pg _ _ tI));simp[Instr.indexAt,pb,e',asIntOf,bH hu,kW,bD hz,cP,pP,i9]
     ·omega
    ·cases h
   ·cases h
  ·rename_i len e a n hu Ab hn;obtain⟨k,pb⟩:=v8 hn hi;rw[Ab]at hx;split at h
   ·rename_i z hz;split at h
    ·rename_i kW;injection h with h;injection h with h1 h2;subst h1;subst h2;obtain⟨g,hg,tI,e'⟩:=hx.tn;refine .value rfl hW (v':=.pointer (some ⟨g.B,g.s+(a.add (n*z)).off,none⟩)) ?_ (.ptr _ g (by rw[gt];exact hg) (pg _ _ tI));simp[Instr.indexAt,pb,e',asIntOf,bH hu,Instr.sureAddr,kW,bD hz,cP,pP,i9]
    ·cases h
   ·cases h
  ·cases h
 case index t x i=>
  have hi:=hρ i (by simp);have hx:=hρ x (by simp);split at h
  ·rename_i len e cs n hu Ab hn;obtain⟨k,pb⟩:=v8 hn hi;rw[Ab]at hx;split at h
   ·rename_i z hz;split at h
    ·rename_i kW;obtain⟨hb,rfl⟩:=gQ _ h;obtain⟨ck,hc,e'⟩:=hx.Pc;obtain⟨v',a,b⟩:=wD (P:=P) hb hc w;exact .value rfl hW (by simp[Instr.index,pb,e',asIntOf,bH hu,kW,bD hz,a]) b
    ·cases h
   ·cases h
  ·obtain⟨hb,rfl⟩:=gQ _ h;exact Ke _ hb
 case lookup t m k ok=>obtain⟨hb,rfl⟩:=gQ _ h;obtain⟨v',a,b⟩:=Kv hW hb (hρ m (by simp)) (hρ k (by simp));exact .value rfl hW a b
 case mapUpdate t m k u=>obtain⟨hb,rfl⟩:=aaV _ h;exact .unit rfl (D1 hW hb (hρ m (by simp)) (hρ k (by simp)) (hρ u (by simp)))
 case mapEntry=>cases h
 case entryStore=>cases h
 case range t x=>
  split at h
  ·rename_i s hu Ab;injection h with h;rw[AW.dm]at h;injection h with h1 h2;subst h1;subst h2;have hx:=hρ x (by simp);rw[Ab]at hx;have hal:=hW.alloc (o:=.mW s 0) (x:=.stringIter s 0) (e:=1) ⟨rfl,rfl,by rw[sN];simp⟩;have hv:=VR.ptr (σ:=bP σ W.next ⟨w.heap.size,0,1⟩) ⟨W.next,0,none⟩ _ cZ rfl;exact .lT rfl ⟨_,.pointer (some ⟨w.heap.size,0,none⟩),{w with heap:=w.heap.push (.stringIter s 0)},by simp[Instr.range,bH hu,hx.xV],by simpa using hv,hal.1,hal.2⟩
  ·cases h
 case next it isS=>
  cases isS<;>simp only at h
  ·cases h
  have hx:=hρ it (by simp);split at h
  ·rename_i b sp Yo;rw[Yo]at hx;obtain⟨g,hg,tI,e⟩:=hx.tn;split at h
   ·rename_i s ps di;obtain⟨g1,g2,g3⟩:=hW.obj b _ g di hg;have Vl:(getObj g.B).run P w=.ok (.stringIter s ps) w:=by simp[getObj,Sem.run,g3]
    have e2:ρ it=.pointer (some ⟨g.B,0,none⟩):=by rw[e];simp[g1]
    split at h
    ·rename_i kW;injection h with h;injection h with h1 h2;subst h1;subst h2;have akd:g.B<w.heap.size:=(dC.1 g3).1;have hso:(setObj g.B (.stringIter s (ps+(Utf8.decode s ps).2))).run P w=.ok () {w with heap:=w.heap.setIfInBounds g.B (.stringIter s (ps+(Utf8.decode s ps).2))}:=by simp[setObj,Sem.run,g3]
     have hq:=hW.setObj (o':=.mW s (ps+(Utf8.decode s ps).2)) (x:=.stringIter s (ps+(Utf8.decode s ps).2)) di (λ_ hx=>by cases hx) hg ⟨g1,g2⟩ (λc t fr hx=>by rw[g3]at hx;cases hx) ⟨g1,g2,by simp[akd]⟩;exact .lT rfl ⟨σ,.tuple #[.bool true,goInt ps,.int .i32 (Utf8.decode s ps).1],_,by simp[Instr.next,e2,Vl,kW,hso],VR.tuple' (by simpa[goInt]using LR.cons (.bool true) (.cons (.int _ _) (.cons (.int _ _) .nil))),hq.1,hq.2⟩
    ·rename_i kW;injection h with h;injection h with h1 h2;subst h1;subst h2;exact .value rfl hW (v':=.tuple #[.bool false]) (by simp[Instr.next,e2,Vl,kW]) (VR.tuple' (by simpa using LR.cons (.bool false) .nil))
   ·cases h
  ·cases h
 case entry=>cases h
 case typeAssert x xt t ok=>
  split at h
  ·cases h
  ·rename_i d u v0 hd hu Ab;split at h
   ·rename_i hut;subst hut;injection h with h;injection h with h1 h2;subst h1;subst h2;have hx:=hρ x (by simp);rw[Ab]at hx;obtain⟨u',h1,e⟩:=hx.By;refine .value rfl hW (v':=if ok then .tuple #[u',.bool true]else u') ?_ ?_
    ·simp only[Instr.typeAssert,b9,bH hu,bX,e];cases d<;>first|(simp;done)|exact absurd rfl (hd _)
    ·cases ok
     ·exact h1
     ·exact IW h1 (.bool true)
   ·cases h
  ·cases h
 case extract x i=>
  split at h
  ·rename_i vs Ab;obtain⟨hb,rfl⟩:=gQ _ h;have hx:=hρ x (by simp);rw[Ab]at hx;obtain⟨ck,hc,e⟩:=hx.P5;obtain⟨v',a,b⟩:=hc.get (i:=i) (v:=v) (by simpa using hb);have a':ck[i]? =some v':=by simpa using a
   exact .value rfl hW (v':=v') (by simp[Instr.extract,e,a']) b
  ·cases h
 case call=>cases h
 case go=>cases h
 case defer=>cases h
 case panic=>cases h
 case send=>cases h
 case recv=>cases h
 case select=>cases h
end
end
section
variable [ah]
abbrev Callee:=ad->List ad->AW->Option (ad×AW)
def FE(ro:Option Nat):Fence:={Fence.wide with round:=ro}
def jd(P:ag)(o:aj)(b:Builtin)(argTypes:Array ae)(args:List ad)(R:ah.Fr)(W:AW):Option (ad×AW):=
 match b,args with
 |.len,[.slice _ n _]=>match(argTypes[0]?).bind P.underlying with
  |some (.slice _)=>some (goInt n,W)
  |_=>none
 |.len,[.map none]=>match(argTypes[0]?).bind P.underlying with
  |some (.map _ _)=>some (goInt 0,W)
  |_=>none
 |.len,[.map (some r)]=>match(argTypes[0]?).bind P.underlying,W.get r with
  |some (.map _ _),some (.map es _)=>some (goInt es.length,W)
  |_,_=>none
 |.append,[s,x]=>zx P W argTypes s x
 |.copy,[d,x]=>PI P W argTypes d x
 |.clear,[x]=>(Jp P W argTypes x).map λW'=>(.tuple #[],W')
 |.delete,[m,k]=>(qc P W argTypes m k).map λW'=>(.tuple #[],W')
 |.unsafeSliceData,[x]=>(rR x).map λv=>(v,W)
 |.unsafeString,[p,n]=>mK P W argTypes p n
 |_,_=>(jh P R o).map λv=>(v,W)
def rN(P:ag)(t:ae)(name:String):Option gE:=
 match P.info? t,P.underlying t with
 |some i,some d=>match i.methods.find? (·.name==name)with
  |some m=>match m.path.toList,m.func,d with
   |[],some (f,true),.pointer _=>if 0<P.types.size then some f else none
   |_,_,_=>none
  |none=>none
 |_,_=>none
def gw(P:ag)(call:Callee)(o:aj)(R:ah.Fr)(W:AW):Option (ad×AW):=
 match o.op with
 |.call c=>match c.callee with
  |.builtin b=>jd P o b c.argTypes (c.args.toList.map (ax R)) R W
  |.value f=>call (ax R f) (c.args.toList.map (ax R)) W
  |.invoke r name=>match ax R r with
   |.iface t v=>match rN P t name with
    |some f=>call (.func (.func f) #[] #[]) (v::c.args.toList.map (ax R)) W
    |none=>none
   |_=>none
 |_=>FV P o R W
def Ci:ad->Option aP:=Value.rec (motive_1:=λ_=>Option aP) (motive_2:=λ_=>PUnit) (motive_3:=λ_=>PUnit) (λ_=>none) (λ_ _=>none) (λ_ _=>none) (λ_ _ _=>none) (λ_=>none) (λa=>a) (λ_ _ _=>none) (λ_=>none) (λ_=>none) (λ_ _ _ _ _=>none) (none) (λ_ _ _=>none) (none) (λ_ _=>none) (λ_ _=>none) (λ_ _=>.unit) .unit (λ_ _ _ _=>.unit)
def aa8:ad->Option Bool:=Value.rec (motive_1:=λ_=>Option Bool) (motive_2:=λ_=>PUnit) (motive_3:=λ_=>PUnit) (λb=>some b) (λ_ _=>none) (λ_ _=>none) (λ_ _ _=>none) (λ_=>none) (λ_=>none) (λ_ _ _=>none) (λ_=>none) (λ_=>none) (λ_ _ _ _ _=>none) (none) (λ_ _ _=>none) (none) (λ_ _=>none) (λ_ _=>none) (λ_ _=>.unit) .unit (λ_ _ _ _=>.unit)
def ag1:ad->Option (aO×Int):=Value.rec (motive_1:=λ_=>Option (aO×Int)) (motive_2:=λ_=>PUnit) (motive_3:=λ_=>PUnit) (λ_=>none) (λk n=>some (k,n)) (λ_ _=>none) (λ_ _ _=>none) (λ_=>none) (λ_=>none) (λ_ _ _=>none) (λ_=>none) (λ_=>none) (λ_ _ _ _ _=>none) (none) (λ_ _ _=>none) (none) (λ_ _=>none) (λ_ _=>none) (λ_ _=>.unit) .unit (λ_ _ _ _=>.unit)
def Vy:ad->Option Nat:=Value.rec (motive_1:=λ_=>Option Nat) (motive_2:=λ_=>PUnit) (motive_3:=λ_=>PUnit) (λ_=>none) (λ_ n=>Int.rec (motive:=λ_=>Option Nat) (λn=>some n) (λ_=>none) n) (λ_ _=>none) (λ_ _ _=>none) (λ_=>none) (λ_=>none) (λ_ _ _=>none) (λ_=>none) (λ_=>none) (λ_ _ _ _ _=>none) (none) (λ_ _ _=>none) (none) (λ_ _=>none) (λ_ _=>none) (λ_ _=>.unit) .unit (λ_ _ _ _=>.unit)
def vSl:ad->Option (aP×Nat):=Value.rec (motive_1:=λ_=>Option (aP×Nat)) (motive_2:=λ_=>PUnit) (motive_3:=λ_=>PUnit) (λ_=>none) (λ_ _=>none) (λ_ _=>none) (λ_ _ _=>none) (λ_=>none) (λ_=>none) (λa l _=>Option.rec (motive:=λ_=>Option (aP×Nat)) none (λa=>some (a,l)) a) (λ_=>none) (λ_=>none) (λ_ _ _ _ _=>none) (none) (λ_ _ _=>none) (none) (λ_ _=>none) (λ_ _=>none) (λ_ _=>.unit) .unit (λ_ _ _ _=>.unit)
def ahv:ad->Option (Array ad):=Value.rec (motive_1:=λ_=>Option (Array ad)) (motive_2:=λ_=>PUnit) (motive_3:=λ_=>PUnit) (λ_=>none) (λ_ _=>none) (λ_ _=>none) (λ_ _ _=>none) (λ_=>none) (λ_=>none) (λ_ _ _=>none) (λ_=>none) (λ_=>none) (λ_ _ _ _ _=>none) (none) (λ_ _ _=>none) (none) (λ_ _=>none) (λv _=>some v) (λ_ _=>.unit) .unit (λ_ _ _ _=>.unit)
def Ug(v:ad):Vy v=kK v:=by cases v<;>first|rfl|(rename_i k n;cases n<;>rfl)
def O4(P:ag)(W:AW)(t:ae)(a:aP):Option (ad×AW):=
 match QT P t with
 |some false=>match aC W a.block with
  |some cs=>(YZ cs a.off).map λv=>(v,W)
  |none=>none
 |some true=>match kQ P t with
  |some n=>(mm W a.block a.off n).map λl=>(.agg l.toArray,W)
  |none=>none
 |none=>none
def WE(P:ag)(W:AW)(t:ae)(v:ad):(match Ci v with|some a=>O4 P W t a|none=>none)=(ju P W t v).map λv=>(v,W):=by
 cases v with
 |pointer a=>
  cases a with
  |none=>rfl
  |some a=>
   show O4 P W t a=_;unfold O4 ju;cases QT P t with
   |none=>rfl
   |some b=>
    cases b with
    |false=>simp only;cases aC W a.block<;>rfl
    |true=>
     simp only;cases kQ P t with
     |none=>rfl
     |some n=>simp only;cases mm W a.block a.off n<;>rfl
 |_=>rfl
def Jd(P:ag)(W:AW)(t:ae)(a:aP)(v:ad):Option (ad×AW):=
 match kQ P t with
 |some n=>if v.cells.size=n then(nI W a.block a.off v.cells.toList).map λW'=>(ak,W')else none
 |none=>none
def Q0(P:ag)(W:AW)(t:ae)(x v:ad):(match Ci x with|some a=>Jd P W t a v|none=>none)=(xI P W t x v).map λW'=>(ak,W'):=by
 cases x with
 |pointer a=>
  cases a with
  |none=>rfl
  |some a=>
   show Jd P W t a v=_;unfold Jd xI;cases kQ P t with
   |none=>rfl
   |some n=>simp only;split<;>rfl
 |_=>rfl
def WB:BinOp->aO->Int->Int->Option ad:=BinOp.rec (motive:=λ_=>aO->Int->Int->Option ad) (λk a b=>some (xZ k (B7 k (a+b)))) (λk a b=>some (xZ k (B7 k (a-b)))) (λk a b=>some (xZ k (B7 k (a*b)))) (λ_ _ _=>none) (λ_ _ _=>none) (λ_ _ _=>none) (λ_ _ _=>none) (λ_ _ _=>none) (λ_ _ _=>none) (λ_ _ _=>none) (λ_ _ _=>none) (λ_ a b=>some (.bool (decide (a=b)))) (λ_ a b=>some (.bool (!decide (a=b)))) (λ_ a b=>some (.bool (decide (a<b)))) (λ_ a b=>some (.bool (decide (a<=b)))) (λ_ a b=>some (.bool (decide (b<a)))) (λ_ a b=>some (.bool (decide (b<=a))))
def Tb(op:BinOp)(k:aO)(a b:Int):WB op k a b=Bc op k a b:=by cases op<;>rfl
def afR(P:ag)(W:AW)(op:BinOp)(t:ae)(x y:ad):Option ad:=
 match ag1 x with
 |some (k,a)=>match ag1 y with
  |some (k',b)=>if k=k' then WB op k a b else none
  |none=>nl P W op t x y
 |none=>nl P W op t x y
def YT(P:ag)(W:AW)(op:BinOp)(t:ae)(x y:ad):afR P W op t x y=nl P W op t x y:=by
 cases x with
 |int k a=>
  cases y with
  |int k' b=>show(if k=k' then WB op k a b else none)=_;rw[Tb];rfl
  |_=>rfl
 |_=>rfl
def NE(P:ag)(s:ae)(f:Nat):Option Nat:=match P.underlying s with
 |some (.struct fs)=>match fs[f]? with
  |some fl=>match kQ P fl.type with
   |some (_+1)=>some fl.offset
   |_=>none
  |none=>none
 |_=>none
def Tj(P:ag)(t:ae):Option (Option Nat×Nat):=match P.underlying t with
 |some (.slice e)=>(kQ P e).map λz=>(none,z)
 |some (.array n e)=>(kQ P e).map λz=>(some n,z)
 |_=>none
def Zk{X:Type}(v:ad)(a b:X):(match aa8 v with|some true=>some a|some false=>some b|none=>none)=(match v with|.bool true=>some a|.bool false=>some b|_=>none):=by
 cases v with
 |bool c=>cases c<;>rfl
 |_=>rfl
def Oc(W:AW)(v:ad)(i:Nat):(match ahv v with|some vs=>(vs[i]?).map λv=>(v,W)|none=>none)=(match v with|.tuple vs=>(vs[i]?).map λv=>(v,W)|_=>none):=by cases v<;>rfl
def IS(P:ag)(W:AW)(s:ae)(v:ad)(f:Nat):
 (match Ci v with
 |some a=>(match NE P s f with
  |some k=>some (Value.pointer (some (a.add k)),W)
  |none=>none)
 |none=>none)=(match P.underlying s,v with
 |some (.struct fs),.pointer (some a)=>match fs[f]? with
  |some fl=>match kQ P fl.type with
   |some (_+1)=>some (.pointer (some (a.add fl.offset)),W)
   |_=>none
  |none=>none
 |_,_=>none):=by
 unfold NE;generalize P.underlying s=u
 have yi:∀(o:Option TypeDesc) (v:ad),Ci v=none->(match o,v with
  |some (.struct fs),.pointer (some a)=>match fs[f]? with
   |some fl=>match kQ P fl.type with
    |some (_+1)=>some (Value.pointer (some (a.add fl.offset)),W)
    |_=>none
   |none=>none
  |_,_=>none)=none:=by
  intro o v hv;split
  ·cases hv
  ·rfl
 cases hv:Ci v with
 |none=>exact(yi u v hv).symm
 |some a=>
  obtain rfl:v=.pointer (some a):=by
   cases v with
   |pointer b=>cases b with|none=>cases hv|some b=>injection hv with hv;rw[hv]
   |_=>cases hv
  cases u with
  |none=>rfl
  |some d=>
   cases d with
   |struct fs=>
    simp only;cases fs[f]? with
    |none=>rfl
    |some fl=>
     simp only;cases kQ P fl.type with
     |none=>rfl
     |some n=>cases n<;>rfl
   |_=>rfl
def Jk(P:ag)(W:AW)(t:ae)(v i:ad):
 (match Tj P t with
 |some (none,z)=>(match vSl v with
  |some (a,len)=>(match Vy i with
   |some n=>(match Nat.blt n len with
    |true=>some (Value.pointer (some (a.add (n*z))),W)
    |false=>none)
   |none=>none)
  |none=>none)
 |some (some len,z)=>(match Ci v with
  |some a=>(match Vy i with
   |some n=>(match Nat.blt n len with
    |true=>some (.pointer (some (a.add (n*z))),W)
    |false=>none)
   |none=>none)
  |none=>none)
 |none=>none)=(match P.underlying t,v,kK i with
 |some (.slice e),.slice (some a) len _,some n=>match kQ P e with
  |some z=>if n<len then some (.pointer (some (a.add (n*z))),W)else none
  |none=>none
 |some (.array len e),.pointer (some a),some n=>match kQ P e with
  |some z=>if n<len then some (.pointer (some (a.add (n*z))),W)else none
  |none=>none
 |_,_,_=>none):=by
 rw[Ug];have key:∀(n len:Nat) (u:Option (ad×AW)),(match Nat.blt n len with|true=>u|false=>none)=if n<len then u else none:=by
  intro n len u;by_cases h:n<len
  ·have h1:Nat.blt n len=true:=by rw[ic];exact h
   rw[aq h,h1]
  ·rw[ap h];cases hb:Nat.blt n len with
   |true=>exact absurd (by rw[ic]at hb;exact hb) h
   |false=>rfl
 simp only[key];unfold Tj;generalize kK i=k;generalize P.underlying t=u;cases u with
 |none=>rfl
 |some d=>
  cases d with
  |slice e=>
   cases hz:kQ P e with
   |none=>cases v with
    |slice a l c=>cases a<;>cases k<;>simp[hz]
    |_=>simp[hz]
   |some z=>cases v with
    |slice a l c=>cases a<;>cases k<;>simp[hz,vSl]
    |_=>simp[hz,vSl]
  |array n e=>
   cases hz:kQ P e with
   |none=>cases v with
    |pointer a=>cases a<;>cases k<;>simp[hz]
    |_=>simp[hz]
   |some z=>cases v with
    |pointer a=>cases a<;>cases k<;>simp[hz,Ci]
    |_=>simp[hz,Ci]
  |_=>rfl
def agZ(x:an)(P:ag)(call:Callee)(o:aj)(R:ah.Fr)(W:AW):Option (ad×AW):=
 some (ax R x,W)
def Y6(x:an)(P:ag)(call:Callee)(o:aj)(R:ah.Fr)(W:AW):Option (ad×AW):=
 some (ax R x,W)
def aiN(c:an)(a:an)(b:an)(P:ag)(call:Callee)(o:aj)(R:ah.Fr)(W:AW):Option (ad×AW):=
 match aa8 (ax R c)with
  |some true=>some (ax R a,W)
  |some false=>some (ax R b,W)
  |none=>none
def acF(t:ae)(P:ag)(call:Callee)(o:aj)(R:ah.Fr)(W:AW):Option (ad×AW):=
 match iM P t with
  |some z=>some (W.new (nC t z.cells.toList) λb W'=>(Value.pointer (some ⟨b,0,none⟩),W'))
  |none=>none
def alo(t:ae)(x:an)(P:ag)(call:Callee)(o:aj)(R:ah.Fr)(W:AW):Option (ad×AW):=
 some (W.new (.cells (ax R x).cells.toList) λb W'=>(Value.pointer (some ⟨b,0,none⟩),W'))
def acP(t:ae)(ps:Array (Nat×an))(P:ag)(call:Callee)(o:aj)(R:ah.Fr)(W:AW):Option (ad×AW):=
 (xH P R t ps).map λv=>(v,W)
def LW(t:ae)(n:Nat)(ps:Array (Nat×an))(P:ag)(call:Callee)(o:aj)(R:ah.Fr)(W:AW):Option (ad×AW):=
 kM P R W t n ps
def Zx(_t:ae)(_m:an)(_k:an)(_v:an)(P:ag)(call:Callee)(o:aj)(R:ah.Fr)(W:AW):Option (ad×AW):=
 gw P call o R W
def aib(t:ae)(a:an)(P:ag)(call:Callee)(o:aj)(R:ah.Fr)(W:AW):Option (ad×AW):=
 match Ci (ax R a)with
  |some a=>O4 P W t a
  |none=>none
def abB(t:ae)(a:an)(x:an)(P:ag)(call:Callee)(o:aj)(R:ah.Fr)(W:AW):Option (ad×AW):=
 match Ci (ax R a)with
  |some a=>Jd P W t a (ax R x)
  |none=>none
def acQ(_g:Nat)(P:ag)(call:Callee)(o:aj)(R:ah.Fr)(W:AW):Option (ad×AW):=
 gw P call o R W
def ad5(_g:Nat)(P:ag)(call:Callee)(o:aj)(R:ah.Fr)(W:AW):Option (ad×AW):=
 gw P call o R W
def Rv(_x:an)(P:ag)(call:Callee)(o:aj)(R:ah.Fr)(W:AW):Option (ad×AW):=
 gw P call o R W
def N6(op:BinOp)(t:ae)(x:an)(y:an)(yt:ae)(P:ag)(call:Callee)(o:aj)(R:ah.Fr)(W:AW):Option (ad×AW):=
 match afR P W op t (ax R x) (ax R y)with
  |some v=>some (v,W)
  |none=>(jh P R o).map λv=>(v,W)
def af7(op:UnOp)(t:ae)(x:an)(P:ag)(call:Callee)(o:aj)(R:ah.Fr)(W:AW):Option (ad×AW):=
 (jh P R o).map λv=>(v,W)
def UX(s:ae)(d:ae)(x:an)(P:ag)(call:Callee)(o:aj)(R:ah.Fr)(W:AW):Option (ad×AW):=
 (Ey P W s d (ax R x) (jh P R o)).map λv=>(v,W)
def vP(_d:ae)(_x:an)(P:ag)(call:Callee)(o:aj)(R:ah.Fr)(W:AW):Option (ad×AW):=
 gw P call o R W
def DL(_t:ae)(_x:an)(P:ag)(call:Callee)(o:aj)(R:ah.Fr)(W:AW):Option (ad×AW):=
 gw P call o R W
def Qd(_fn:Fn)(_first:Array an)(_captured:Array an)(P:ag)(call:Callee)(o:aj)(R:ah.Fr)(W:AW):Option (ad×AW):=
 gw P call o R W
def UA(_t:ae)(_r:Option an)(P:ag)(call:Callee)(o:aj)(R:ah.Fr)(W:AW):Option (ad×AW):=
 gw P call o R W
def RZ(_t:ae)(_s:an)(P:ag)(call:Callee)(o:aj)(R:ah.Fr)(W:AW):Option (ad×AW):=
 gw P call o R W
def N3(t:ae)(l:an)(c:an)(P:ag)(call:Callee)(o:aj)(R:ah.Fr)(W:AW):Option (ad×AW):=
 mw P W t (ax R l) (ax R c)
def adv(t:ae)(x:an)(lo:Option an)(hi:Option an)(mx:Option an)(P:ag)(call:Callee)(o:aj)(R:ah.Fr)(W:AW):Option (ad×AW):=
 match mH P t (ax R x) (lo.map (ax R)) (hi.map (ax R)) (mx.map (ax R))with
  |some v=>some (v,W)
  |none=>(jh P R o).map λv=>(v,W)
def N5(s:ae)(x:an)(f:Nat)(P:ag)(call:Callee)(o:aj)(R:ah.Fr)(W:AW):Option (ad×AW):=
 match Ci (ax R x)with
  |some a=>(match NE P s f with
   |some k=>some (.pointer (some (a.add k)),W)
   |none=>none)
  |none=>none
def ab3(t:ae)(x:an)(f:Nat)(P:ag)(call:Callee)(o:aj)(R:ah.Fr)(W:AW):Option (ad×AW):=
 match P.underlying t,ax R x with
  |some (.struct fs),.agg cs=>match fs[f]? with
   |some fl=>(Ac P fl.type cs fl.offset).map λv=>(v,W)
   |none=>none
  |_,_=>none
def MG(t:ae)(x:an)(i:an)(P:ag)(call:Callee)(o:aj)(R:ah.Fr)(W:AW):Option (ad×AW):=
 match Tj P t with
  |some (none,z)=>(match vSl (ax R x)with
   |some (a,len)=>(match Vy (ax R i)with
    |some n=>(match Nat.blt n len with
     |true=>some (.pointer (some (a.add (n*z))),W)
     |false=>none)
    |none=>none)
   |none=>none)
  |some (some len,z)=>(match Ci (ax R x)with
   |some a=>(match Vy (ax R i)with
    |some n=>(match Nat.blt n len with
     |true=>some (.pointer (some (a.add (n*z))),W)
     |false=>none)
    |none=>none)
   |none=>none)
  |none=>none
def abE(_t:ae)(_x:an)(_i:an)(P:ag)(call:Callee)(o:aj)(R:ah.Fr)(W:AW):Option (ad×AW):=
 gw P call o R W
def Zl(t:ae)(m:an)(k:an)(ok:Bool)(P:ag)(call:Callee)(o:aj)(R:ah.Fr)(W:AW):Option (ad×AW):=
 (ll P W t (ax R m) (ax R k) ok).map λv=>(v,W)
def NH(t:ae)(m:an)(k:an)(v:an)(P:ag)(call:Callee)(o:aj)(R:ah.Fr)(W:AW):Option (ad×AW):=
 (gJ P W t (ax R m) (ax R k) (ax R v)).map λW'=>(ak,W')
def QE(_t:ae)(_m:an)(_k:an)(P:ag)(call:Callee)(o:aj)(R:ah.Fr)(W:AW):Option (ad×AW):=
 gw P call o R W
def KM(_t:ae)(_m:an)(_s:an)(_v:an)(P:ag)(call:Callee)(o:aj)(R:ah.Fr)(W:AW):Option (ad×AW):=
 gw P call o R W
def acf(_t:ae)(_x:an)(P:ag)(call:Callee)(o:aj)(R:ah.Fr)(W:AW):Option (ad×AW):=
 gw P call o R W
def ahY(_it:an)(_s:Bool)(P:ag)(call:Callee)(o:aj)(R:ah.Fr)(W:AW):Option (ad×AW):=
 gw P call o R W
def ad9(_it:an)(P:ag)(call:Callee)(o:aj)(R:ah.Fr)(W:AW):Option (ad×AW):=
 gw P call o R W
def Lk(_x:an)(_t:ae)(_a:ae)(_ok:Bool)(P:ag)(call:Callee)(o:aj)(R:ah.Fr)(W:AW):Option (ad×AW):=
 gw P call o R W
def Tw(x:an)(i:Nat)(P:ag)(call:Callee)(o:aj)(R:ah.Fr)(W:AW):Option (ad×AW):=
 match ahv (ax R x)with
  |some vs=>(vs[i]?).map λv=>(v,W)
  |none=>none
def aij(c:Call)(P:ag)(call:Callee)(o:aj)(R:ah.Fr)(W:AW):Option (ad×AW):=
 match c.callee with
  |.builtin b=>jd P o b c.argTypes (c.args.toList.map (ax R)) R W
  |.value f=>call (ax R f) (c.args.toList.map (ax R)) W
  |.invoke r name=>match ax R r with
   |.iface t v=>match rN P t name with
    |some f=>call (.func (.func f) #[] #[]) (v::c.args.toList.map (ax R)) W
    |none=>none
   |_=>none
def hGo(_c:Call)(P:ag)(call:Callee)(o:aj)(R:ah.Fr)(W:AW):Option (ad×AW):=
 gw P call o R W
def adJ(_c:Call)(P:ag)(call:Callee)(o:aj)(R:ah.Fr)(W:AW):Option (ad×AW):=
 gw P call o R W
def adx(_x:an)(P:ag)(call:Callee)(o:aj)(R:ah.Fr)(W:AW):Option (ad×AW):=
 gw P call o R W
def ahM(_c:an)(_x:an)(P:ag)(call:Callee)(o:aj)(R:ah.Fr)(W:AW):Option (ad×AW):=
 gw P call o R W
def afr(_t:ae)(_c:an)(_ok:Bool)(P:ag)(call:Callee)(o:aj)(R:ah.Fr)(W:AW):Option (ad×AW):=
 gw P call o R W
def ZQ(_cs:Array SelectCase)(_bl:Bool)(P:ag)(call:Callee)(o:aj)(R:ah.Fr)(W:AW):Option (ad×AW):=
 gw P call o R W
def an1:Op->ag->Callee->aj->ah.Fr->AW->Option (ad×AW):=
 Op.rec (motive:=λ_=>ag->Callee->aj->ah.Fr->AW->Option (ad×AW)) agZ Y6 aiN acF alo acP LW Zx aib abB acQ ad5 Rv N6 af7 UX vP DL Qd UA RZ N3 adv N5 ab3 MG abE Zl NH QE KM acf ahY ad9 Lk Tw aij hGo adJ adx ahM afr ZQ
def qF(P:ag)(call:Callee)(o:aj)(R:ah.Fr)(W:AW):Option (ad×AW):=an1 o.op P call o R W
def vX(P:ag)(call:Callee)(o:aj)(R:ah.Fr)(W:AW):qF P call o R W=gw P call o R W:=by
 obtain⟨dst,op,type,pos,after,guard⟩:=o;cases op with
 |pick c a b=>exact Zk (ax R c) _ _
 |load t a=>exact WE P W t (ax R a)
 |store t a x=>exact Q0 P W t (ax R a) (ax R x)
 |binOp op t x y yt=>show N6 op t x y yt P call ⟨dst,.binOp op t x y yt,type,pos,after,guard⟩ R W=_;unfold N6;rw[YT];rfl
 |extract x i=>exact Oc W (ax R x) i
 |fieldAddr s x f=>exact IS P W s (ax R x) f
 |indexAddr t x i=>exact Jk P W t (ax R x) (ax R i)
 |_=>rfl
def xD(P:ag)(f':ad)(cu:List ad)(w:am)(R:ad->am->Prop):Prop:=
 match f' with
 |.func (.func i) fs cs=>(callFunc i (fs++cu.toArray++cs)).run P w=.ok (.enter i (fs++cu.toArray++cs)) w/\
  CallsIn (FE none) 0 P i (fs++cu.toArray++cs) w (λe w'=>∃v,e=.returned v/\R v w')
 |.func (.yield l) fs _=>∃f tmps ats bd,(Instr.yield l (fs++cu.toArray)).run P w=.ok (.round l f tmps ats bd) w/\
  RoundIn (FE none) 0 P l f tmps ats bd w (λe w'=>∃v,e=.returned v/\R v w')
 |_=>False
def bI(P:ag)(ng:List Nat)(call:Callee):Prop:=
 ∀f args W v W',call f args W=some (v,W')->∀σ w f' cu,bg σ W w.heap->wV σ ng->VR σ f f'->LR σ args cu->
  xD P f' cu w (λv' w'=>∃σ',VR σ' v v'/\bg σ' W' w'.heap/\eF σ W w σ' W' w')
section
variable {P:ag} {σ:cI} {W:AW} {w:am}
def HA(hW:bg σ W w.heap){b:Builtin}{R:ah.Fr}{ρ:an->ad}{v:ad}{W':AW}{dst:Option Tmp}{type:ae}{pos:String}{after:Array Edge}{guard:Option (Nat×Bool)}{args:Array an}{argTypes:Array ae}
 (h:jd P {dst,op:=.call {callee:=.builtin b,args,argTypes},type,pos,after,guard} b argTypes (args.toList.map (ax R)) R W=some (v,W'))(hρ:∀x∈args,VR σ (ax R x) (ρ x)):
 jr P σ W w (execOp ρ {dst,op:=.call {callee:=.builtin b,args,argTypes},type,pos,after,guard}) v W':=by
 have gQ:∀(x:Option ad),(x.map λv=>(v,W))=some (v,W')->x=some v/\W'=W:=by
  intro x hx;cases x with
  |none=>cases hx
  |some u=>simp at hx;exact⟨by rw[hx.1],hx.2.symm⟩
 have aaS:∀(x:Option AW),(x.map λW'=>(Value.tuple #[],W'))=some (v,W')->x=some W'/\v=.tuple #[]:=by
  intro x hx;cases x with
  |none=>cases hx
  |some u=>simp at hx;exact⟨by rw[hx.2],hx.1.symm⟩
 have Df:execOp ρ {dst,op:=.call {callee:=.builtin b,args,argTypes},type,pos,after,guard}=builtin b argTypes type (args.map λ|.const _=>true|_=>false) (args.map ρ):=by simp[execOp,resolve,invoke];rfl
 have cq:LR σ (args.toList.map (ax R)) (args.map ρ).toList:=by have:=wJ args hρ;simpa using this
 unfold jd at h;split at h
 ·rename_i A n c xf;rw[xf]at cq;obtain⟨x',l',e1,hx,hl⟩:=cq.of_cons;have:=hl.of_nil;subst this;have e2:args.map ρ=#[x']:=by rw[<-ie (xs:=args.map ρ),e1]
  split at h
  ·rename_i e hu;injection h with h;injection h with h1 h2;subst h1;subst h2;rw[Df,e2];cases ha:argTypes[0]? with
   |none=>rw[ha]at hu;cases hu
   |some t=>rw[ha]at hu;simp only[bL]at hu;refine .value (s:=Builtin.len_ argTypes type #[x']) rfl hW (v':=goInt n) ?_ (.int _ _);cases hx<;>simp[Builtin.len_,ha,bH hu]
  ·cases h
 ·rename_i xf;rw[xf]at cq;obtain⟨x',l',e1,hx,hl⟩:=cq.of_cons;have:=hl.of_nil;subst this;have e2:args.map ρ=#[x']:=by rw[<-ie (xs:=args.map ρ),e1]
  split at h
  ·rename_i k e hu;injection h with h;injection h with h1 h2;subst h1;subst h2;rw[Df,e2];cases ha:argTypes[0]? with
   |none=>rw[ha]at hu;cases hu
   |some t=>rw[ha]at hu;simp only[bL]at hu;refine .value (s:=Builtin.len_ argTypes type #[x']) rfl hW (v':=goInt 0) ?_ (.int _ _);cases hx;simp[Builtin.len_,ha,bH hu]
  ·cases h
 ·rename_i r xf;rw[xf]at cq;obtain⟨x',l',e1,hx,hl⟩:=cq.of_cons;have:=hl.of_nil;subst this;have e2:args.map ρ=#[x']:=by rw[<-ie (xs:=args.map ρ),e1]
  split at h
  ·rename_i k e es c hu hr;injection h with h;injection h with h1 h2;subst h1;subst h2;rw[Df,e2];cases ha:argTypes[0]? with
   |none=>rw[ha]at hu;cases hu
   |some t=>
    rw[ha]at hu;simp only[bL]at hu;cases hx with
    |map _ g hg=>
     obtain⟨_,_,fP,g3,g4⟩:=Di hW hr hg;refine .value (s:=Builtin.len_ argTypes type #[.map (some g.B)]) rfl hW (v':=goInt es.length) ?_ (.int _ _);have eG:fP.size=es.length:=by have:=g4.1;simp at this;omega
     simp[Builtin.len_,ha,bH hu,run_getObj_map g3,eG]
  ·cases h
 ·rename_i s x xf;rw[xf]at cq;obtain⟨s',l',e1,hs,hl⟩:=cq.of_cons;obtain⟨x',Xo,e3,hx,zS⟩:=hl.of_cons;have:=zS.of_nil;subst this;subst e3;have e2:args.map ρ=#[s',x']:=by rw[<-ie (xs:=args.map ρ),e1]
  rw[Df,e2];exact .lT (s:=Builtin.append_ argTypes type #[s',x']) rfl (Hp hW h hs hx)
 ·rename_i s x xf;rw[xf]at cq;obtain⟨s',l',e1,hs,hl⟩:=cq.of_cons;obtain⟨x',Xo,e3,hx,zS⟩:=hl.of_cons;have:=zS.of_nil;subst this;subst e3;have e2:args.map ρ=#[s',x']:=by rw[<-ie (xs:=args.map ρ),e1]
  rw[Df,e2];obtain⟨v',w',a,b,c,d⟩:=Qk (ty:=type) hW h hs hx;exact .lT (s:=Builtin.copy_ argTypes type #[s',x']) rfl ⟨σ,v',w',a,b,c,d⟩
 ·rename_i x xf;rw[xf]at cq;obtain⟨x',l',e1,hx,hl⟩:=cq.of_cons;have:=hl.of_nil;subst this;have e2:args.map ρ=#[x']:=by rw[<-ie (xs:=args.map ρ),e1]
  rw[Df,e2];obtain⟨hc,rfl⟩:=aaS _ h;obtain⟨w',a,b,c⟩:=Ns (ty:=type) hW hc hx;exact .lT (s:=Builtin.clear_ argTypes type #[x']) rfl ⟨σ,.tuple #[],w',a,.undef,b,c⟩
 ·rename_i s x xf;rw[xf]at cq;obtain⟨s',l',e1,hs,hl⟩:=cq.of_cons;obtain⟨x',Xo,e3,hx,zS⟩:=hl.of_cons;have:=zS.of_nil;subst this;subst e3;have e2:args.map ρ=#[s',x']:=by rw[<-ie (xs:=args.map ρ),e1]
  rw[Df,e2];obtain⟨hc,rfl⟩:=aaS _ h;obtain⟨w',a,b,c⟩:=Lm (ty:=type) hW hc hs hx;exact .lT (s:=Builtin.delete_ argTypes type #[s',x']) rfl ⟨σ,.tuple #[],w',a,.undef,b,c⟩
 ·rename_i x xf;rw[xf]at cq;obtain⟨x',l',e1,hx,hl⟩:=cq.of_cons;have:=hl.of_nil;subst this;have e2:args.map ρ=#[x']:=by rw[<-ie (xs:=args.map ρ),e1]
  rw[Df,e2];obtain⟨hc,rfl⟩:=gQ _ h;obtain⟨v',a,b⟩:=Dq (P:=P) (w:=w) (ts:=argTypes) (ty:=type) hc hx;exact .lT (s:=Builtin.unsafeSliceData_ argTypes type #[x']) rfl ⟨σ,v',w,a,b,hW,eF.refl _ _ _⟩
 ·rename_i s x xf;rw[xf]at cq;obtain⟨s',l',e1,hs,hl⟩:=cq.of_cons;obtain⟨x',Xo,e3,hx,zS⟩:=hl.of_cons;have:=zS.of_nil;subst this;subst e3;have e2:args.map ρ=#[s',x']:=by rw[<-ie (xs:=args.map ρ),e1]
  rw[Df,e2];exact .lT (s:=Builtin.unsafeString_ argTypes type #[s',x']) rfl (zY hW h hs hx)
 ·obtain⟨hb,rfl⟩:=gQ _ h;exact .aaR hW hb (λx hx=>by simp only[Op.operands,Call.operands]at hx;exact hρ x (by simpa using hx))
def NU{t:ae}{name:String}{f:gE}(h:rN P t name=some f)(v:ad)(w:am):(method (P.types.size+Made.depth) t v name).run P w=.ok (f,v) w:=by
 unfold rN at h;split at h
 ·rename_i i d hi hd;split at h
  ·rename_i m hm;split at h
   ·rename_i g e hp hf;split at h
    ·rename_i h0;injection h with h;subst h;obtain⟨n,hn⟩:∃n,P.types.size+Made.depth=n+1:=⟨P.types.size+Made.depth-1,by omega⟩;rw[hn];simp[method,typeInfo,hi,hm,hp,follow,hf,receiverAt,bH hd,Place.get]
    ·cases h
   ·cases h
  ·cases h
 ·cases h
def DP(ro:Option Nat):(FE ro).depth=none:=rfl
def EC{ro ro':Option Nat}{n:Nat}{f:gE}{args:Array ad}{w:am}{R:Ending->am->Prop}(h:CallsIn (FE ro) n P f args w R):CallsIn (FE ro') n P f args w R:=h
def Mv{ro ro':Option Nat}{n l:Nat}{f:gE}{tmps:Array ad}{ats bd:bA}{w:am}{R:Ending->am->Prop}(h:RoundIn (FE ro) n P l f tmps ats bd w R):RoundIn (FE ro') n P l f tmps ats bd w R:=h
def He{ro:Option Nat}{o:aj}{a:aU}{v:ad}{W':AW}{next:aU->am->Prop}{Q:cJ->aU->am->Prop}(KD:∀c,o.op≠ .defer c)(h:jr P σ W w (execOp a.eval o) v W')
 (hn:∀σ' v' w',VR σ' v v'->bg σ' W' w'.heap->eF σ W w σ' W' w'->next (a.put o.dst v') w'):o.wpIn (FE ro) 0 P a w next Q:=by
 refine⟨λf _=>trivial,?_⟩;rw[Oper.semAt_eq _ _ _ KD];obtain⟨σ',nx,v',w',hr,hx,h1,h2,h3⟩:=h;rw[hr];rcases hx with rfl|⟨rfl,rfl⟩
 ·exact hn σ' v' w' h1 h2 h3
 ·exact hn σ' ak w' h1 h2 h3
def EZ{ro:Option Nat}{o:aj}{a:aU}{v:ad}{W':AW}{next:aU->am->Prop}{Q:cJ->aU->am->Prop}{f':ad}{cu:List ad}(KD:∀c,o.op≠ .defer c)
 (hf:∀i fs cs,f'=.func (.func i) fs cs->(execOp a.eval o).run P w=(callFunc i (fs++cu.toArray++cs)).run P w)
 (hy:∀l fs cs,f'=.func (.yield l) fs cs->(execOp a.eval o).run P w=(Instr.yield l (fs++cu.toArray)).run P w)
 (h:xD P f' cu w (λv' w'=>∃σ',VR σ' v v'/\bg σ' W' w'.heap/\eF σ W w σ' W' w'))
 (hn:∀σ' v' w',VR σ' v v'->bg σ' W' w'.heap->eF σ W w σ' W' w'->next (a.put o.dst v') w'):o.wpIn (FE ro) 0 P a w next Q:=by
 refine⟨λf _=>trivial,?_⟩;rw[Oper.semAt_eq _ _ _ KD];unfold xD at h;split at h
 ·rename_i i fs cs;obtain⟨h1,h2⟩:=h;rw[hf i fs cs rfl,h1];refine⟨λhd=>by rw[DP]at hd;simp at hd,?_⟩;refine lL (EC h2) ?_;rintro e w' ⟨u,rfl,σ',k1,k2,k3⟩;exact hn σ' u w' k1 k2 k3
 ·rename_i l fs cs;obtain⟨f,tmps,ats,bd,h1,h2⟩:=h;rw[hy l fs cs rfl,h1];refine⟨λhd=>by rw[DP]at hd;simp at hd,?_⟩;refine RoundIn.mono (Mv h2) ?_;rintro e w' ⟨u,rfl,σ',k1,k2,k3⟩;exact hn σ' u w' k1 k2 k3
 ·exact h.elim
def H1{ng:List Nat}{call:Callee}(hc:bI P ng call)(hW:bg σ W w.heap)(hG:wV σ ng){ro:Option Nat}{o:aj}{R:ah.Fr}{a:aU}{v:ad}{W':AW}{next:aU->am->Prop}{Q:cJ->aU->am->Prop}
 (h:qF P call o R W=some (v,W'))(hρ:∀x∈o.op.operands,VR σ (ax R x) (a.eval x))
 (hn:∀σ' v' w',VR σ' v v'->bg σ' W' w'.heap->eF σ W w σ' W' w'->next (a.put o.dst v') w'):o.wpIn (FE ro) 0 P a w next Q:=by
 rw[vX]at h;unfold gw at h;split at h
 ·rename_i c qQ;obtain⟨dst,op,type,pos,after,guard⟩:=o;simp only at qQ;subst qQ;obtain⟨callee,args,argTypes⟩:=c;have cq:∀x∈args,VR σ (ax R x) (a.eval x):=λx hx=>hρ x (by simp[Op.operands,Call.operands,hx])
  have hl:LR σ (args.toList.map (ax R)) (args.map a.eval).toList:=by simpa using wJ args cq
  split at h
  ·rename_i b hb;simp only at hb h;subst hb;exact He (λ_ hx=>by cases hx) (HA hW h cq) hn
  ·rename_i f hb;simp only at hb h;subst hb;have hf:=hρ f (by simp[Op.operands,Call.operands]);refine EZ (λ_ hx=>by cases hx) ?_ ?_ (hc _ _ _ _ _ h σ w _ _ hW hG hf hl) hn
   ·intro i fs cs e;rw[ie];simp[execOp,resolve,e,Deferred.ofValue,invoke]
   ·intro l fs cs e;rw[ie];simp[execOp,resolve,e,Deferred.ofValue,invoke]
  ·rename_i r name hb;simp only at hb h;subst hb;have hr:=hρ r (by simp[Op.operands,Call.operands]);split at h
   ·rename_i t u Ko;rw[Ko]at hr;obtain⟨u',hu,e⟩:=hr.By;split at h
    ·rename_i f hm;refine EZ (f':=.func (.func f) #[] #[]) (cu:=u'::(args.map a.eval).toList) (λ_ hx=>by cases hx) ?_ ?_ (hc _ _ _ _ _ h σ w _ _ hW hG (.func _ _ _ _ _ _ (.func f) rfl (λi v v' x=>by simp at x) rfl (λi v v' x=>by simp at x)) (.cons hu hl)) hn
     ·intro i fs cs e';injection e' with e1 e2 e3;injection e1 with e1;subst e1;subst e2;subst e3;have hx:(#[a.eval r]++args.map a.eval).extract 1 (args.size+1)=args.map a.eval:=by apply mN.1;simp[H2];exact ve (by simp)
      have h0:(#[a.eval r]++args.map a.eval)[0]? =some (.iface t u'):=by rw[zJ];simp[e]
      have qY:(#[a.eval r]++args.map a.eval).size=args.size+1:=by simp;omega
      have Vl:(invoke (.fn (.method name) #[]) (#[a.eval r]++args.map a.eval)).run P w=(callFunc f (#[u']++args.map a.eval)).run P w:=by rw[show invoke (.fn (.method name) #[]) (#[a.eval r]++args.map a.eval)=(match(#[a.eval r]++args.map a.eval)[0]? with|some recv=>callMethod recv name ((#[a.eval r]++args.map a.eval).extract 1 (#[a.eval r]++args.map a.eval).size)|none=>stuck "call: a method without a receiver")from by unfold invoke;split<;>simp_all];rw[h0];simp only[qY,hx,callMethod,b9,run_program,bX,NU hm u' w]
      have e3:(#[]:Array ad)++(u'::(args.map a.eval).toList).toArray++#[]=#[u']++args.map a.eval:=by apply mN.1;simp
      rw[e3,<-Vl];simp[execOp,resolve]
     ·intro l fs cs e';injection e' with e1 e2 e3;cases e1
    ·cases h
   ·cases h
 ·rename_i Xr;refine He ?_ (OI hW h hρ) hn;intro c hx;unfold FV at h;rw[hx]at h;cases h
end
end
section
variable [ah]
def Grow(W W':AW):Prop:=∀b o,W.get b=some o->W'.get b=some o
def Grow.refl(W:AW):Grow W W:=λ_ _ h=>h
def Grow.add{W:AW}(hf:W.get W.next=none)(o:db):Grow W (W.add o):=λb o' h=>by
 have:W.next≠b:=λe=>by subst e;rw[hf]at h;cases h
 rw[AW.aD _ _ this];exact h
def Gy(o:aj)(R R':ah.Fr):Prop:=∀x∈o.op.operands,ax R' x=ax R x
def Ly{P:ag}{o:aj}{R R':ah.Fr}(h:Gy o R R'):jh P R' o=jh P R o:=by
 unfold jh;have e1:o.op.operands.toList.all (λx=>bC (ax R' x))=o.op.operands.toList.all (λx=>bC (ax R x)):=by rw[wO];simp only[cw,Array.mem_toList_iff];exact⟨λk x hx=>by rw[<-h x hx];exact k x hx,λk x hx=>by rw[h x hx];exact k x hx⟩
 rw[e1];cases hn:wI o.op with
 |false=>rfl
 |true=>rw[execOp_congr o (λcs b hs=>by rw[hs]at hn;cases hn) (λx hx=>h x hx)]
def D0{P:ag}{W W':AW}{t:ae}{x y:ad}(hx:bC x=true):mh P W' t x y=mh P W t x y:=by
 unfold mh;split;case h_3=>simp[bC,eQ,bZ]at hx
 all_goals first
  |rfl
  |(simp only[*];done)
  |skip
 all_goals(split<;>first|rfl|(simp_all;done)|skip)
def G9{P:ag}{W W':AW}(hg:Grow W W'){t:ae}{x y:ad}{b:Bool}(h:mh P W t x y=some b):mh P W' t x y=some b:=by
 unfold mh at h|-;split at h<;>try exact h
 split at h<;>try(cases h;done)
 split at h<;>try(cases h;done)
 rename_i ca cb h1 h2;rw[hg _ _ h1,hg _ _ h2];exact h
def zh{W W':AW}(hg:Grow W W'){b:Nat}{cs:List ad}(h:aC W b=some cs):aC W' b=some cs:=by
 unfold aC at h|-;split at h
 ·rename_i ck h1;rw[hg _ _ h1];exact h
 ·rename_i ck h1;rw[hg _ _ h1];exact h
 ·rename_i t' ck h1;rw[hg _ _ h1];exact h
 ·cases h
def D7{W W':AW}(hg:Grow W W'){b off n:Nat}{l:List ad}(h:mm W b off n=some l):mm W' b off n=some l:=by
 rw[iw]at h|-;split at h
 ·rename_i cs hc;rw[zh hg hc];exact h
 ·cases h
def Dx{W W':AW}(hg:Grow W W'){x:ad}{n:Nat}{l:List ad}(h:bM W x n=some l):bM W' x n=some l:=by
 unfold bM at h|-;split at h
 ·exact h
 ·split at h
  ·rename_i h0;rw[aq h0];exact h
  ·rename_i h0;rw[ap h0];split at h
   ·cases h
   ·rename_i h1;rw[ap h1];exact D7 hg h
 ·cases h
def Ou{P:ag}{W W':AW}(hg:Grow W W'){s d:ae}{x v:ad}{alt:Option ad}(h:Ey P W s d x alt=some v):Ey P W' s d x alt=some v:=by
 unfold Ey at h|-;split at h
 ·rename_i a n c;show qW P W' s d (.slice (some a) n c)=some v;unfold qW at h|-;dsimp only at h|-;split at h
  ·rename_i e hs hd;split at h
   ·rename_i he;split at h
    ·rename_i cs pS;rw[Dx hg pS];exact h
    ·cases h
   ·cases h
  ·cases h
 ·exact h
def Nn{P:ag}{W W':AW}(hg:Grow W W'){t:ae}{x v:ad}(h:ju P W t x=some v):ju P W' t x=some v:=by
 unfold ju at h|-;split at h
 ·rename_i a;split at h
  ·rename_i ha;split at h
   ·rename_i cs hc;simp only[zh hg hc];exact h
   ·cases h
  ·rename_i ha;split at h
   ·rename_i n hn;cases hr:mm W a.block a.off n with
    |none=>rw[hr]at h;cases h
    |some l=>rw[hr]at h;rw[D7 hg hr];exact h
   ·cases h
  ·cases h
 ·cases h
def IH{P:ag}{W W':AW}(hg:Grow W W'){t:ae}{m k v:ad}{ok:Bool}(h:ll P W t m k ok=some v):ll P W' t m k ok=some v:=by
 unfold ll at h|-;split at h
 ·exact h
 ·rename_i kt e r hu;split at h
  ·rename_i es c hr;simp only[hg _ _ hr];exact h
  ·cases h
 ·cases h
def Ks{R R':ah.Fr}{ps:Array (Nat×an)}(h:∀p∈ps.toList,ax R' p.2=ax R p.2):parts R' ps=parts R ps:=by unfold parts;exact List.map_congr_left λp hp=>by rw[h p hp]
set_option maxHeartbeats 1000000 in
def wa{P:ag}{call:Callee}{o:aj}{R:ah.Fr}{W W1:AW}{v:ad}(hk:ik o<=1)(h:qF P call o R W=some (v,W1)):
 W1=W/\∀R' W',Gy o R R'->(ik o=0\/Grow W W')->qF P call o R' W'=some (v,W'):=by
 have gQ:∀(x:Option ad),(x.map λv=>(v,W))=some (v,W1)->x=some v/\W1=W:=by
  intro x hx;cases x with
  |none=>cases hx
  |some u=>simp at hx;exact⟨by rw[hx.1],hx.2.symm⟩
 have WK:∀R',Gy o R R'->jh P R' o=jh P R o:=λR' ha=>Ly ha
 obtain⟨dst,op,type,pos,after,guard⟩:=o;cases op<;>simp only[ik]at hk<;>(try(exfalso;omega))<;>simp only[vX,gw,FV]at h|- <;>simp only[Gy,Op.operands]at WK|-;case move x=>injection h with h;injection h with h1 h2;subst h1;subst h2;exact⟨rfl,λR' W' ha _=>by rw[ha x (by simp)]⟩
 case assign x=>injection h with h;injection h with h1 h2;subst h1;subst h2;exact⟨rfl,λR' W' ha _=>by rw[ha x (by simp)]⟩
 case pick c a b=>
  split at h<;>(try(cases h;done))<;>rename_i pF<;>injection h with h<;>injection h with h1 h2<;>subst h1<;>subst h2<;>
   exact⟨rfl,λR' W' ha _=>by rw[ha c (by simp),ha a (by simp),ha b (by simp),pF]⟩
 case build t ps=>
  obtain⟨hb,rfl⟩:=gQ _ h;refine⟨rfl,λR' W' ha _=>?_⟩;have:xH P R' t ps=xH P R t ps:=by unfold xH;rw[Ks λp hp=>ha p.2 (by simp;exact⟨p.1,by simpa using hp⟩)]
  rw[this,hb];rfl
 case nilCheck x=>
  split at h<;>(try(cases h;done))<;>rename_i pF<;>injection h with h<;>injection h with h1 h2<;>subst h1<;>subst h2<;>
   exact⟨rfl,λR' W' ha _=>by rw[ha x (by simp),pF]⟩
 case unOp op t x=>obtain⟨hb,rfl⟩:=gQ _ h;exact⟨rfl,λR' W' ha _=>by rw[WK R' (λy hy=>ha y hy),hb];rfl⟩
 case convert s d x=>obtain⟨hb,rfl⟩:=gQ _ h;refine⟨rfl,λR' W' ha hg=>?_⟩;have Bo:Grow W1 W':=hg.resolve_left (by simp[ik]);rw[ha x (by simp),WK R' (λy hy=>ha y hy),Ou Bo hb];rfl
 case makeInterface t x=>
  split at h
  ·cases h
  ·rename_i d hd hu;injection h with h;injection h with h1 h2;subst h1;subst h2;exact⟨rfl,λR' W' ha _=>by rw[ha x (by simp)]⟩
  ·cases h
 case slice t x lo hi mx=>
  have key:∀R',(∀y∈#[x]++lo.toArray++hi.toArray++mx.toArray,ax R' y=ax R y)->mH P t (ax R' x) (lo.map (ax R')) (hi.map (ax R')) (mx.map (ax R'))=mH P t (ax R x) (lo.map (ax R)) (hi.map (ax R)) (mx.map (ax R)):=by
   intro R' ha;have e1:ax R' x=ax R x:=ha x (by simp);have e2:lo.map (ax R')=lo.map (ax R):=by
    cases lo with
    |none=>rfl
    |some y=>simp only[cF];rw[ha y (by simp)]
   have e3:hi.map (ax R')=hi.map (ax R):=by
    cases hi with
    |none=>rfl
    |some y=>simp only[cF];rw[ha y (by simp)]
   have e4:mx.map (ax R')=mx.map (ax R):=by
    cases mx with
    |none=>rfl
    |some y=>simp only[cF];rw[ha y (by simp)]
   rw[e1,e2,e3,e4]
  split at h
  ·rename_i u hs;injection h with h;injection h with h1 h2;subst h1;subst h2;exact⟨rfl,λR' W' ha _=>by rw[key R' (λy hy=>ha y (by simpa using hy)),hs]⟩
  ·rename_i hs;obtain⟨hb,rfl⟩:=gQ _ h;exact⟨rfl,λR' W' ha _=>by rw[key R' (λy hy=>ha y (by simpa using hy)),hs,WK R' (λy hy=>ha y hy),hb];rfl⟩
 case fieldAddr s x f=>
  split at h
  ·rename_i fs a hu Ab;split at h
   ·rename_i fl IX;split at h
    ·rename_i n hn;injection h with h;injection h with h1 h2;subst h1;subst h2;exact⟨rfl,λR' W' ha _=>by rw[ha x (by simp)];simp[hu,Ab,IX,hn]⟩
    ·cases h
   ·cases h
  ·cases h
 case field t x f=>
  split at h
  ·rename_i fs cs hu Ab;split at h
   ·rename_i fl IX;obtain⟨hb,rfl⟩:=gQ _ h;exact⟨rfl,λR' W' ha _=>by rw[ha x (by simp)];simp[hu,Ab,IX,hb]⟩
   ·cases h
  ·cases h
 case indexAddr t x i=>
  have:W1=W:=by split at h<;>(try(cases h;done))<;>split at h<;>(try(cases h;done))<;>split at h<;>(try(cases h;done))<;>(injection h with h;injection h with h1 h2;exact h2.symm)
  subst this;refine⟨rfl,λR' W' ha _=>?_⟩;rw[ha x (by simp),ha i (by simp)];split at h<;>(try(cases h;done))<;>rename_i z hz<;>split at h<;>(try(cases h;done))<;>split at h<;>(try(cases h;done))<;>(injection h with h;injection h with h1 h2;simp[*])
 case index t x i=>
  split at h
  ·rename_i len e cs n hu Ab hi0;split at h
   ·rename_i z hz;split at h
    ·rename_i kW;obtain⟨hb,rfl⟩:=gQ _ h;exact⟨rfl,λR' W' ha _=>by rw[ha x (by simp),ha i (by simp)];simp[hu,Ab,hi0,hz,kW,hb]⟩
    ·cases h
   ·cases h
  ·rename_i yi;obtain⟨hb,rfl⟩:=gQ _ h;refine⟨rfl,λR' W' ha _=>?_⟩;rw[ha x (by simp),ha i (by simp)];split
   ·rename_i len e cs n hu Ab hi0;exact absurd hi0 (by intro hi0;exact yi _ _ _ _ hu Ab hi0)
   ·rw[WK R' (λy hy=>ha y hy),hb];rfl
 case extract x i=>
  split at h
  ·rename_i vs Ab;obtain⟨hb,rfl⟩:=gQ _ h;exact⟨rfl,λR' W' ha _=>by rw[ha x (by simp),Ab];simp[hb]⟩
  ·cases h
 case typeAssert x s t ok=>
  split at h
  ·cases h
  ·rename_i yi u v0 hu Ab;split at h
   ·rename_i hut;injection h with h;injection h with h1 h2;subst h1;subst h2;exact⟨rfl,λR' W' ha _=>by rw[ha x (by simp)];simp[hu,Ab,hut]⟩
   ·cases h
  ·cases h
 case load t a=>obtain⟨hb,rfl⟩:=gQ _ h;refine⟨rfl,λR' W' ha hg=>?_⟩;have Bo:Grow W1 W':=hg.resolve_left (by simp[ik]);rw[ha a (by simp),Nn Bo hb];rfl
 case lookup t m k ok=>obtain⟨hb,rfl⟩:=gQ _ h;refine⟨rfl,λR' W' ha hg=>?_⟩;have Bo:Grow W1 W':=hg.resolve_left (by simp[ik]);rw[ha m (by simp),ha k (by simp),IH Bo hb];rfl
 case makeFunc fn first jj=>
  cases fn<;>(try(simp only[]at hk;exfalso;omega));rename_i f0;simp only at h|-;injection h with h;injection h with h1 h2;subst h1;subst h2;refine⟨rfl,λR' W' ha _=>?_⟩;have e1:first.map (ax R')=first.map (ax R):=Array.map_congr_left λy hy=>ha y (by simp[hy])
  have e2:jj.map (ax R')=jj.map (ax R):=Array.map_congr_left λy hy=>ha y (by simp[hy])
  rw[e1,e2]
 case binOp op t x y yt=>
  by_cases qQ:op=.eql\/op=.neq
  ·have ee:∀W',(ik (⟨dst,.binOp op t x y yt,type,pos,after,guard⟩:aj)=0\/Grow W W')->Grow W W':=λW' hg=>hg.resolve_left (by rcases qQ with rfl|rfl<;>simp[ik])
   split at h
   ·rename_i u hb;injection h with h;injection h with h1 h2;subst h1;subst h2;refine⟨rfl,λR' W' ha hg=>?_⟩;have Bo:=ee W' hg;have:nl P W' op t (ax R x) (ax R y)=some u:=by
     unfold nl at hb|-;split at hb
     ·exact hb
     ·split at hb
      ·cases he:mh P W t (ax R x) (ax R y)with
       |none=>
        rw[he]at hb;cases ht:Fi P t (ax R x) (ax R y)with
        |none=>rw[ht]at hb;cases hb
        |some b=>rw[Gp ht W',<-ht];rw[ht]at hb|-;exact hb
       |some b=>rw[he]at hb;simp only[G9 Bo he];exact hb
      ·cases he:mh P W t (ax R x) (ax R y)with
       |none=>
        rw[he]at hb;cases ht:Fi P t (ax R x) (ax R y)with
        |none=>rw[ht]at hb;cases hb
        |some b=>rw[Gp ht W',<-ht];rw[ht]at hb|-;exact hb
       |some b=>rw[he]at hb;simp only[G9 Bo he];exact hb
      ·cases hb
    rw[ha x (by simp),ha y (by simp),this]
   ·rename_i hb;obtain⟨hp,rfl⟩:=gQ _ h;refine⟨rfl,λR' W' ha hg=>?_⟩;have nQ:bC (ax R x)=true:=by
     unfold jh at hp;split at hp
     ·rename_i hc;simp only[a8,cw,Array.mem_toList_iff]at hc;exact hc.2 x (by simp[Op.operands])
     ·cases hp
    have:nl P W' op t (ax R x) (ax R y)=none:=by
     rw[<-hb];unfold nl;split
     ·rfl
     ·split
      ·rw[D0 nQ]
      ·rw[D0 nQ]
      ·rfl
    rw[ha x (by simp),ha y (by simp),this,WK R' (λy hy=>ha y hy),hp];rfl
  ·have yv:∀W',nl P W' op t (ax R x) (ax R y)=nl P W op t (ax R x) (ax R y):=by
    intro W';unfold nl;split
    ·rfl
    ·cases op<;>simp at qQ|-
   split at h
   ·rename_i u hb;injection h with h;injection h with h1 h2;subst h1;subst h2;exact⟨rfl,λR' W' ha hg=>by rw[ha x (by simp),ha y (by simp),yv W',hb]⟩
   ·rename_i hb;obtain⟨hp,rfl⟩:=gQ _ h;exact⟨rfl,λR' W' ha hg=>by rw[ha x (by simp),ha y (by simp),yv W',hb,WK R' (λy hy=>ha y hy),hp];rfl⟩
 case call c=>
  obtain⟨callee,args,argTypes⟩:=c;cases callee with
  |value f=>simp only at hk;exfalso;omega
  |invoke r name=>simp only at hk;exfalso;omega
  |builtin b=>
   cases b<;>(try(simp only at hk;exfalso;omega));simp only at h|-;have cq:∀R',(∀y∈(Call.operands {callee:=.builtin .len,args,argTypes}),ax R' y=ax R y)->args.toList.map (ax R')=args.toList.map (ax R):=λR' ha=>List.map_congr_left λy hy=>ha y (by simp only[Call.operands];simpa using hy)
   unfold jd at h;split at h
   ·rename_i n c hl;split at h
    ·rename_i e hu;injection h with h;injection h with h1 h2;subst h1;subst h2;exact⟨rfl,λR' W' ha hg=>by unfold jd;rw[cq R' ha,hl];simp only[hu]⟩
    ·cases h
   ·rename_i hl;split at h
    ·rename_i k e hu;injection h with h;injection h with h1 h2;subst h1;subst h2;exact⟨rfl,λR' W' ha hg=>by unfold jd;rw[cq R' ha,hl];simp only[hu]⟩
    ·cases h
   ·rename_i r hl;split at h
    ·rename_i k e es c hu hr;injection h with h;injection h with h1 h2;subst h1;subst h2;refine⟨rfl,λR' W' ha hg=>?_⟩;have Bo:Grow W W':=hg.resolve_left (by simp[ik]);unfold jd;rw[cq R' ha,hl];simp only[hu,Bo _ _ hr]
    ·cases h
   ·rename_i hb hl;cases hb
   ·rename_i hb hl;cases hb
   ·rename_i hb hl;cases hb
   ·rename_i hb hl;cases hb
   ·rename_i hb hl;cases hb
   ·rename_i hb hl;cases hb
   ·rename_i h1 h2 h3 _ _ _ _ _ _;obtain⟨hp,rfl⟩:=gQ _ h;refine⟨rfl,λR' W' ha hg=>?_⟩;unfold jd;rw[cq R' ha];split
    ·rename_i hl;exact absurd hl (h1 _ _ _ rfl)
    ·rename_i hl;exact absurd hl (h2 rfl)
    ·rename_i hl;exact absurd hl (h3 _ rfl)
    ·rename_i hb hl;cases hb
    ·rename_i hb hl;cases hb
    ·rename_i hb hl;cases hb
    ·rename_i hb hl;cases hb
    ·rename_i hb hl;cases hb
    ·rename_i hb hl;cases hb
    ·rw[WK R' (λy hy=>ha y hy),hp];rfl
end
section
variable [ah]
def sK{P:ag}{σ:cI}{b:Nat}(hb:σ b=none)(w:am)(t:ae){cs ck:List ad}(hc:LR σ cs ck):
 (newRow t ck.toArray).run P w=.ok ⟨w.heap.size,0,none⟩ {w with heap:=w.heap.push (.cells ck.toArray t)}/\
 mf (bP σ b ⟨w.heap.size,0,cs.length⟩) (w.heap.push (.cells ck.toArray t)) ⟨w.heap.size,0,cs.length⟩ (.cells cs):=by
 refine⟨by simp[newRow],⟨ck.toArray,t,(0,0),by simp,λ_=>rfl,by simp,by simp[hc.1],λi v hv=>?_⟩⟩;obtain⟨v',a,b⟩:=hc.get hv;exact⟨v',by simpa using a,b.mono (dd hb)⟩
def Lays(P:ag)(R:ah.Fr)(o:aj)(obj:db)(mk:Nat->ad):Prop:=
 ∀(σ:cI) (ρ:an->ad) (w:am) (b:Nat),(∀x∈o.op.operands,VR σ (ax R x) (ρ x))->σ b=none->
  ∃v' x e,(execOp ρ o).run P w=.ok (.value v') {w with heap:=w.heap.push x}/\VR (bP σ b ⟨w.heap.size,0,e⟩) (mk b) v'/\mf (bP σ b ⟨w.heap.size,0,e⟩) (w.heap.push x) ⟨w.heap.size,0,e⟩ obj
def Lays.agree{P:ag}{R R':ah.Fr}{o:aj}{obj:db}{mk:Nat->ad}(h:Lays P R o obj mk)(ha:Gy o R R'):Lays P R' o obj mk:=
 λσ ρ w b hρ hb=>h σ ρ w b (λx hx=>by rw[<-ha x hx];exact hρ x hx) hb
def Xc{P:ag}{R:ah.Fr}{o:aj}{t:ae}{cs:List ad}(h:∀(σ:cI) (ρ:an->ad) (w:am),(∀x∈o.op.operands,VR σ (ax R x) (ρ x))->
 ∃ck,LR σ cs ck/\(execOp ρ o).run P w=((do pure (.value (.pointer (some (<-newRow t ck.toArray))))):Sem Next).run P w):
 Lays P R o (.cells cs) (λb=>.pointer (some ⟨b,0,none⟩)):=by
 intro σ ρ w b hρ hb;obtain⟨ck,hc,hr⟩:=h σ ρ w hρ;obtain⟨h1,h2⟩:=sK (P:=P) hb w t hc;refine⟨.pointer (some ⟨w.heap.size,0,none⟩),.cells ck.toArray t,cs.length,by rw[hr];simp only[b9,h1,bX,fq],?_,h2⟩;have:=VR.ptr (σ:=bP σ b ⟨w.heap.size,0,cs.length⟩) ⟨b,0,none⟩ _ cZ rfl;simpa using this
def QB{P:ag}{R:ah.Fr}{o:aj}{t:ae}{cs:List ad}(h:∀(σ:cI) (ρ:an->ad) (w:am),(∀x∈o.op.operands,VR σ (ax R x) (ρ x))->
 ∃ck,LR σ cs ck/\(execOp ρ o).run P w=((do pure (.value (.pointer (some (<-newRow t ck.toArray))))):Sem Next).run P w):
 Lays P R o (nC t cs) (λb=>.pointer (some ⟨b,0,none⟩)):=by
 intro σ ρ w b hρ hb;obtain⟨ck,hc,hr⟩:=h σ ρ w hρ;obtain⟨h1,_⟩:=sK (P:=P) hb w t hc;refine⟨.pointer (some ⟨w.heap.size,0,none⟩),.cells ck.toArray t,cs.length,by rw[hr];simp only[b9,h1,bX,fq],?_,EE (hc.mono (dd hb)) (by simp)⟩;have:=VR.ptr (σ:=bP σ b ⟨w.heap.size,0,cs.length⟩) ⟨b,0,none⟩ _ cZ rfl;simpa using this
set_option maxHeartbeats 1000000 in
def Wj{P:ag}{call:Callee}{o:aj}{R:ah.Fr}{W W1:AW}{v:ad}(hk:ik o=2)(h:qF P call o R W=some (v,W1)):
 ∃obj mk,(∀cs,obj≠ .ro cs)/\v=mk W.next/\W1=W.add obj/\Lays P R o obj mk:=by
 obtain⟨dst,op,type,pos,after,guard⟩:=o;cases op<;>simp only[ik]at hk<;>(try(exfalso;omega))<;>simp only[vX,gw,FV]at h;case alloc t=>
  split at h
  ·rename_i z hz;injection h with h;rw[AW.dm]at h;injection h with h1 h2;refine⟨nC t z.cells.toList,λb=>.pointer (some ⟨b,0,none⟩),G8 t _,h1.symm,h2.symm,QB (t:=t) λσ ρ w hρ=>?_⟩;obtain⟨yk,An⟩:=gf hz w;refine⟨z.cells.toList,C5 An,?_⟩;simp[execOp,Instr.alloc,yk,newVar]
  ·cases h
 case box t x=>injection h with h;rw[AW.dm]at h;injection h with h1 h2;refine⟨.cells (ax R x).cells.toList,λb=>.pointer (some ⟨b,0,none⟩),λ_=>by simp,h1.symm,h2.symm,Xc (t:=t) λσ ρ w hρ=>?_⟩;refine⟨(ρ x).cells.toList,(hρ x (by simp[Op.operands])).cells,?_⟩;simp[execOp,Instr.box,newVar]
 case buildSlice t len ps=>
  replace h:=tR h;unfold nX at h;split at h
  ·rename_i e hu;split at h
   ·rename_i n z hn hz;split at h
    ·rename_i hc;obtain⟨hc1,SR,Tz⟩:=hc;split at h
     ·rename_i c hf;injection h with h;rw[AW.dm]at h;injection h with h1 h2;refine⟨.cells c.toList,λb=>.slice (some ⟨b,0,none⟩) len len,λ_=>by simp,h1.symm,h2.symm,?_⟩;intro σ ρ w b hρ hb;have hp:=At (σ:=σ) (R:=R) (ρ:=ρ) ps (λp hp=>hρ p.2 (by simp[Op.operands];exact⟨p.1,by simpa using hp⟩));obtain⟨yk,An⟩:=gf hz w;obtain⟨qZ,h1,h2⟩:=yn _ _ _ _ _ _ hp (LR.mM (σ:=σ) (λ_=>eu) Tz) hf;obtain⟨k1,k2⟩:=sK (P:=P) hb w e (cs:=c.toList) (ck:=qZ.toList) h2;refine⟨.slice (some ⟨w.heap.size,0,none⟩) len len,.cells qZ.toList.toArray e,c.toList.length,?_,?_,k2⟩
      ·have T4:¬len*n>2^ 24:=by omega
       simp only[ie]at k1;have:(Instr.buildSlice t len (ps.map λ(i,x)=>(i,ρ x))).run P w=.ok (.slice (some ⟨w.heap.size,0,none⟩) len len) {w with heap:=w.heap.push (.cells qZ e)}:=by
        by_cases h0:len*n=0
        ·rw[sC h0]at h1;simp only[Instr.buildSlice,b9,bH hu,bX,bD hn,ap T4,fq,aq h0];rw[show(Array.map (λx=>(#[]:Array ad)[x % (#[]:Array ad).size]!) (Array.range (len*n)))=#[]by rw[h0];simp,h1];simp[k1]
        ·rw[vY h0]at h1;simp only[Instr.buildSlice,b9,bH hu,bX,bD hn,ap T4,fq,ap h0,yk];rw[show(Array.map (λx=>z.cells[x % z.cells.size]!) (Array.range (len*n)))=Jb z (len*n)from rfl,h1];simp[k1]
       simp only[execOp,b9,this,bX,fq,ie]
      ·have:=VR.slice (σ:=bP σ b ⟨w.heap.size,0,c.toList.length⟩) ⟨b,0,none⟩ len len len _ cZ rfl (.known len SR);simpa using this
     ·cases h
    ·cases h
   ·cases h
  ·cases h
 case makeSlice t l c=>
  unfold mw at h;split at h
  ·rename_i e hu;split at h
   ·rename_i n z bytes kl l0 kc c0 hn hz hbt hel hec;split at h
    ·rename_i qS;obtain⟨c1,c2,c3,c4⟩:=qS;injection h with h;rw[AW.dm]at h;injection h with h1 h2;refine⟨.cells (iP z (c0*n)).toList,λb=>.slice (some ⟨b,0,none⟩) l0 c0,λ_=>by simp,h1.symm,h2.symm,?_⟩;intro σ ρ w b hρ hb;have hl:=hρ l (by simp[Op.operands]);have hc:=hρ c (by simp[Op.operands]);rw[hel]at hl;rw[hec]at hc;have B6:=hl.p9;have xC:=hc.p9;obtain⟨yk,An⟩:=gf hz w;have hi:∃i,P.info? e=some i/\i.bytes=bytes:=by
      cases hi:P.info? e with
      |none=>rw[hi]at hbt;cases hbt
      |some i=>rw[hi]at hbt;simp at hbt;exact⟨i,rfl,hbt⟩
     obtain⟨i,hi,Xj⟩:=hi;have SJ:LR σ (iP z (c0*n)).toList (iP z (c0*n)).toList:=LR.mM (λ_=>eu) c4;obtain⟨k1,k2⟩:=sK (P:=P) hb w e SJ;refine⟨.slice (some ⟨w.heap.size,0,none⟩) l0 c0,.cells (iP z (c0*n)).toList.toArray e,_,?_,?_,k2⟩
     ·have:(Instr.makeSlice t (ρ l) (ρ c)).run P w=.ok (.slice (some ⟨w.heap.size,0,none⟩) l0 c0) {w with heap:=w.heap.push (.cells (iP z (c0*n)).toList.toArray e)}:=by
       rw[B6,xC];have hwl:IntKind.i64.wrap (Int.ofNat l0)=(l0:Int):=y5 (by omega);have hwc:IntKind.i64.wrap (Int.ofNat c0)=(c0:Int):=y5 c2;have EV:(typeInfo e).run P w=.ok i w:=by simp[typeInfo,hi]
       have ahr:(bytes:Int)*(c0:Int)<=281474976710656:=by
        have:((c0*bytes:Nat):Int)<=281474976710656:=by omega
        rw[Int.natCast_mul,Int.mul_comm]at this;exact this
       simp only[ie]at k1;have Ol:¬(((decide ((c0:Int)<0)||decide ((i.bytes:Int)*(c0:Int)>2^ 48))||decide ((l0:Int)<0)||decide ((l0:Int)>(c0:Int)))=true):=by rw[Xj];simp;omega
       simp only[Instr.makeSlice,b9,bH hu,bX,asInt,asIntOf,fq,EV,hwl,hwc];rw[ap (by simpa using Ol)];by_cases h0:c0*n=0
       ·rw[sC h0]at k1|-;simp only[b9,run_askRoom,bX,sL,bD hn,aq h0,fq];rw[show(Array.map (λx=>(#[]:Array ad)[x % (#[]:Array ad).size]!) (Array.range (c0*n)))=#[]by rw[h0];simp,k1];simp
       ·rw[vY h0]at k1|-;simp only[b9,run_askRoom,bX,sL,bD hn,ap h0,yk,fq];rw[show(Array.map (λx=>z.cells[x % z.cells.size]!) (Array.range (c0*n)))=Jb z (c0*n)from rfl,k1];simp
      simp only[execOp,b9,this,bX,fq]
     ·have:=VR.slice (σ:=bP σ b ⟨w.heap.size,0,(iP z (c0*n)).toList.length⟩) ⟨b,0,none⟩ l0 c0 c0 _ cZ rfl (.known c0 (by unfold dY;omega));simpa using this
    ·cases h
   ·cases h
  ·cases h
 case binOp op t x y yt=>split at hk<;>omega
 case makeFunc fn a b=>cases fn<;>simp only[]at hk<;>omega
 case call c=>obtain⟨callee,args,argTypes⟩:=c;cases callee<;>simp only at hk<;>(try omega);rename_i b;cases b<;>simp only at hk<;>omega
section
variable {σ:cI} {W:AW} {w:am}
def bg.ghost(h:bg σ W w.heap)(o:db):bg σ (W.add o) w.heap:=by
 have ee:∀{c:Nat} {g:vC},σ c=some g->c≠W.next:=λhc e=>by have:=(h.m8 _ _ hc).1;omega
 refine⟨?_,?_,?_,?_⟩
 ·intro c hc;have xC:W.next+1<=c:=hc;rw[AW.aD _ _ (by omega)];exact h.free c (by omega)
 ·intro c g hc;have:=h.m8 c g hc;simp only[AW.ar];omega
 ·intro c o2 g hc hg;rw[AW.aD _ _ (aV (ee hg))]at hc;exact h.obj c o2 g hc hg
 ·intro b1 b2 o1 o2 g1 g2 Mk h1 h2 k1 k2 hr;rw[AW.aD _ _ (aV (ee k1))]at h1;rw[AW.aD _ _ (aV (ee k2))]at h2;exact h.qK _ _ _ _ _ _ Mk h1 h2 k1 k2 hr
def bg.bind(h:bg σ W w.heap){b e:Nat}{o:db}{x:oz}(hb:W.get b=some o)(Ap:σ b=none)
 (xd:mf (bP σ b ⟨w.heap.size,0,e⟩) (w.heap.push x) ⟨w.heap.size,0,e⟩ o):
 bg (bP σ b ⟨w.heap.size,0,e⟩) W (w.heap.push x):=by
 have hs:Sub σ (bP σ b ⟨w.heap.size,0,e⟩):=dd Ap;have fb:∀B,B<w.heap.size->(w.heap.push x)[B]? =w.heap[B]? :=λB hB=>by rw[sN];rw[bK]
 have pk:∀c g,bP σ b ⟨w.heap.size,0,e⟩ c=some g->(c=b/\g=⟨w.heap.size,0,e⟩)\/(c≠b/\σ c=some g):=λc g hc=>by
  unfold bP at hc;split at hc
  ·rename_i hx;injection hc with hc;exact .inl ⟨hx,hc.symm⟩
  ·rename_i hx;exact .inr ⟨hx,hc⟩
 have YY:b<W.next:=by
  rcases zE b W.next with h1|h1
  ·exact h1
  ·rw[h.free b h1]at hb;cases hb
 refine⟨h.free,?_,?_,?_⟩
 ·intro c g hc;rcases pk c g hc with⟨rfl,rfl⟩|⟨_,h2⟩
  ·exact⟨YY,by simp⟩
  ·have:=h.m8 c g h2;simp;omega
 ·intro c o2 g hc hk;rcases pk c g hk with⟨rfl,rfl⟩|⟨h1,h2⟩
  ·rw[hb]at hc;injection hc with hc;subst hc;exact xd
  ·exact((h.obj c o2 g hc h2).mono hs).same (fb _ (h.m8 c g h2).2)
 ·intro b1 b2 o1 o2 g1 g2 Mk h1 h2 k1 k2 hr;rcases pk b1 g1 k1 with⟨rfl,rfl⟩|⟨x1,y1⟩
  ·rcases pk b2 g2 k2 with⟨rfl,rfl⟩|⟨x2,y2⟩
   ·exact absurd rfl Mk
   ·have:=(h.m8 _ _ y2).2;exact .inl (by simp only[ne_eq];omega)
  ·rcases pk b2 g2 k2 with⟨rfl,rfl⟩|⟨x2,y2⟩
   ·have:=(h.m8 _ _ y1).2;exact .inl (by simp only[ne_eq];omega)
   ·exact h.qK _ _ _ _ _ _ Mk h1 h2 y1 y2 hr
def eF.RL{σ0:cI}{W0:AW}{w0:am}(h:eF σ0 W0 w0 σ W w)(hw:W.get W.next=none)(o:db):eF σ0 W0 w0 σ (W.add o) w:=
 ⟨h.sub,λb cs x=>by
   have h1:=h.ro b cs x;have:W.next≠b:=λe=>by subst e;rw[hw]at h1;cases h1
   rw[AW.aD _ _ this];exact h1,
   h.size,h.os,h.tape,h.output,h.keep,λb o2 h1 h2=>by
    obtain⟨a1,a2⟩:=h.ghost b o2 h1 h2;have:W.next≠b:=λe=>by subst e;rw[hw]at a1;cases a1
    exact⟨by rw[AW.aD _ _ this];exact a1,a2⟩,h.grow⟩
def eF.bind{σ0:cI}{W0:AW}{w0:am}(h:eF σ0 W0 w0 σ W w){b e:Nat}(Ap:σ b=none)(h0:W0.get b=none){x:oz}{o:db}(xd:mf (bP σ b ⟨w.heap.size,0,e⟩) (w.heap.push x) ⟨w.heap.size,0,e⟩ o)(qg:∀cs,o≠ .ro cs):
 eF σ0 W0 w0 (bP σ b ⟨w.heap.size,0,e⟩) W {w with heap:=w.heap.push x}:=by
 have hs:Sub σ (bP σ b ⟨w.heap.size,0,e⟩):=dd Ap;refine⟨h.sub.trans hs,h.ro,by have:=h.size;simp;omega,h.os,h.tape,h.output,?_,?_,?_⟩
 ·intro B hB hm;rw[<-h.keep B hB hm];have:=h.size;show(w.heap.push x)[B]? =_;rw[sN,bK]
 ·intro c o2 h1 h2;obtain⟨a1,a2⟩:=h.ghost c o2 h1 h2;have:c≠b:=λe=>by subst e;rw[h0]at h1;cases h1
  exact⟨a1,by unfold bP;rw[ap this];exact a2⟩
 ·intro c g hk hB;unfold bP at hk;split at hk
  ·injection hk with hk;subst hk;have:=h.size;simp at hB;omega
  ·exact h.grow c g hk hB
end
end
section
variable [ah]
def O5{d:Option Tmp}{l:List Tmp}:L2 d l=true<->∃t,d=some t/\t∈l:=by
 cases d with
 |none=>simp[L2]
 |some d=>simp[L2,sE]
def rz{d:Option Tmp}{l:List Tmp}(h:L2 d l=false){t:Tmp}(ht:d=some t):t∉l:=λhm=>by have:=O5.2 ⟨t,ht,hm⟩;rw[h]at this;cases this
def gS(ops:Array aj)(R:ah.Fr)(o:aj):Bool:=
 match o.guard with
 |none=>true
 |some (j,w)=>match(ops[j]?).bind (·.dst)with
  |some t=>(match cL R t with|.bool b=>b==w|_=>false)
  |none=>false
def KA{ops:Array aj}{o:aj}{t:Tmp}(h:Operand.tmp t∈o.op.operands):t∈o.looksAt ops:=by unfold Oper.looksAt;refine py.2 (.inl (List.mem_filterMap.2 ⟨.tmp t,by simpa using h,rfl⟩))
def BK{ops:Array aj}{o:aj}{j:Nat}{w:Bool}{t:Tmp}(h:o.guard=some (j,w))(ht:(ops[j]?).bind (·.dst)=some t):t∈o.looksAt ops:=by unfold Oper.looksAt;refine py.2 (.inr ?_);rw[h];simp only;rw[ht];simp
def LP{R R':ah.Fr}{x:an}(h:∀t,x=.tmp t->cL R' t=cL R t):ax R' x=ax R x:=by
 cases x with
 |tmp t=>exact h t rfl
 |_=>rfl
def yM{ops:Array aj}{o:aj}{R R':ah.Fr}(h:∀t∈o.looksAt ops,cL R' t=cL R t):Gy o R R'/\gS ops R' o=gS ops R o:=by
 refine⟨λx hx=>LP λt ht=>h t (KA (by rw[<-ht];exact hx)),?_⟩;unfold gS;split
 ·rfl
 ·rename_i j w hg;split
  ·rename_i t ht;rw[h t (BK hg ht)]
  ·rfl
def VR.Qy{σ:cI}{v:ad}{b:Bool}(h:VR σ v (.bool b)):v=.bool b:=by cases h;rfl
def AB{ops:Array aj}{o:aj}{σ:cI}{R:ah.Fr}{a:aU}(h:∀t∈o.looksAt ops,VR σ (cL R t) (a.tmps.getD t ak)):
 Region.wanted o (yielded ops a.tmps)=gS ops R o:=by
 unfold Region.wanted gS;cases hg:o.guard with
 |none=>rfl
 |some jw=>
  obtain⟨j,w⟩:=jw;simp only;unfold yielded;cases ht:(ops[j]?).bind (·.dst)with
  |none=>rfl
  |some t=>
   have hv:=h t (BK hg ht);simp only[bL];cases hq:a.tmps[t]? with
   |none=>
    have he:a.tmps.getD t ak=ak:=by simp[hq]
    rw[he]at hv;have:∀b,cL R t≠ .bool b:=λb hb=>by rw[hb]at hv;have:=hv.io;simp[ak]at this
    simp only;first
     |rfl
     |(split
       ·rename_i b hb;exact absurd hb (this b)
       ·rfl)
   |some u=>
    have he:a.tmps.getD t ak=u:=by simp[hq]
    rw[he]at hv;cases hr:cL R t with
    |bool b=>rw[hr]at hv;have:=hv.io;subst this;simp
    |_=>
     simp only;split
     ·rename_i b hb;injection hb with hb;subst hb;have:=hv.Qy;rw[hr]at this;cases this
     ·rfl
def kw(P:ag)(call:Callee)(ops:Array aj)(o:aj)(R:ah.Fr)(W:AW):Option (ah.Fr×AW):=
 if gS ops R o then
  match qF P call o R W with
  |some (v,W')=>some (fM R o.dst v,W')
  |none=>none
 else some (fM R o.dst ak,W)
def oW(P:ag)(call:Callee)(ops:Array aj):List aj->ah.Fr->AW->Option (ah.Fr×AW)
 |[],R,W=>some (R,W)
 |o::l,R,W=>match kw P call ops o R W with
  |some (R',W')=>oW P call ops l R' W'
  |none=>none
def zZ(a b:ByteArray):Bool:=decide (a.data.toList=b.data.toList)
def Be(a b:aP):Bool:=Nat.beq a.block b.block&&Nat.beq a.off b.off&&a.spot.isNone&&b.spot.isNone
def tT:ad->ad->Bool
 |.bool a,.bool b=>a==b
 |.int k a,.int j b=>decide (k=j)&&decide (a=b)
 |.string a,.string b=>zZ a b
 |.pointer none,.pointer none=>true
 |.pointer (some a),.pointer (some b)=>Be a b
 |.slice none l c,.slice none l' c'=>Nat.beq l l'&&Nat.beq c c'
 |.slice (some a) l c,.slice (some b) l' c'=>Be a b&&Nat.beq l l'&&Nat.beq c c'
 |.map none,.map none=>true
 |.map (some a),.map (some b)=>Nat.beq a b
 |.nilFunc,.nilFunc=>true
 |.nilIface,.nilIface=>true
 |.func (.func f) a b,.func (.func g) c d=>Nat.beq f g&&a.isEmpty&&b.isEmpty&&c.isEmpty&&d.isEmpty
 |_,_=>false
def OV:List ad->List ad->Bool
 |[],[]=>true
 |a::l,b::m=>tT a b&&OV l m
 |_,_=>false
def ff:ad->ad->Bool
 |.agg a,.agg b=>OV a.toList b.toList
 |.tuple a,.tuple b=>OV a.toList b.toList
 |.iface t a,.iface u b=>Nat.beq t u&&tT a b
 |a,b=>tT a b
def EH{a b:ByteArray}(h:zZ a b=true):a=b:=by have:=C8 h;cases a;cases b;simp only[ByteArray.mk.injEq];exact mN.1 this
def Gk{a b:aP}(h:Be a b=true):a=b:=by simp only[Be,a8,dM]at h;obtain⟨⟨⟨h1,h2⟩,h3⟩,h4⟩:=h;obtain⟨b1,o1,s1⟩:=a;obtain⟨b2,o2,s2⟩:=b;cases s1<;>cases s2<;>simp_all
def M4{a b:ad}(h:tT a b=true):a=b:=by
 unfold tT at h;split at h<;>first
  |rfl
  |(simp at h;done)
  |(simp only[a8,dM,wq,gG]at h;simp[h];done)
  |(rw[EH h];done)
  |(rw[Gk h];done)
  |(simp only[a8,dM]at h;obtain⟨⟨h1,h2⟩,h3⟩:=h;rw[Gk h1,h2,h3];done)
  |(simp only[a8,dM,wE]at h;obtain⟨⟨⟨⟨h1,h2⟩,h3⟩,h4⟩,h5⟩:=h;subst h1 h2 h3 h4 h5;rfl)
def Ts{a b:List ad}(h:OV a b=true):a=b:=by
 induction a generalizing b with
 |nil=>cases b with|nil=>rfl|cons x l=>cases h
 |cons x l ih=>
  cases b with
  |nil=>cases h
  |cons y m=>simp only[OV,a8]at h;rw[M4 h.1,ih h.2]
def VA{a b:ad}(h:ff a b=true):a=b:=by
 unfold ff at h;split at h
 ·rw[mN.1 (Ts h)]
 ·rw[mN.1 (Ts h)]
 ·simp only[a8,dM]at h;rw[h.1,M4 h.2]
 ·exact M4 h
def pV(P:ag)(call:Callee)(ops:Array aj)(R:ah.Fr)(W:AW)(j:Nat):Bool:=
 match ops[j]? with
 |none=>false
 |some o=>if gS ops R o then
  match qF P call o R W with
  |some (v,_)=>(match o.dst with|some t=>ff v (cL R t)|none=>true)
  |none=>false
  else true
def jU(P:ag)(call:Callee)(ops:Array aj):List (Nat×List Nat)->ah.Fr->AW->Option (ah.Fr×AW)
 |[],R,W=>some (R,W)
 |(i,re)::l,R,W=>match ops[i]? with
  |none=>none
  |some o=>match kw P call ops o R W with
   |some (R',W')=>if re.all (pV P call ops R' W')then jU P call ops l R' W' else none
   |none=>none
def Mz{P:ag}{call:Callee}{ops:Array aj}:∀(l:List Nat) (R:ah.Fr) (W:AW),(∀i∈l,i<ops.size)->
 jU P call ops (l.map λi=>(i,[])) R W=oW P call ops (l.filterMap λi=>ops[i]?) R W:=by
 intro l;induction l with
 |nil=>intro R W _;rfl
 |cons i l ih=>
  intro R W h;have hi:i<ops.size:=h i (by simp);have hg:ops[i]? =some ops[i]:=hZ hi;simp only[kg,jU,hg,List.filterMap_cons,oW];split
  ·rename_i R' W' hs;simp only[wB,ba];exact ih R' W' λj hj=>h j (by simp[hj])
  ·rfl
def lH{R:ah.Fr}{d:Option Tmp}{v:ad}{t:Tmp}(h:d≠some t):cL (fM R d v) t=cL R t:=by
 cases d with
 |none=>rfl
 |some d=>exact sT R v (λe=>h (by rw[e]))
def wG{R:ah.Fr}{d:Option Tmp}{v:ad}{t:Tmp}(h:d=some t):cL (fM R d v) t=v:=by subst h;exact wx R t v
def gD{a:aU}{d:Option Tmp}{v:ad}{t:Tmp}(h:d≠some t):(a.put d v).tmps.getD t ak=a.tmps.getD t ak:=by
 cases d with
 |none=>rfl
 |some d=>
  have:d≠t:=λe=>h (by rw[e])
  simp[Act.put,A8 this]
def pd{a:aU}{d:Option Tmp}{v:ad}{t:Tmp}(h:d=some t)(ht:t<a.tmps.size):(a.put d v).tmps.getD t ak=v:=by subst h;simp[Act.put,ht]
def EB{a:aU}{d:Option Tmp}{v:ad}:(a.put d v).tmps.size=a.tmps.size:=by cases d<;>simp[Act.put]
end
section
variable [ah]
def Pz{a b:Nat}(h:Nat.beq a b=false):a≠b:=λe=>by rw[e,qi]at h;cases h
def WS{A:List Nat}{o:aj}{j:Nat}(h:Nat.testBit (uS A o) j=true):
 ∃e∈o.after,Region.binds .any e=true/\(j=e.on\/Nat.testBit (A.getD e.on 0) j=true):=by
 have key:∀l:List Edge,Nat.testBit (l.foldr (λe m=>if Region.binds .any e then Nat.lor (Nat.lor (2^ e.on) (A.getD e.on 0)) m else m) 0) j=true->
  ∃e∈l,Region.binds .any e=true/\(j=e.on\/Nat.testBit (A.getD e.on 0) j=true):=by
  intro l;induction l with
  |nil=>intro h;simp at h
  |cons e l ih=>
   intro h;simp only[List.foldr_cons]at h;split at h
   ·rename_i hb;have h':Nat.testBit ((2^ e.on|||A.getD e.on 0)|||(l.foldr (λe m=>if Region.binds .any e then Nat.lor (Nat.lor (2^ e.on) (A.getD e.on 0)) m else m) 0)) j=true:=h;rw[Nat.testBit_or,Nat.testBit_or,mJ,mJ]at h';rcases h' with(h1|h1)|h1
    ·rw[Nat.testBit_two_pow]at h1;exact⟨e,by simp,hb,.inl (C8 h1).symm⟩
    ·exact⟨e,by simp,hb,.inr h1⟩
    ·obtain⟨e',a,b⟩:=ih h1;exact⟨e',by simp[a],b⟩
   ·obtain⟨e',a,b⟩:=ih h;exact⟨e',by simp[a],b⟩
 obtain⟨e,a,b⟩:=key o.after.toList h;exact⟨e,by simpa using a,b⟩
structure abW (ops:Array aj) (A:List Nat) (pre:List Ff) (i:Nat) (re:List Nat) (iB:List (Nat×List Nat)) (o:aj) (e:Bool):Prop where
 op:ops[i]? =some o
 early:e=true->ik o<3/\L2 o.dst (o.looksAt ops)=false/\∀d∈pre,L2 o.dst (jZ ops d.o)=false
 new:∀d∈pre,d.i≠i
 top:∀ed∈o.after,Region.binds .any ed=true->∃d∈pre,d.i=ed.on
 held:∀d∈pre,d.early=true->Nat.testBit (A.getD i 0) d.i=true\/(L2 d.o.dst (o.looksAt ops)=false/\(e=true\/(L2 o.dst (jZ ops d.o)=false/\(ik d.o=0\/ik d.o=2\/d.i∈re))))
 last:e=true\/∀k∈iB,∃ok,ops[k.1]? =some ok/\∃ed∈ok.after,Region.binds .any ed=true/\∀d∈pre,d.i≠ed.on
 go:A6 ops A (⟨i,o,e⟩::pre) iB=true
def B0{ops:Array aj}{A:List Nat}{pre:List Ff}{i:Nat}{re:List Nat}{iB:List (Nat×List Nat)}(h:A6 ops A pre ((i,re)::iB)=true):
 ∃o e,abW ops A pre i re iB o e:=by
 unfold A6 at h;split at h
 ·cases h
 ·rename_i o ho;simp only[a8]at h;obtain⟨⟨⟨⟨h1,h2⟩,h3⟩,h4⟩,h5⟩:=h;refine⟨o,_,⟨ho,?_,?_,?_,?_,?_,h5⟩⟩
  ·intro he;simp only[a8,cw,sG]at he;obtain⟨⟨a,b⟩,c⟩:=he;exact⟨by simpa[ic]using a,b,c⟩
  ·intro d hd;rw[cw]at h1;have:=h1 d hd;exact Pz (by simpa only[sG]using this)
  ·intro ed XS hb;rw[cw]at h2;have:=h2 ed (by simpa using XS);rw[hb]at this;simpa using this
  ·intro d hd hde;rw[cw]at h3;have:=h3 d hd;rw[hde]at this;simp only[Bool.not_true,Bool.false_or,mJ,a8,sG,dM,sE,or_assoc]at this;simpa only[a8,sG,or_assoc]using this
  ·rw[mJ]at h4;refine h4.imp id λh4=>?_
   intro k hk;rw[cw]at h4;have:=h4 k hk;split at this
   ·rename_i ok jR;rw[vW]at this;obtain⟨ed,XS,hq⟩:=this;simp only[a8,cw,sG]at hq;refine⟨ok,jR,ed,by simpa using XS,hq.1,λd hd=>?_⟩;have:=hq.2 d hd;exact Pz this
   ·cases this
section
variable {P:ag} {call:Callee} {ops:Array aj} {A:List Nat} {nt:Nat} {ng:List Nat} {σ0:cI} {W0:AW} {w0:am} {ds:List dv}
def RD(P:ag)(call:Callee)(ops:Array aj)(W0:AW)(bd:Nat->Option Nat)(σ:cI)(R:ah.Fr)(W:AW)(d:Ff):Prop:=
 (gS ops R d.o=false/\bd d.i=none/\∀t,d.o.dst=some t->cL R t=ak)\/
 (gS ops R d.o=true/\bd d.i=none/\ik d.o<=1/\∃v,qF P call d.o R W=some (v,W)/\∀t,d.o.dst=some t->cL R t=v)\/
 (gS ops R d.o=true/\∃obj mk x,Lays P R d.o obj mk/\(∀t,d.o.dst=some t->cL R t=mk x)/\W.get x=some obj/\W0.get x=none/\σ x=none/\bd d.i=some x/\∀cs,obj≠ .ro cs)
def vq{o:aj}{t:Tmp}(h:t∈o.looksAt ops):t∈jZ ops o:=by unfold jZ;simp[h]
def oI{o:aj}{t:Tmp}(h:o.dst=some t):t∈jZ ops o:=by unfold jZ;simp[h]
def RD.mono{bd QZ:Nat->Option Nat}{σ σ':cI}{R R':ah.Fr}{W W':AW}{d:Ff}(h:RD P call ops W0 bd σ R W d)
 (hb:QZ d.i=bd d.i)(hR:∀t∈jZ ops d.o,cL R' t=cL R t)(hg:Grow W W')(hσ:∀x o,W.get x=some o->σ x=none->σ' x=none):
 RD P call ops W0 QZ σ' R' W' d:=by
 obtain⟨ha,hw⟩:=yM (ops:=ops) (o:=d.o) λt ht=>hR t (vq ht)
 rcases h with⟨h1,h2,h3⟩|⟨h1,h2,h3,v,h4,h5⟩|⟨h1,obj,mk,x,h2,h3,h4,h5,h6,h7⟩
 ·exact .inl ⟨by rw[hw];exact h1,by rw[hb];exact h2,λt ht=>by rw[hR t (oI ht)];exact h3 t ht⟩
 ·exact .inr (.inl ⟨by rw[hw];exact h1,by rw[hb];exact h2,h3,v,(wa h3 h4).2 R' W' ha (.inr hg),λt ht=>by rw[hR t (oI ht)];exact h5 t ht⟩)
 ·exact .inr (.inr ⟨by rw[hw];exact h1,obj,mk,x,h2.agree ha,λt ht=>by rw[hR t (oI ht)];exact h3 t ht,hg _ _ h4,h5,hσ _ _ h4 h6,by rw[hb];exact h7⟩)
structure J (P:ag) (call:Callee) (ops:Array aj) (A:List Nat) (nt:Nat) (ng:List Nat) (σ0:cI) (W0:AW) (w0:am) (ds:List dv)
 (pre:List Ff) (listed:Array Bool) (bd:Nat->Option Nat) (σ:cI) (R:ah.Fr) (W:AW) (a:aU) (w:am):Prop where
 Bt:bg σ W w.heap
 N9:wV σ ng
 ext:eF σ0 W0 w0 σ W w
 Mf:a.tmps.size=nt
 Xk:a.defers=ds
 xp:listed.size=ops.size
 RC:∀t,t<nt->(∀d∈pre,listed.getD d.i true=false->d.o.dst≠some t)->VR σ (cL R t) (a.tmps.getD t ak)
 sub:∀i,i<ops.size->listed.getD i true=true->∃d∈pre,d.i=i
 op:∀d∈pre,ops[d.i]? =some d.o
 early:∀d∈pre,d.early=false->listed.getD d.i true=true
 kind:∀d∈pre,d.early=true->ik d.o<3
 down:∀i j,i<ops.size->listed.getD i true=true->Nat.testBit (A.getD i 0) j=true->listed.getD j true=true
 OL:∀d∈pre,∀d'∈pre,d'.early=true->L2 d'.o.dst (d.o.looksAt ops)=true->Nat.testBit (A.getD d.i 0) d'.i=true/\d.i≠d'.i
 mZ:∀d∈pre,listed.getD d.i true=false->RD P call ops W0 bd σ R W d
 inj:∀d∈pre,∀d'∈pre,listed.getD d.i true=false->listed.getD d'.i true=false->∀x,bd d.i=some x->bd d'.i=some x->d.i=d'.i
def J.advance{pre:List Ff}{listed:Array Bool}{bd:Nat->Option Nat}{σ:cI}{R R':ah.Fr}{W W':AW}{a:aU}{w:am}{i:Nat}{re:List Nat}{iB:List (Nat×List Nat)}{o:aj}
 (hJ:J P call ops A nt ng σ0 W0 w0 ds pre listed bd σ R W a w)(hh:abW ops A pre i re iB o true)(hs:kw P call ops o R W=some (R',W')):
 ∃QZ,J P call ops A nt ng σ0 W0 w0 ds (⟨i,o,true⟩::pre) listed QZ σ R' W' a w:=by
 obtain⟨hk3,aad,I4⟩:=hh.early rfl;have hi:i<ops.size:=(dC.1 hh.op).1;have Oj:listed.getD i true=false:=by
  cases hq:listed.getD i true with
  |false=>rfl
  |true=>obtain⟨d,hd,e⟩:=hJ.sub i hi hq;exact absurd e (hh.new d hd)
 have Lt:W.get W.next=none:=hJ.Bt.free _ (aM _);have build:∀(QZ:Nat->Option Nat) (u:ad),R'=fM R o.dst u->bg σ W' w.heap->eF σ0 W0 w0 σ W' w->Grow W W'->(∀k,k≠i->QZ k=bd k)->
  RD P call ops W0 QZ σ R' W' ⟨i,o,true⟩->(∀x,QZ i=some x->W.get x=none)->J P call ops A nt ng σ0 W0 w0 ds (⟨i,o,true⟩::pre) listed QZ σ R' W' a w:=by
  intro QZ u hR' hwr KU hg hbd PN hbx;have AU:∀d∈pre,∀t∈jZ ops d.o,cL R' t=cL R t:=λd hd t ht=>by rw[hR'];exact lH λe=>rz (I4 d hd) e ht
  have fb:∀d∈pre,listed.getD d.i true=false->RD P call ops W0 QZ σ R' W' d:=λd hd hl=>(hJ.mZ d hd hl).mono (hbd _ (hh.new d hd)) (AU d hd) hg (λ_ _ _ h=>h)
  have hpx:∀d∈pre,listed.getD d.i true=false->∀x,bd d.i=some x->∃ob,W.get x=some ob:=by
   intro d hd hl x hx;rcases hJ.mZ d hd hl with⟨_,h2,_⟩|⟨_,h2,_⟩|⟨_,obj,mk,y,_,_,h4,_,_,h7⟩
   ·rw[h2]at hx;cases hx
   ·rw[h2]at hx;cases hx
   ·rw[h7.1]at hx;injection hx with hx;subst hx;exact⟨obj,h4⟩
  refine⟨hwr,hJ.N9,KU,hJ.Mf,hJ.Xk,hJ.xp,?_,?_,?_,?_,?_,hJ.down,?_,?_,?_⟩
  ·intro t ht yi;have h1:o.dst≠some t:=yi ⟨i,o,true⟩ (by simp) Oj;rw[hR',lH h1];exact hJ.RC t ht λd hd=>yi d (by simp[hd])
  ·intro k hk hl;obtain⟨d,hd,e⟩:=hJ.sub k hk hl;exact⟨d,by simp[hd],e⟩
  ·intro d hd;rcases dD.1 hd with rfl|hd
   ·exact hh.op
   ·exact hJ.op d hd
  ·intro d hd he;rcases dD.1 hd with rfl|hd
   ·cases he
   ·exact hJ.early d hd he
  ·intro d hd he;rcases dD.1 hd with rfl|hd
   ·exact hk3
   ·exact hJ.kind d hd he
  ·intro d hd d' iA he nM;rcases dD.1 hd with rfl|hd
   ·rcases dD.1 iA with rfl|iA
    ·simp only at nM;rw[aad]at nM;cases nM
    ·rcases hh.held d' iA he with h1|⟨h1,_⟩
     ·exact⟨h1,λe=>hh.new d' iA e.symm⟩
     ·simp only at nM;rw[h1]at nM;cases nM
   ·rcases dD.1 iA with rfl|iA
    ·exfalso;have h1:=I4 d hd;obtain⟨t,ht,hm⟩:=O5.1 nM;exact rz h1 ht (vq hm)
    ·exact hJ.OL d hd d' iA he nM
  ·intro d hd hl;rcases dD.1 hd with rfl|hd
   ·exact PN
   ·exact fb d hd hl
  ·intro d hd d' iA hl B6 x hx XB;rcases dD.1 hd with rfl|hd
   ·rcases dD.1 iA with rfl|iA
    ·rfl
    ·rw[hbd _ (hh.new d' iA)]at XB;obtain⟨ob,h1⟩:=hpx d' iA B6 x XB;rw[hbx x hx]at h1;cases h1
   ·rcases dD.1 iA with rfl|iA
    ·rw[hbd _ (hh.new d hd)]at hx;obtain⟨ob,h1⟩:=hpx d hd hl x hx;rw[hbx x XB]at h1;cases h1
    ·rw[hbd _ (hh.new d hd)]at hx;rw[hbd _ (hh.new d' iA)]at XB;exact hJ.inj d hd d' iA hl B6 x hx XB
 have St:∀u,(∀t∈o.looksAt ops,cL (fM R o.dst u) t=cL R t):=λu t ht=>lH λe=>rz aad e ht
 unfold kw at hs;split at hs
 ·rename_i hw;split at hs
  ·rename_i v W1 qQ;injection hs with hs;injection hs with HM zA;subst HM;subst zA;obtain⟨ha,hwa⟩:=yM (St v);by_cases Xs:ik o<=1
   ·obtain⟨hW1,hk⟩:=wa Xs qQ;subst hW1;refine⟨λk=>if k=i then none else bd k,build _ v rfl hJ.Bt hJ.ext (.refl _) (λk hk=>by simp[hk]) (.inr (.inl ⟨by rw[hwa];exact hw,by simp,Xs,v,hk _ _ ha (.inr (.refl _)),λt ht=>wG ht⟩)) (λx hx=>by simp at hx)⟩
   ·have RN:ik o=2:=by omega
    obtain⟨obj,mk,qg,rfl,rfl,hl⟩:=Wj RN qQ;have amH:W0.get W.next=none:=by
     cases hq:W0.get W.next with
     |none=>rfl
     |some ob=>
      cases hq2:σ0 W.next with
      |none=>rw[(hJ.ext.ghost _ _ hq hq2).1]at Lt;cases Lt
      |some g=>have:=(hJ.Bt.m8 _ _ (hJ.ext.sub _ _ hq2)).1;omega
    refine⟨λk=>if k=i then some W.next else bd k,build _ _ rfl (hJ.Bt.ghost obj) (hJ.ext.RL Lt obj) (.add Lt obj) (λk hk=>by simp[hk])
     (.inr (.inr ⟨by rw[hwa];exact hw,obj,mk,W.next,hl.agree ha,λt ht=>wG ht,AW.aH _ _,amH,hJ.Bt.fresh,by simp,qg⟩)) (λx hx=>by simp at hx;subst hx;exact Lt)⟩
  ·cases hs
 ·rename_i hw;injection hs with hs;injection hs with HM zA;subst HM;subst zA;obtain⟨ha,hwa⟩:=yM (St ak);refine⟨λk=>if k=i then none else bd k,build _ ak rfl hJ.Bt hJ.ext (.refl _) (λk hk=>by simp[hk]) (.inl ⟨by rw[hwa];simpa using hw,by simp,λt ht=>wG ht⟩) (λx hx=>by simp at hx)⟩
end
end
section
variable [ah]
def cW{l:Array Bool}{i:Nat}(h:i<l.size)(d:Bool):(l.setIfInBounds i true).getD i d=true:=by simp[h]
def aT{l:Array Bool}{i j:Nat}(h:i≠j)(d:Bool):(l.setIfInBounds i true).getD j d=l.getD j d:=by simp[A8 h]
def HI{l:Array Bool}{i:Nat}(h:l.getD i false=true):l.getD i true=true/\i<l.size:=by
 by_cases hi:i<l.size
 ·simp[hi]at h|-;exact h
 ·simp[hi]at h
def JS{ops:Array aj}{nt:Nat}{ng:List Nat}(jR:∀(i:Nat) (o:aj),ops[i]? =some o->kY nt ng o=true){i:Nat}{o:aj}(ho:ops[i]? =some o){t:Tmp}(ht:t∈o.looksAt ops):t<nt:=by
 unfold Oper.looksAt at ht;rcases py.1 ht with h|h
 ·obtain⟨x,hx,e⟩:=List.mem_filterMap.1 h;have:=jR i o ho;simp only[kY,a8,cw]at this;have h2:=this.1 x hx;cases x with
  |tmp u=>simp only[gK]at e;subst e;simpa[oB,ic]using h2
  |_=>cases e
 ·split at h
  ·rename_i g b hg;cases hq:(ops[g]?).bind (·.dst)with
   |none=>rw[hq]at h;simp at h
   |some u=>
    rw[hq]at h;simp at h;subst h;cases hg:ops[g]? with
    |none=>rw[hg]at hq;cases hq
    |some og=>rw[hg]at hq;simp only[bL]at hq;have:=jR g og hg;simp only[kY,hq,a8]at this;simpa[ic]using this.2
  ·simp at h
def sZ{ops:Array aj}{nt:Nat}{ng:List Nat}{σ:cI}{R:ah.Fr}{a:aU}(hG:wV σ ng){o:aj}(jR:kY nt ng o=true)
 (h:∀t∈o.looksAt ops,VR σ (cL R t) (a.tmps.getD t ak)):∀x∈o.op.operands,VR σ (ax R x) (a.eval x):=by
 intro x hx;simp only[kY,a8,cw]at jR;have hk:=jR.1 x (by simpa using hx);cases x with
 |tmp t=>exact h t (KA hx)
 |const v=>exact g8 hk
 |global g=>obtain⟨e,he⟩:=hG g (sE.1 hk);have:=VR.ptr (σ:=σ) ⟨g,0,none⟩ _ he rfl;simpa[ax,Act.eval]using this
 |func f=>exact .func _ _ _ _ _ _ (.func f) rfl (λi v v' h=>by simp at h) rfl (λi v v' h=>by simp at h)
def VY{o:aj}(h:ik o<3):∀c,o.op≠ .defer c:=λc e=>by unfold ik at h;rw[e]at h;simp at h
section
variable {P:ag} {call:Callee} {ops:Array aj} {A:List Nat} {nt:Nat} {ng:List Nat} {σ0:cI} {W0:AW} {w0:am} {ds:List dv}
def J.anc{pre:List Ff}{listed:Array Bool}{bd:Nat->Option Nat}{σ:cI}{R:ah.Fr}{W:AW}{a:aU}{w:am}
 (hJ:J P call ops A nt ng σ0 W0 w0 ds pre listed bd σ R W a w)(hA:∀(i:Nat) (o:aj),ops[i]? =some o->A.getD i 0=uS A o)
 {i:Nat}{o:aj}(ho:ops[i]? =some o)(hr:∀e∈o.after,Region.binds .any e=true->listed.getD e.on false=true){j:Nat}(hj:Nat.testBit (A.getD i 0) j=true):
 listed.getD j true=true:=by
 rw[hA i o ho]at hj;obtain⟨e,he,hb,h|h⟩:=WS hj
 ·rw[h];exact(HI (hr e he hb)).1
 ·have:=HI (hr e he hb);exact hJ.down e.on j (by rw[<-hJ.xp];exact this.2) this.1 h
def J.mark{pre:List Ff}{listed:Array Bool}{bd:Nat->Option Nat}{σ σ':cI}{R:ah.Fr}{W:AW}{a:aU}{w w':am}
 (hJ:J P call ops A nt ng σ0 W0 w0 ds pre listed bd σ R W a w){d:Ff}(hd:d∈pre)(v':ad)(hs:Sub σ σ')(hw:bg σ' W w'.heap)(he:eF σ0 W0 w0 σ' W w')
 (hv:∀t,d.o.dst=some t->VR σ' (cL R t) v')(hx:∀d'∈pre,d'.i≠d.i->listed.getD d'.i true=false->∀x,bd d'.i=some x->σ x=none->(∃o,W.get x=some o)->σ' x=none)
 (H6:∀j,Nat.testBit (A.getD d.i 0) j=true->listed.getD j true=true):
 J P call ops A nt ng σ0 W0 w0 ds pre (listed.setIfInBounds d.i true) bd σ' R W (a.put d.o.dst v') w':=by
 have hi:d.i<listed.size:=by rw[hJ.xp];exact(dC.1 (hJ.op d hd)).1
 have xl:∀k,listed.getD k true=true->(listed.setIfInBounds d.i true).getD k true=true:=λk hk=>by
  by_cases e:d.i=k
  ·subst e;exact cW hi _
  ·rw[aT e];exact hk
 have BV:∀k,(listed.setIfInBounds d.i true).getD k true=false->k≠d.i/\listed.getD k true=false:=λk hk=>by
  by_cases e:d.i=k
  ·subst e;rw[cW hi]at hk;cases hk
  ·rw[aT e]at hk;exact⟨aV e,hk⟩
 refine⟨hw,hJ.N9.mono hs,he,by rw[EB];exact hJ.Mf,by rw[pz];exact hJ.Xk,by simp[hJ.xp],?_,?_,hJ.op,?_,hJ.kind,?_,hJ.OL,?_,?_⟩
 ·intro t ht yi;by_cases XM:d.o.dst=some t
  ·rw[pd XM (by rw[hJ.Mf];exact ht)];exact hv t XM
  ·rw[gD XM];refine(hJ.RC t ht λd' iA hl=>?_).mono hs;by_cases e:d'.i=d.i
   ·have h1:=hJ.op d' iA;have h2:=hJ.op d hd;rw[e,h2]at h1;injection h1 with h1;rw[<-h1];exact XM
   ·exact yi d' iA (by rw[aT (aV e)];exact hl)
 ·intro k hk hl;by_cases e:d.i=k
  ·exact⟨d,hd,e⟩
  ·rw[aT e]at hl;exact hJ.sub k hk hl
 ·intro d' iA h;exact xl _ (hJ.early d' iA h)
 ·intro k j hk hl hb;by_cases e:d.i=k
  ·subst e;exact xl _ (H6 j hb)
  ·rw[aT e]at hl;exact xl _ (hJ.down k j hk hl hb)
 ·intro d' iA hl;obtain⟨h1,h2⟩:=BV _ hl;rcases hJ.mZ d' iA h2 with k|k|⟨k1,obj,mk,x,k2,k3,k4,k5,k6,k7⟩
  ·exact .inl k
  ·exact .inr (.inl k)
  ·exact .inr (.inr ⟨k1,obj,mk,x,k2,k3,k4,k5,hx d' iA h1 h2 x k7.1 k6 ⟨_,k4⟩,k7⟩)
 ·intro d1 h1 d2 h2 l1 l2;exact hJ.inj d1 h1 d2 h2 (BV _ l1).2 (BV _ l2).2
def J.looks{pre:List Ff}{listed:Array Bool}{bd:Nat->Option Nat}{σ:cI}{R:ah.Fr}{W:AW}{a:aU}{w:am}
 (hJ:J P call ops A nt ng σ0 W0 w0 ds pre listed bd σ R W a w)(jR:∀(i:Nat) (o:aj),ops[i]? =some o->kY nt ng o=true){i:Nat}{o:aj}(ho:ops[i]? =some o)
 (hp:∀d∈pre,listed.getD d.i true=false->L2 d.o.dst (o.looksAt ops)=false):∀t∈o.looksAt ops,VR σ (cL R t) (a.tmps.getD t ak):=
 λt ht=>hJ.RC t (JS jR ho ht) λd hd hl e=>rz (hp d hd hl) e ht
def J.sA{pre:List Ff}{listed:Array Bool}{bd:Nat->Option Nat}{σ:cI}{R:ah.Fr}{W:AW}{a:aU}{w:am}
 (hJ:J P call ops A nt ng σ0 W0 w0 ds pre listed bd σ R W a w){d:Ff}(hd:d∈pre)(hl:listed.getD d.i true=false):d.early=true:=by
 cases he:d.early with
 |true=>rfl
 |false=>rw[hJ.early d hd he]at hl;cases hl
def J.aiB(hc:bI P ng call)(jR:∀(i:Nat) (o:aj),ops[i]? =some o->kY nt ng o=true)(hA:∀(i:Nat) (o:aj),ops[i]? =some o->A.getD i 0=uS A o)
 {pre:List Ff}{listed:Array Bool}{bd:Nat->Option Nat}{σ:cI}{R:ah.Fr}{W:AW}{a:aU}{w:am}
 (hJ:J P call ops A nt ng σ0 W0 w0 ds pre listed bd σ R W a w){d:Ff}(hd:d∈pre)(hl:listed.getD d.i true=false)
 (hr:∀e∈d.o.after,Region.binds .any e=true->listed.getD e.on false=true){ro:Option Nat}{K:aU->am->Prop}{Q:cJ->aU->am->Prop}
 (hK:∀σ' a' w',J P call ops A nt ng σ0 W0 w0 ds pre (listed.setIfInBounds d.i true) bd σ' R W a' w'->K a' w'):wpOpIn (FE ro) 0 P ops Q d.i K a w:=by
 have ho:=hJ.op d hd;have H6:∀j,Nat.testBit (A.getD d.i 0) j=true->listed.getD j true=true:=λj hj=>hJ.anc hA ho hr hj
 have Cb:=hJ.looks jR ho (λd' iA B6=>by
  cases hq:L2 d'.o.dst (d.o.looksAt ops)with
  |false=>rfl
  |true=>have:=H6 _ (hJ.OL d hd d' iA (hJ.sA iA B6) hq).1;rw[B6]at this;cases this);have hρ:=sZ hJ.N9 (jR _ _ ho) Cb;have hwe:=AB Cb;have hk3:=hJ.kind d hd (hJ.sA hd hl);have KD:=VY hk3;unfold wpOpIn;rw[ho];simp only[hwe];rcases hJ.mZ d hd hl with⟨h1,h2,h3⟩|⟨h1,h2,h3,v,h4,h5⟩|⟨h1,obj,mk,x,h2,h3,h4,h5,h6,h7⟩
 ·rw[h1,ap (by simp)];refine⟨λf _=>trivial,hK σ _ w (hJ.mark hd ak (.refl _) hJ.Bt hJ.ext (λt ht=>by rw[h3 t ht];exact .undef) (λ_ _ _ _ _ _ h _=>h) H6)⟩
 ·rw[h1,aq rfl];refine H1 hc hJ.Bt hJ.N9 h4 hρ λσ' v' w' hv hw he=>?_
  exact hK σ' _ w' (hJ.mark hd v' he.sub hw (hJ.ext.trans he) (λt ht=>by rw[h5 t ht];exact hv) (λd' _ _ _ x _ h6 ⟨ob,hx⟩=>(he.ghost _ _ hx h6).2) H6)
 ·rw[h1,aq rfl];obtain⟨v',xo,e,r1,r2,r3⟩:=h2 σ a.eval w x hρ h6;refine⟨λf _=>trivial,?_⟩;rw[Oper.semAt_eq _ _ _ KD,r1];refine hK (bP σ x ⟨w.heap.size,0,e⟩) _ _ (hJ.mark hd v' (dd h6) (hJ.Bt.bind h4 h6 r3) (hJ.ext.bind h6 h5 r3 h7.2) (λt ht=>by rw[h3 t ht];exact r2) ?_ H6);intro d' iA ee B6 y hy hσ _;have:y≠x:=λe=>by subst e;exact ee (hJ.inj d' iA d hd B6 hl y hy h7.1)
  unfold bP;rw[ap this];exact hσ
def J.force(hc:bI P ng call)(jR:∀(i:Nat) (o:aj),ops[i]? =some o->kY nt ng o=true)(hA:∀(i:Nat) (o:aj),ops[i]? =some o->A.getD i 0=uS A o)
 {pre:List Ff}{listed:Array Bool}{bd:Nat->Option Nat}{σ:cI}{R R':ah.Fr}{W W':AW}{a:aU}{w:am}{i:Nat}{re:List Nat}{iB:List (Nat×List Nat)}{o:aj}
 (hJ:J P call ops A nt ng σ0 W0 w0 ds pre listed bd σ R W a w)(hh:abW ops A pre i re iB o false)(hs:kw P call ops o R W=some (R',W'))(Ko:re.all (pV P call ops R' W')=true)
 (hr:∀e∈o.after,Region.binds .any e=true->listed.getD e.on false=true){ro:Option Nat}{K:aU->am->Prop}{Q:cJ->aU->am->Prop}
 (hK:∀σ' a' w',J P call ops A nt ng σ0 W0 w0 ds (⟨i,o,false⟩::pre) (listed.setIfInBounds i true) bd σ' R' W' a' w'->K a' w'):wpOpIn (FE ro) 0 P ops Q i K a w:=by
 have ho:=hh.op;have hi:i<listed.size:=by rw[hJ.xp];exact(dC.1 ho).1
 have H6:∀j,Nat.testBit (A.getD i 0) j=true->listed.getD j true=true:=λj hj=>hJ.anc hA ho hr hj
 have PN:∀d∈pre,listed.getD d.i true=false->L2 d.o.dst (o.looksAt ops)=false/\L2 o.dst (jZ ops d.o)=false/\(ik d.o=0\/ik d.o=2\/d.i∈re):=by
  intro d hd hl;rcases hh.held d hd (hJ.sA hd hl)with h1|⟨h1,h2⟩
  ·rw[H6 _ h1]at hl;cases hl
  ·rcases h2 with h2|⟨h2,h3⟩
   ·cases h2
   ·exact⟨h1,h2,h3⟩
 have Cb:=hJ.looks jR ho (λd hd hl=>(PN d hd hl).1);have hρ:=sZ hJ.N9 (jR _ _ ho) Cb;have hwe:=AB Cb;have BV:∀k,(listed.setIfInBounds i true).getD k true=false->k≠i/\listed.getD k true=false:=λk hk=>by
  by_cases e:i=k
  ·subst e;rw[cW hi]at hk;cases hk
  ·rw[aT e]at hk;exact⟨aV e,hk⟩
 have xl:∀k,listed.getD k true=true->(listed.setIfInBounds i true).getD k true=true:=λk hk=>by
  by_cases e:i=k
  ·subst e;exact cW hi _
  ·rw[aT e];exact hk
 have build:∀(σ':cI) (u u':ad) (w':am),R'=fM R o.dst u->VR σ' u u'->bg σ' W' w'.heap->eF σ W w σ' W' w'->
  J P call ops A nt ng σ0 W0 w0 ds (⟨i,o,false⟩::pre) (listed.setIfInBounds i true) bd σ' R' W' (a.put o.dst u') w':=by
  intro σ' u u' w' hR' hu hw he;refine⟨hw,hJ.N9.mono he.sub,hJ.ext.trans he,by rw[EB];exact hJ.Mf,by rw[pz];exact hJ.Xk,by simp[hJ.xp],?_,?_,?_,?_,?_,?_,?_,?_,?_⟩
  ·intro t ht yi;by_cases XM:o.dst=some t
   ·rw[pd XM (by rw[hJ.Mf];exact ht),hR',wG XM];exact hu
   ·rw[gD XM,hR',lH XM];refine(hJ.RC t ht λd' iA hl=>?_).mono he.sub;exact yi d' (by simp[iA]) (by rw[aT (aV (hh.new d' iA))];exact hl)
  ·intro k hk hl;by_cases e:i=k
   ·exact⟨⟨i,o,false⟩,by simp,e⟩
   ·rw[aT e]at hl;obtain⟨d,hd,e⟩:=hJ.sub k hk hl;exact⟨d,by simp[hd],e⟩
  ·intro d hd;rcases dD.1 hd with rfl|hd
   ·exact ho
   ·exact hJ.op d hd
  ·intro d hd h;rcases dD.1 hd with rfl|hd
   ·exact cW hi _
   ·exact xl _ (hJ.early d hd h)
  ·intro d hd h;rcases dD.1 hd with rfl|hd
   ·cases h
   ·exact hJ.kind d hd h
  ·intro k j hk hl hb;by_cases e:i=k
   ·subst e;exact xl _ (H6 j hb)
   ·rw[aT e]at hl;exact xl _ (hJ.down k j hk hl hb)
  ·intro d hd d' iA hde nM;rcases dD.1 iA with rfl|iA
   ·cases hde
   ·rcases dD.1 hd with rfl|hd
    ·rcases hh.held d' iA hde with h1|⟨h1,_⟩
     ·exact⟨h1,λe=>hh.new d' iA e.symm⟩
     ·simp only at nM;rw[h1]at nM;cases nM
    ·exact hJ.OL d hd d' iA hde nM
  ·intro d hd hl;rcases dD.1 hd with rfl|hd
   ·rw[cW hi]at hl;cases hl
   ·have B6:=(BV _ hl).2;obtain⟨g1,g2,g3⟩:=PN d hd B6;have AU:∀t∈jZ ops d.o,cL R' t=cL R t:=λt ht=>by rw[hR'];exact lH λe=>rz g2 e ht
    obtain⟨ha,hwd⟩:=yM (ops:=ops) (o:=d.o) λt ht=>AU t (vq ht)
    rcases hJ.mZ d hd B6 with⟨h1,h2,h3⟩|⟨h1,h2,h3,v,h4,h5⟩|⟨h1,obj,mk,x,h2,h3,h4,h5,h6,h7⟩
    ·exact .inl ⟨by rw[hwd];exact h1,h2,λt ht=>by rw[AU t (oI ht)];exact h3 t ht⟩
    ·refine .inr (.inl ⟨by rw[hwd];exact h1,h2,h3,?_⟩);rcases g3 with g3|g3|g3
     ·exact⟨v,(wa h3 h4).2 R' W' ha (.inl g3),λt ht=>by rw[AU t (oI ht)];exact h5 t ht⟩
     ·omega
     ·have St:=cw.1 Ko d.i g3;unfold pV at St;rw[hJ.op d hd]at St;simp only[hwd,h1,ba]at St;split at St
      ·rename_i u W2 qQ;have:=(wa h3 qQ).1;subst this;refine⟨u,qQ,λt ht=>?_⟩;rw[ht]at St;exact(VA St).symm
      ·cases St
    ·obtain⟨k1,k2⟩:=he.ghost _ _ h4 h6;exact .inr (.inr ⟨by rw[hwd];exact h1,obj,mk,x,h2.agree ha,λt ht=>by rw[AU t (oI ht)];exact h3 t ht,k1,h5,k2,h7⟩)
  ·intro d1 h1 d2 h2 l1 l2 x hx1 hx2;rcases dD.1 h1 with rfl|h1
   ·rw[cW hi]at l1;cases l1
   ·rcases dD.1 h2 with rfl|h2
    ·rw[cW hi]at l2;cases l2
    ·exact hJ.inj d1 h1 d2 h2 (BV _ l1).2 (BV _ l2).2 x hx1 hx2
 unfold wpOpIn;rw[ho];simp only[hwe];unfold kw at hs;split at hs
 ·rename_i hw;rw[aq hw];split at hs
  ·rename_i v W1 qQ;injection hs with hs;injection hs with HM zA;subst HM;subst zA;exact H1 hc hJ.Bt hJ.N9 qQ hρ λσ' v' w' hv hw' he=>hK σ' _ w' (build σ' v v' w' rfl hv hw' he)
  ·cases hs
 ·rename_i hw;rw[ap hw];injection hs with hs;injection hs with HM zA;subst HM;subst zA;exact⟨λf _=>trivial,hK σ _ w (build σ ak ak w rfl .undef hJ.Bt (.refl _ _ _))⟩
end
end
section
variable [ah]
def unl(n:Nat)(l:Array Bool):Nat:=(List.range n).countP λi=> !l.getD i true
def Gx{α:Type}{p q:α->Bool}{x:α}:∀{l:List α},x∈l->p x=true->q x=false->(∀y,q y=true->p y=true)->l.countP q<l.countP p:=by
 intro l;induction l with
 |nil=>intro h;cases h
 |cons y l ih=>
  intro h hp hq hi;have aS:l.countP q<=l.countP p:=List.countP_mono_left λz _ hz=>hi z hz
  rcases dD.1 h with rfl|h
  ·rw[List.countP_cons,List.countP_cons,hp,hq];simp;omega
  ·have:=ih h hp hq hi;rw[List.countP_cons,List.countP_cons];cases hqy:q y with
   |true=>rw[hi y hqy];simp;omega
   |false=>cases p y<;>simp<;>omega
def CN{n i:Nat}{l:Array Bool}(hi:i<n)(hs:i<l.size)(h:l.getD i true=false):unl n (l.setIfInBounds i true)<unl n l:=by
 refine Gx (x:=i) (by simpa using hi) (by rw[h];rfl) (by rw[cW hs];rfl) λy hy=>?_
 by_cases e:i=y
 ·subst e;rw[cW hs]at hy;cases hy
 ·rw[aT e]at hy;exact hy
def Kn{n:Nat}{l:Array Bool}(h:unl n l=0){i:Nat}(hi:i<n):l.getD i true=true:=by unfold unl at h;rw[List.countP_eq_zero]at h;have:=h i (by simpa using hi);simpa using this
section
variable {P:ag} {call:Callee} {ops:Array aj} {A:List Nat} {nt:Nat} {ng:List Nat} {σ0:cI} {W0:AW} {w0:am} {ds:List dv}
inductive B3 (ops:Array aj):List Ff->Prop where
 |nil:B3 ops []
 |cons (d:Ff) (pre:List Ff) (h:B3 ops pre) (ht:∀e∈d.o.after,Region.binds .any e=true->∃d'∈pre,d'.i=e.on) (ho:ops[d.i]? =some d.o):B3 ops (d::pre)
def B3.ready{listed:Array Bool}(qY:listed.size=ops.size):∀{pre:List Ff},B3 ops pre->(∃d∈pre,listed.getD d.i true=false)->Region.ready .any ops listed≠[]:=by
 intro pre h;induction h with
 |nil=>rintro⟨d,hd,_⟩;cases hd
 |cons d pre h ht ho ih=>
  rintro⟨d',iA,hl⟩ hr;by_cases Df:∃d∈pre,listed.getD d.i true=false
  ·exact ih Df hr
  ·rcases dD.1 iA with rfl|iA
   ·have:d'.i∈Region.ready .any ops listed:=ox.2 ⟨hl,d'.o,ho,λe he hb=>by
     obtain⟨d2,h2,e2⟩:=ht e he hb;have zS:listed.getD d2.i true=true:=by
      cases hq:listed.getD d2.i true with
      |true=>rfl
      |false=>exact absurd ⟨d2,h2,hq⟩ Df
     have hir:d2.i<ops.size:=by
      have:∀{pre},B3 ops pre->∀d∈pre,d.i<ops.size:=by
       intro pre h;induction h with
       |nil=>intro d hd;cases hd
       |cons d pre h ht ho ih=>
        intro d' iA;rcases dD.1 iA with rfl|iA
        ·exact(dC.1 ho).1
        ·exact ih d' iA
      exact this h d2 h2
     rw[<-e2];simp only[vt]at zS|-;rw[hZ (by omega)]at zS|-;exact zS⟩;rw[hr]at this;cases this
   ·exact Df ⟨d',iA,hl⟩
def WZ(hc:bI P ng call)(jR:∀(i:Nat) (o:aj),ops[i]? =some o->kY nt ng o=true)(hA:∀(i:Nat) (o:aj),ops[i]? =some o->A.getD i 0=uS A o)
 {ro:Option Nat}{Q:cJ->aU->am->Prop}{Rf:ah.Fr}{Wf:AW}
 (hQ:∀σ' a' w',dU nt σ' Rf a'.tmps->a'.defers=ds->bg σ' Wf w'.heap->eF σ0 W0 w0 σ' Wf w'->Q .normal a' w'):
 ∀(y6:Nat) (suf:List (Nat×List Nat)) (pre:List Ff) (listed:Array Bool) (bd:Nat->Option Nat) (σ:cI) (R:ah.Fr) (W:AW) (a:aU) (w:am),
  J P call ops A nt ng σ0 W0 w0 ds pre listed bd σ R W a w->B3 ops pre->A6 ops A pre suf=true->jU P call ops suf R W=some (Rf,Wf)->
  (∀i,i<ops.size->(∃d∈pre,d.i=i)\/∃k∈suf,k.1=i)->unl ops.size listed<=y6->wpAnyIn (FE ro) 0 P .any ops Q y6 listed a w:=by
 intro y6;induction y6 with
 |zero=>
  intro suf pre listed bd σ R W a w hJ lI Vl nQ IM hun;have tY:∀i,i<ops.size->listed.getD i true=true:=λi hi=>Kn (by omega) hi
  have acG:Region.ready .any ops listed=[]:=by rw[List.eq_nil_iff_forall_not_mem];intro i hi;obtain⟨h1,o,ho,_⟩:=ox.1 hi;rw[tY i (dC.1 ho).1]at h1;cases h1
  refine⟨acG,?_⟩;cases suf with
  |nil=>injection nQ with nQ;injection nQ with h1 h2;subst h1;subst h2;refine hQ σ a w ⟨hJ.Mf,λt ht=>hJ.RC t ht λd hd hl=>?_⟩ hJ.Xk hJ.Bt hJ.ext;rw[tY d.i (dC.1 (hJ.op d hd)).1]at hl;cases hl
  |cons k iB=>obtain⟨i,re⟩:=k;obtain⟨o,e,hh⟩:=B0 Vl;have hi:=(dC.1 hh.op).1;obtain⟨d,hd,e⟩:=hJ.sub i hi (tY i hi);exact absurd e (hh.new d hd)
 |succ y6 ih=>
  intro suf;induction suf with
  |nil=>
   intro pre listed bd σ R W a w hJ lI Vl nQ IM hun;refine⟨λhr=>?_,λi hi=>?_⟩
   ·have yi:∀d∈pre,listed.getD d.i true=true:=λd hd=>by
     cases hq:listed.getD d.i true with
     |true=>rfl
     |false=>exact absurd hr (lI.ready hJ.xp ⟨d,hd,hq⟩)
    injection nQ with nQ;injection nQ with h1 h2;subst h1;subst h2;exact hQ σ a w ⟨hJ.Mf,λt ht=>hJ.RC t ht λd hd hl=>by rw[yi d hd]at hl;cases hl⟩ hJ.Xk hJ.Bt hJ.ext
   ·obtain⟨h1,o,ho,h2⟩:=ox.1 hi;have kW:=(dC.1 ho).1;rcases IM i kW with⟨d,hd,e⟩|⟨k,hk,_⟩
    ·subst e;have O8:=hJ.op d hd;rw[ho]at O8;injection O8 with O8;subst O8;refine hJ.aiB hc jR hA hd h1 h2 λσ' a' w' hJ'=>?_
     exact ih [] pre _ bd σ' R W a' w' hJ' lI Vl nQ IM (by have:=CN kW (by rw[hJ.xp];exact kW) h1;omega)
    ·cases hk
  |cons k iB ihs=>
   intro pre listed bd σ R W a w hJ lI Vl nQ IM hun;obtain⟨i,re⟩:=k;obtain⟨o,e,hh⟩:=B0 Vl;have hi:=(dC.1 hh.op).1;simp only[jU,hh.op]at nQ;split at nQ;case h_2=>cases nQ
   rename_i R' W' hs;split at nQ;case isFalse=>cases nQ
   rename_i Ko;have aaY:∀j,j<ops.size->(∃d∈(⟨i,o,e⟩::pre:List Ff),d.i=j)\/∃k∈iB,k.1=j:=by
    intro j hj;rcases IM j hj with⟨d,hd,h1⟩|⟨k,hk,h1⟩
    ·exact .inl ⟨d,by simp[hd],h1⟩
    ·rcases dD.1 hk with rfl|hk
     ·exact .inl ⟨⟨i,o,e⟩,by simp,h1⟩
     ·exact .inr ⟨k,hk,h1⟩
   have abb:B3 ops (⟨i,o,e⟩::pre):=.cons _ _ lI hh.top hh.op;cases e with
   |true=>obtain⟨QZ,hJ'⟩:=hJ.advance hh hs;exact ihs _ listed QZ σ R' W' a w hJ' abb hh.go nQ aaY hun
   |false=>
    refine⟨λhr=>?_,λj hj=>?_⟩
    ·exfalso;by_cases Df:∃d∈pre,listed.getD d.i true=false
     ·exact lI.ready hJ.xp Df hr
     ·have hl:listed.getD i true=false:=by
       cases hq:listed.getD i true with
       |false=>rfl
       |true=>obtain⟨d,hd,e⟩:=hJ.sub i hi hq;exact absurd e (hh.new d hd)
      have:i∈Region.ready .any ops listed:=ox.2 ⟨hl,o,hh.op,λed he hb=>by
       obtain⟨d2,h2,e2⟩:=hh.top ed he hb;have zS:listed.getD d2.i true=true:=by
        cases hq:listed.getD d2.i true with
        |true=>rfl
        |false=>exact absurd ⟨d2,h2,hq⟩ Df
       have hir:d2.i<listed.size:=by rw[hJ.xp];exact(dC.1 (hJ.op d2 h2)).1
       rw[<-e2];simp only[vt]at zS|-;rw[hZ hir]at zS|-;exact zS⟩;rw[hr]at this;cases this
    ·obtain⟨h1,oj,ho,h2⟩:=ox.1 hj;have kW:=(dC.1 ho).1;rcases IM j kW with⟨d,hd,e⟩|⟨k,hk,e⟩
     ·subst e;have O8:=hJ.op d hd;rw[ho]at O8;injection O8 with O8;subst O8;refine hJ.aiB hc jR hA hd h1 h2 λσ' a' w' hJ'=>?_
      refine ih ((i,re)::iB) pre _ bd σ' R W a' w' hJ' lI Vl ?_ IM (by have:=CN kW (by rw[hJ.xp];exact kW) h1;omega);simp only[jU,hh.op,hs,Ko,ba];exact nQ
     ·rcases dD.1 hk with rfl|hk
      ·simp only at e;subst e;have O8:=hh.op;rw[ho]at O8;injection O8 with O8;subst O8;refine hJ.force hc jR hA hh hs Ko h2 λσ' a' w' hJ'=>?_
       exact ih iB _ _ bd σ' R' W' a' w' hJ' abb hh.go nQ aaY (by have:=CN kW (by rw[hJ.xp];exact kW) h1;omega)
      ·exfalso;rcases hh.last with h|h
       ·cases h
       ·obtain⟨ok,LM,ed,XS,hb,yi⟩:=h k hk;rw[e,ho]at LM;injection LM with LM;subst LM;have h3:=HI (h2 ed XS hb);obtain⟨d,hd,e⟩:=hJ.sub ed.on (by rw[<-hJ.xp];exact h3.2) h3.1;exact yi d hd e
def L1{P:ag}(hm:P.follows .mixedOrders=true){ng:List Nat}{nt:Nat}{call:Callee}(hc:bI P ng call){id:Nat}{ops:Array aj}{pl:List (Nat×List Nat)}
 (jR:ops.toList.all (kY nt ng)=true)(hp:Iq ops pl=true){σ:cI}{R Rf:ah.Fr}{W Wf:AW}{a:aU}{w:am}(hW:bg σ W w.heap)(hG:wV σ ng)(hR:dU nt σ R a.tmps)
 (h:jU P call ops pl R W=some (Rf,Wf)){ro:Option Nat}{Q:cJ->aU->am->Prop}
 (hQ:∀σ' a' w',dU nt σ' Rf a'.tmps->a'.defers=a.defers->bg σ' Wf w'.heap->eF σ W w σ' Wf w'->Q .normal a' w'):
 (Code.region id ops true).wpIn (FE ro) 0 P Q a w:=by
 refine wpIn_region_any hm ?_;unfold Iq at hp;simp only[a8,cw,nF]at hp;obtain⟨h1,h2⟩:=hp;have oX:∀i o,ops[i]? =some o->(Wk ops.toList []).getD i 0=uS (Wk ops.toList []) o/\∃k∈pl,k.1=i:=by intro i o ho;have:=h1 i (dC.1 ho).1;rw[ho]at this;simp only[a8,dM,vW]at this;exact this.1
 have LM:∀(i:Nat) (o:aj),ops[i]? =some o->kY nt ng o=true:=λi o ho=>cw.1 jR o (by have:=Array.mem_of_getElem? ho;simpa using this)
 have qY:∀i,i<ops.size->(Array.replicate ops.size false).getD i true=false:=λi hi=>by simp[hi]
 have IM:∀i,i<ops.size->(∃d∈([]:List Ff),d.i=i)\/∃k∈pl,k.1=i:=λi hi=> .inr (oX i ops[i] (hZ hi)).2
 refine WZ (A:=Wk ops.toList []) (W0:=W) (σ0:=σ) (w0:=w) (ds:=a.defers) hc LM (λi o ho=>(oX i o ho).1) hQ ops.size pl [] _ (λ_=>none) σ R W a _ ?_ .nil h2 h IM ?_
 ·refine⟨hW,hG,.drawn _ _ _ _,hR.1,rfl,by simp,λt ht _=>hR.2 t ht,?_,?_,?_,?_,?_,?_,?_,?_⟩
  ·intro i hi hl;rw[qY i hi]at hl;cases hl
  ·intro d hd;cases hd
  ·intro d hd;cases hd
  ·intro d hd;cases hd
  ·intro i j hi hl;rw[qY i hi]at hl;cases hl
  ·intro d hd;cases hd
  ·intro d hd;cases hd
  ·intro d hd;cases hd
 ·unfold unl;have:=List.countP_le_length (p:=λi=> !(Array.replicate ops.size false).getD i true) (l:=List.range ops.size);simpa using this
end
end
end Go.Eng
