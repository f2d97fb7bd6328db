/- A part: the engine and its laws. -/
import Derived.RangeFuncLeaves
import Derived.OrdersIn
import Derived.KernelRfl
import Derived.Laws.Cells
import Derived.Laws.CopyRow
import Derived.ChangeKeysEq
import Derived.ArgAppend
import Derived.Laws.Append
import Derived.Lib.AppendStr
import Derived.Lib.UnsafeStr
import Derived.Laws.BytesArg
import Derived.LaidEqlPtr
import Derived.Laws.StructEq
set_option linter.unusedVariables false
set_option linter.unusedSimpArgs false
set_option linter.unusedSectionVars false
set_option linter.defProp false
noncomputable section
open Go renaming Act->bw,Addr->bg,Code->bU,Deferred->eh,Exit->dx,FuncId->jU,IntKind->be,MapEntry->bD,Obj->sx,Oper->am,Operand->au,Program->ag,TypeId->af,Value->ad,World->ar,undef->aj
namespace Go
def cK{p:Prop}[Decidable p](h:p:=by omega):decide p=true:=decide_eq_true h
def cg{p:Prop}[Decidable p](h:¬p:=by omega):decide p=false:=decide_eq_false h
def kJ.{u}{c:Prop}{h:Decidable c}(q:c:=by omega){α:Sort u}{t e:α}:(ite c t e)=t:=if_pos q
def bM.{u}{c:Prop}{h:Decidable c}(q:¬c:=by omega){α:Sort u}{t e:α}:(ite c t e)=e:=if_neg q
abbrev Value.ae(n:Int):ad:=.int .i64 n
abbrev Lit.ae(n:Int):Lit:=.int .i64 n
def aC:=@And.intro
def aL:=@decide_eq_false
def aK:=@decide_eq_true
def ak:=@trivial
def ap.{u}:=@if_neg.{u}
def aJ:=@Nat.zero_add
def bN.{u}:=@List.getElem?_eq_getElem.{u}
def an.{u}:=@if_pos.{u}
def aQ:=@Nat.le_refl
def bJ.{u,v}:=@Option.bind_some.{u,v}
def bA:=@Bool.and_eq_true
def dh.{u}:=@List.getElem?_eq_some_iff.{u}
def cx.{u}:=@List.length_append.{u}
def aS.{u}:=@Eq.trans.{u}
def eV.{u}:=@Array.getElem?_eq_some_iff.{u}
def cD.{u}:=@List.getElem_mem.{u}
def cN:=@Go.Result.andThen_ok
def cm:=@Go.run_underlying
def cQ.{u}:=@List.length_cons.{u}
def cM.{u}:=@List.take_length.{u}
def jv.{u}:=@List.take_succ_eq_append_getElem.{u}
def cX.{u}:=@List.length_take.{u}
def db.{u}:=@List.all_eq_true.{u}
def bc.{u}:=@Ne.symm.{u}
def bi.{u}:=@if_true.{u}
def dA.{u,v}:=@Option.map_some.{u,v}
def jt.{u}:=@List.getD_eq_getElem?_getD.{u}
def ff:=@Nat.lt_of_lt_of_le
def cS:=@Go.Sem.run_bind
def jK.{u}:=@Array.getElem?_eq_getElem.{u}
def dC.{u}:=@List.all_cons.{u}
def fy.{u,v}:=@List.flatMap_cons.{u,v}
def eP.{u,v}:=@List.length_map.{u,v}
def fu.{u}:=@List.append_nil.{u}
def iS.{u,v}:=@List.flatMap_append.{u,v}
def ik:=@Bool.false_eq_true
def kF.{u}:=@List.getElem?_eq_none.{u}
def jL.{u}:=@Array.toArray_toList.{u}
def eI.{u}:=@List.mem_cons.{u}
def mw.{u}:=@List.length_eq_zero_iff.{u}
def cn.{u}:=@if_false.{u}
def ip:=@decide_eq_true_eq
def iR.{u}:=@List.append_assoc.{u}
def pY.{u}:=@List.getElem?_append_right.{u}
def mq.{u}:=@List.length_replicate.{u}
def eS:=@Nat.le_trans
def jd.{u}:=@Option.some.injEq.{u}
def fN:=@Bool.and_self
def mB:=@Nat.mul_le_mul_right
def ko.{u}:=@List.mem_singleton.{u}
def jJ.{u,v}:=@List.getElem?_map.{u,v}
def oz.{u}:=@List.take_of_length_le.{u}
def rC.{u}:=@List.drop_eq_getElem_cons.{u}
def jF.{u}:=@List.nil_append.{u}
def mm.{u}:=@List.getElem?_take.{u}
def iq:=@Nat.add_assoc
def il:=@Bool.true_and
def jj.{u}:=@List.drop_zero.{u}
def gv:=@Nat.add_zero
def oQ:=@Go.Lib.strCells_length
def fq:=@Nat.beq_eq
def lH.{u}:=@List.mem_append.{u}
def iu:=@Go.Sem.run_pure
def Am.{u}:=@List.eq_nil_of_length_eq_zero.{u}
def oJ.{u}:=@List.ext_getElem?.{u}
def oG.{u}:=@List.cons_append.{u}
def vE.{u}:=@Array.toList_eq_nil_iff.{u}
def eU.{u}:=@cond_true.{u}
def p9.{u}:=@List.getElem?_drop.{u}
def gK:=@Nat.mul_one
def zw.{u}:=@Array.getD_eq_getD_getElem?.{u}
def vK.{u}:=@List.getElem?_set_self.{u}
def pk.{u}:=@Option.getD_some.{u}
def px.{u}:=@List.length_drop.{u}
def rG.{u}:=@List.filter_append.{u}
def gw.{u}:=@cond_false.{u}
def vu.{u}:=@List.take_append_drop.{u}
def lj.{u,v}:=@List.map_cons.{u,v}
def gO.{u,v}:=@congrArg.{u,v}
def zl.{u}:=@List.getElem?_append_left.{u}
def oA:=@Bool.or_eq_true
def vw.{u}:=@List.getElem?_set_ne.{u}
def E1.{u}:=@Array.getElem?_setIfInBounds_ne.{u}
def jP:=@Nat.add_mul
def vP.{u}:=@List.length_pos_iff.{u}
def pO.{u}:=@List.length_set.{u}
def ql:=@List.range_succ
def p8:=@Bool.false_and
def xV.{u}:=@List.mem_of_getElem?.{u}
def kr:=@Nat.one_mul
def An.{u}:=@Array.getElem?_eq_none.{u}
def vR.{u}:=@Option.isSome_none.{u}
def my.{u,v}:=@List.mem_map.{u,v}
def vO:=@Bool.true_eq_false
def pX:=@List.mem_range
def rI.{u,v}:=@List.map_append.{u,v}
def xS.{u}:=@Array.getElem?_push.{u}
def Aj.{u}:=@Array.getElem?_modify.{u}
def vj:=@Int.toNat_natCast
def Fj.{u}:=@List.getElem?_cons_zero.{u}
def pd.{u}:=@List.take_zero.{u}
def pj.{u}:=@List.mem_filter.{u}
def qB.{u}:=@List.length_nil.{u}
def mZ:=@Bool.and_true
def pg:=@Nat.min_eq_left
def qn.{u}:=@Array.toList_inj.{u}
def xB.{u}:=@List.drop_of_length_le.{u}
def Ay.{u}:=@List.mem_take_iff_getElem.{u}
def uv.{u}:=@List.replicate_succ.{u}
def xj.{u}:=@Array.getElem?_toList.{u}
def xn.{u}:=@Classical.choose_spec.{u}
def AI.{u}:=@List.take_append_getElem.{u}
def wW.{u}:=@List.getElem?_append.{u}
def Dv.{u}:=@List.getElem?_cons_succ.{u}
def Ie.{u}:=@List.set_eq_take_append_cons_drop.{u}
def uM.{u}:=@List.getElem?_set.{u}
def xR.{u}:=@List.size_toArray.{u}
def jG:=@Nat.blt_eq
def ur:=@Bool.not_eq_true'
def mS.{u,v}:=@List.map_nil.{u,v}
def ut:=@Bool.eq_false_iff
def EA.{u}:=@Option.isNone_iff_eq_none.{u}
def AU:=@Nat.eq_of_beq_eq_true
def AH.{u}:=@List.getElem_set_self.{u}
def AL.{u}:=@List.length_filter_le.{u}
def oV:=@Go.CallsIn.mono
def EN.{u}:=@List.eraseIdx_cons_succ.{u}
def xJ.{u,v}:=@List.foldl_append.{u,v}
def II.{u}:=@Array.getElem?_setIfInBounds.{u}
def uQ.{u,v}:=@List.foldl_cons.{u,v}
def uJ:=@Bool.eq_iff_iff
def Bk.{u}:=@List.getElem_of_mem.{u}
def qG:=@Nat.lt_or_ge
def Et.{u}:=@List.filter_eq_nil_iff.{u}
def xk.{u}:=@List.any_eq_true.{u}
def Bg.{u}:=@Option.isSome_some.{u}
def DZ.{u}:=@Array.getElem?_append.{u}
def Eu.{u}:=@List.length_singleton.{u}
def Ip.{u}:=@List.mem_drop_iff_getElem.{u}
def xA:=@Nat.le_max_left
def sk:=@Nat.sub_self
def qw:=@Nat.mul_pos
def Au.{u}:=@Array.isEmpty_iff.{u}
def qy:=@Nat.zero_le
def Bo.{u}:=@List.nodup_append.{u}
def Dr.{u}:=@List.mem_of_mem_take.{u}
def Ea:=@Go.World.grownBy_alloc
def C2.{u}:=@List.getElem_set_ne.{u}
def A5:=@Nat.le_max_right
def Ib:=@Nat.add_sub_cancel_left
def xN.{u}:=@List.take_left.{u}
def xx.{u}:=@List.drop_left.{u}
def xu.{u}:=@List.drop_drop.{u}
def A4.{u,v}:=@List.flatMap_nil.{u,v}
def sy:=@Int.le_refl
def um:=@Nat.zero_mul
def xy.{u}:=@List.all_nil.{u}
def uC:=@Nat.beq_refl
def uy:=@Go.callsIn_wide
def Ij.{u}:=@List.set_cons_zero.{u}
def uI:=@Int.add_zero
def mY:=@and_self
def AQ.{u}:=@Option.some.inj.{u}
def xp.{u,v}:=@List.map_take.{u,v}
def DI:=@of_decide_eq_true
def Ee:=@List.length_range
def Ox.{u}:=@Array.toList_setIfInBounds.{u}
def OK:=@Int.fdiv_eq_ediv_of_nonneg
def xG:=@Nat.sub_zero
def Es.{u}:=@List.filter_cons.{u}
def Nx.{u}:=@List.extract_eq_take_drop.{u}
def Pf.{u}:=@List.mem_of_find?_eq_some.{u}
def Pq.{u}:=@List.take_succ_cons.{u}
def H9.{u}:=@List.toList_toArray.{u}
def IG:=@List.getElem?_range
def Is.{u}:=@List.dropWhile_cons.{u}
def If.{u}:=@List.findIdx_append.{u}
def Ir.{u}:=@List.mergeSort_perm.{u}
def ND.{u}:=@List.getElem?_take_of_lt.{u}
def It:=@Go.run_loadCells_list
def Iw:=@Go.grownCap_le_maxLen
def uW.{u}:=@beq_iff_eq.{u}
def OW.{u}:=@List.set_cons_succ.{u}
def Ik.{u}:=@List.prefix_append.{u}
def xM:=@Go.setRow_heap
def sm:=@Go.mem_ready
def ID:=@Go.run_storeCells_at
def AM:=@Bool.true_or
def Di:=@Bool.and_false
def IJ.{u}:=@List.any_eq_false.{u}
def IH:=@Decidable.not_not
def DK.{u,v}:=@Prod.mk.injEq.{u,v}
def oF.{u}:=@dif_pos.{u}
def uL:=@true_and
end Go
namespace Go.Eng
open Go
inductive T (α:Type) where
 |lf:T α
 |nd (l:T α) (v:Option α) (r:T α):T α
def Gt(Ex:Nat):Nat->List Bool:=
 Nat.rec (motive:=λ_=>Nat->List Bool) (λ_=>[])
  (λ_ ih n=>Nat.rec (motive:=λ_=>List Bool) [] (λm _=>(Nat.beq (Nat.mod m 2) 0)::ih (Nat.div m 2)) n) Ex
def path(n:Nat):List Bool:=Gt n n
def T.get{α:Type}(p:List Bool):T α->Option α:=
 List.rec (motive:=λ_=>T α->Option α) (λt=>T.rec (motive:=λ_=>Option α) none (λ_ v _ _ _=>v) t)
  (λb _ ih t=>T.rec (motive:=λ_=>Option α) none (λl _ r _ _=>Bool.rec (motive:=λ_=>Option α) (ih r) (ih l) b) t) p
def T.set{α:Type}(x:Option α)(p:List Bool):T α->T α:=
 List.rec (motive:=λ_=>T α->T α) (λt=>T.rec (motive:=λ_=>T α) (.nd .lf x .lf) (λl _ r _ _=>.nd l x r) t)
  (λb _ ih t=>T.rec (motive:=λ_=>T α) (Bool.rec (motive:=λ_=>T α) (.nd .lf none (ih .lf)) (.nd (ih .lf) none .lf) b)
    (λl v r _ _=>Bool.rec (motive:=λ_=>T α) (.nd l v (ih r)) (.nd (ih l) v r) b) t) p
def XA:∀(f g n m:Nat),n<=f->m<=g->Gt f n=Gt g m->n=m:=by
 intro f;induction f with
 |zero=>
  intro g n m hn hm h;have Wa:n=0:=by omega
  subst Wa;cases m with
  |zero=>rfl
  |succ m=>
   cases g with
   |zero=>omega
   |succ g=>exact absurd h (by simp[Gt])
 |succ f ih=>
  intro g n m hn hm h;cases n with
  |zero=>
   cases m with
   |zero=>rfl
   |succ m=>
    cases g with
    |zero=>omega
    |succ g=>exact absurd h (by simp[Gt])
  |succ n=>
   cases m with
   |zero=>cases g<;>exact absurd h (by simp[Gt])
   |succ m=>
    cases g with
    |zero=>omega
    |succ g=>
     have h':(Nat.beq (Nat.mod n 2) 0)::Gt f (Nat.div n 2)=(Nat.beq (Nat.mod m 2) 0)::Gt g (Nat.div m 2):=h;injection h' with h1 h2;have e1:Nat.div n 2=n/2:=rfl;have e2:Nat.div m 2=m/2:=rfl;have e3:Nat.mod n 2=n % 2:=rfl;have e4:Nat.mod m 2=m % 2:=rfl;have h3:=ih g (n/2) (m/2) (by omega) (by omega) (by rw[<-e1,<-e2];exact h2);rw[e3,e4]at h1;have h4:(n % 2=0)<->(m % 2=0):=by rw[<-fq,<-fq,h1]
     omega
def aaW{n m:Nat}(h:path n=path m):n=m:=XA _ _ _ _ (aQ _) (aQ _) h
def AE{n m:Nat}(h:n≠m):path n≠path m:=λe=>h (aaW e)
def T.oX{α:Type}(x:Option α):∀(p:List Bool) (t:T α),T.get p (T.set x p t)=x:=by
 intro p;induction p with
 |nil=>intro t;cases t<;>rfl
 |cons b p ih=>intro t;cases t<;>cases b<;>exact ih _
def T.Fp{α:Type}(p:List Bool):T.get p (.lf:T α)=none:=by cases p<;>rfl
def T.iL{α:Type}(x:Option α):∀(p q:List Bool) (t:T α),p≠q->T.get q (T.set x p t)=T.get q t:=by
 intro p;induction p with
 |nil=>
  intro q t h;cases q with
  |nil=>exact absurd rfl h
  |cons b q=>cases t<;>cases b<;>first|rfl|exact(T.Fp q)
 |cons b p ih=>
  intro q t h;cases q with
  |nil=>cases t<;>cases b<;>rfl
  |cons c q=>
   have ht:b=c->p≠q:=λe1 e2=>h (by rw[e1,e2])
   cases t<;>cases b<;>cases c<;>
    first
     |rfl
     |exact T.Fp q
     |exact(ih q .lf (ht rfl)).trans (T.Fp q)
     |exact ih q _ (ht rfl)
def T.set_set{α:Type}(x y:Option α):∀(p:List Bool) (t:T α),T.set y p (T.set x p t)=T.set y p t:=by
 intro p;induction p with
 |nil=>intro t;cases t<;>rfl
 |cons b p ih=>
  intro t;cases t with
  |lf=>
   cases b
   ·exact gO (T.nd .lf none) (ih .lf)
   ·exact gO (λl=>T.nd l none .lf) (ih .lf)
  |nd l v r=>
   cases b
   ·exact gO (T.nd l v) (ih r)
   ·exact gO (λl=>T.nd l v r) (ih l)
class ai where
 D:Nat->Array am->Option (List (Nat×List Nat))
 ng:List Nat
 ex:af->Bool
 Fr:Type
 I5:Fr->Nat->ad
 abU:Fr->Nat->ad->Fr
 blank:Fr
 oX:∀R t v,I5 (abU R t v) t=v
 iL:∀R t u v,t≠u->I5 (abU R t v) u=I5 R u
 E5:∀t,I5 blank t=aj
def ahb{α:Type}(l:List α):Nat->Option α:=
 List.rec (motive:=λ_=>Nat->Option α) (λ_=>none) (λv _ ih n=>Nat.rec (motive:=λ_=>Option α) (some v) (λm _=>ih m) n) l
def OE{α:Type}(l:List α):∀n,ahb l n=l[n]? :=by
 induction l with
 |nil=>intro n;rfl
 |cons v l ih=>intro n;cases n with|zero=>rfl|succ n=>exact(ih n).trans (by simp)
section
variable [ai]
inductive dI where
 |cells (cs:List ad)
 |ro (cs:List ad)
 |map (es:List bD) (nW:Nat)
 |loop (state:LoopState) (pending:Option bU) (tmps:ai.Fr) (ntmps:Nat) (params:Array Tmp) (assign body:bU)
 |rh (s:ByteArray) (pos:Nat)
 |tc (t:af) (cs:List ad)
structure AW where
 heap:T dI
 next:Nat
def AW.get(W:AW)(b:Nat):Option dI:=T.get (path b) W.heap
def AW.put(W:AW)(b:Nat)(o:dI):AW:=⟨T.set (some o) (path b) W.heap,W.next⟩
def AW.kill(W:AW)(b:Nat):AW:=⟨T.set none (path b) W.heap,W.next⟩
def AW.new{X:Type}(W:AW)(o:dI)(k:Nat->AW->X):X:=
 AW.rec (motive:=λ_=>X) (λh n=>Nat.rec (motive:=λ_=>X) (k 0 ⟨T.set (some o) (path 0) h,1⟩)
  (λm _=>k (Nat.succ m) ⟨T.set (some o) (path (Nat.succ m)) h,Nat.succ (Nat.succ m)⟩) n) W
def AW.add(W:AW)(o:dI):AW:=⟨T.set (some o) (path W.next) W.heap,W.next+1⟩
def AW.dX{X:Type}(W:AW)(o:dI)(k:Nat->AW->X):W.new o k=k W.next (W.add o):=by obtain⟨h,n⟩:=W;cases n<;>rfl
def AW.aW(W:AW)(b:Nat)(o:dI):(W.put b o).get b=some o:=T.oX _ _ _
def AW.ay(W:AW){b c:Nat}(o:dI)(h:b≠c):(W.put b o).get c=W.get c:=T.iL _ _ _ _ (AE h)
def AW.DS(W:AW)(b:Nat):(W.kill b).get b=none:=T.oX _ _ _
def AW.de(W:AW){b c:Nat}(h:b≠c):(W.kill b).get c=W.get c:=T.iL _ _ _ _ (AE h)
def AW.aI(W:AW)(o:dI):(W.add o).get W.next=some o:=T.oX _ _ _
def AW.aE(W:AW){c:Nat}(o:dI)(h:W.next≠c):(W.add o).get c=W.get c:=T.iL _ _ _ _ (AE h)
def AW.bG(W:AW)(b:Nat)(o:dI):(W.put b o).next=W.next:=rfl
def AW.dr(W:AW)(b:Nat):(W.kill b).next=W.next:=rfl
def AW.av(W:AW)(o:dI):(W.add o).next=W.next+1:=rfl
end
structure zY where
 B:Nat
 s:Nat
 e:Nat
abbrev dz:=Nat->Option zY
def eG:Nat:=18446744073709551616
inductive L4 (g:zY) (off l:Nat):Nat->Nat->Prop where
 |known (c:Nat) (h:c<eG):L4 g off l c c
 |open_ (z c':Nat) (hz:0<z) (hl:l<=c') (h:g.s+off+c'*z=g.e) (hb:c'<=maxLen):L4 g off l (eG+z) c'
inductive FnR (σ:dz):Fn->Fn->Prop where
 |func (f:jU):FnR σ (.func f) (.func f)
 |yield (l:Nat) (g:zY) (h:σ l=some g):FnR σ (.yield l) (.yield g.B)
inductive VR (σ:dz):ad->ad->Prop where
 |bool (b:Bool):VR σ (.bool b) (.bool b)
 |int (k:be) (n:Int):VR σ (.int k n) (.int k n)
 |float (k:FloatKind) (n:Nat):VR σ (.float k n) (.float k n)
 |string (s:ByteArray):VR σ (.string s) (.string s)
 |PP:VR σ (.pointer none) (.pointer none)
 |ptr (a:bg) (g:zY) (h:σ a.block=some g) (hs:a.spot=none):VR σ (.pointer (some a)) (.pointer (some ⟨g.B,g.s+a.off,none⟩))
 |I4 (l c:Nat):VR σ (.slice none l c) (.slice none l c)
 |slice (a:bg) (l c c':Nat) (g:zY) (h:σ a.block=some g) (hs:a.spot=none) (hc:L4 g a.off l c c'):
   VR σ (.slice (some a) l c) (.slice (some ⟨g.B,g.s+a.off,none⟩) l c')
 |dO (a a':bg) (c:Nat) (g:zY) (h:σ a.block=some g) (hc:c=0\/eG<c):VR σ (.slice (some a) 0 c) (.slice (some a') 0 0)
 |Uh:VR σ (.map none) (.map none)
 |map (r:Nat) (g:zY) (h:σ r=some g):VR σ (.map (some r)) (.map (some g.B))
 |nilFunc:VR σ .nilFunc .nilFunc
 |func (fn Lo:Fn) (fs yg cs cV:Array ad) (hf:FnR σ fn Lo) (h1:fs.size=yg.size) (h2:∀(i:Nat) (v v':ad),fs[i]? =some v->yg[i]? =some v'->VR σ v v')
   (h3:cs.size=cV.size) (h4:∀(i:Nat) (v v':ad),cs[i]? =some v->cV[i]? =some v'->VR σ v v'):VR σ (.func fn fs cs) (.func Lo yg cV)
 |nilIface:VR σ .nilIface .nilIface
 |iface (t:af) (v v':ad) (h:VR σ v v'):VR σ (.iface t v) (.iface t v')
 |agg (cs cV:Array ad) (h1:cs.size=cV.size) (h2:∀(i:Nat) (v v':ad),cs[i]? =some v->cV[i]? =some v'->VR σ v v'):VR σ (.agg cs) (.agg cV)
 |tuple (cs cV:Array ad) (h1:cs.size=cV.size) (h2:∀(i:Nat) (v v':ad),cs[i]? =some v->cV[i]? =some v'->VR σ v v'):VR σ (.tuple cs) (.tuple cV)
def Sub(σ σ':dz):Prop:=∀b g,σ b=some g->σ' b=some g
def Sub.refl(σ:dz):Sub σ σ:=λ_ _ h=>h
def Sub.trans{σ σ' OL:dz}(h:Sub σ σ')(k:Sub σ' OL):Sub σ OL:=λb g x=>k b g (h b g x)
def FnR.mono{σ σ':dz}(hs:Sub σ σ'){f f':Fn}(h:FnR σ f f'):FnR σ' f f':=by
 cases h with
 |func f=>exact .func f
 |yield l g h=>exact .yield l g (hs _ _ h)
def VR.mono{σ σ':dz}(hs:Sub σ σ'){v v':ad}(h:VR σ v v'):VR σ' v v':=by
 induction h with
 |bool b=>exact .bool b
 |int k n=>exact .int k n
 |float k n=>exact .float k n
 |string s=>exact .string s
 |PP=>exact .PP
 |ptr a g h wS=>exact .ptr a g (hs _ _ h) wS
 |I4 l c=>exact .I4 l c
 |slice a l c c' g h wS hc=>exact .slice a l c c' g (hs _ _ h) wS hc
 |dO a a' c g h hc=>exact .dO a a' c g (hs _ _ h) hc
 |Uh=>exact .Uh
 |map r g h=>exact .map r g (hs _ _ h)
 |nilFunc=>exact .nilFunc
 |func fn Lo fs yg cs cV hf h1 _ h3 _ ih1 ih2=>exact .func fn Lo fs yg cs cV (hf.mono hs) h1 ih1 h3 ih2
 |nilIface=>exact .nilIface
 |iface t v v' _ ih=>exact .iface t v v' ih
 |agg cs cV h1 _ ih=>exact .agg cs cV h1 ih
 |tuple cs cV h1 _ ih=>exact .tuple cs cV h1 ih
def LR(σ:dz)(l l':List ad):Prop:=l.length=l'.length/\∀(i:Nat) (v v':ad),l[i]? =some v->l'[i]? =some v'->VR σ v v'
def LR.mono{σ σ':dz}(hs:Sub σ σ'){l l':List ad}(h:LR σ l l'):LR σ' l l':=⟨h.1,λi v v' a b=>(h.2 i v v' a b).mono hs⟩
def LR.nil{σ:dz}:LR σ [] []:=⟨rfl,λi v v' a=>by simp at a⟩
def LR.cons{σ:dz}{v v':ad}{l l':List ad}(h:VR σ v v')(hl:LR σ l l'):LR σ (v::l) (v'::l'):=by
 refine⟨by simp[hl.1],λi u u' a b=>?_⟩;cases i with
 |zero=>simp at a b;subst a;subst b;exact h
 |succ i=>simp at a b;exact hl.2 i u u' a b
def LR.of_cons{σ:dz}{v:ad}{l m:List ad}(h:LR σ (v::l) m):∃v' l',m=v'::l'/\VR σ v v'/\LR σ l l':=by
 cases m with
 |nil=>have:=h.1;simp at this
 |cons v' l'=>refine⟨v',l',rfl,h.2 0 v v' (by simp) (by simp),by have:=h.1;simpa using this,λi u u' a b=>h.2 (i+1) u u' (by simpa using a) (by simpa using b)⟩
def LR.of_nil{σ:dz}{m:List ad}(h:LR σ [] m):m=[]:=by have:=h.1;simp at this;exact Am this.symm
def LR.append{σ:dz}{l l' m m':List ad}(h:LR σ l l')(k:LR σ m m'):LR σ (l++m) (l'++m'):=by
 induction l generalizing l' with
 |nil=>have:=h.of_nil;subst this;exact k
 |cons v l ih=>obtain⟨v',l'',rfl,hv,hl⟩:=h.of_cons;exact(ih hl).cons hv
def LR.take{σ:dz}{l l':List ad}(h:LR σ l l')(n:Nat):LR σ (l.take n) (l'.take n):=by
 refine⟨by simp[h.1],λi v v' a b=>?_⟩;rw[mm]at a b;split at a
 ·rename_i hi;rw[an hi]at b;exact h.2 i v v' a b
 ·cases a
def LR.drop{σ:dz}{l l':List ad}(h:LR σ l l')(n:Nat):LR σ (l.drop n) (l'.drop n):=by refine⟨by simp[h.1],λi v v' a b=>?_⟩;rw[p9]at a b;exact h.2 _ v v' a b
def LR.get{σ:dz}{l l':List ad}(h:LR σ l l'){i:Nat}{v:ad}(hv:l[i]? =some v):∃v',l'[i]? =some v'/\VR σ v v':=by
 have hi:i<l.length:=(dh.1 hv).1;have rq:i<l'.length:=by rw[<-h.1];exact hi
 exact⟨l'[i],bN rq,h.2 i v _ hv (bN rq)⟩
def LR.set{σ:dz}{l l':List ad}(h:LR σ l l')(n:Nat){x x':ad}(hx:VR σ x x'):LR σ (l.set n x) (l'.set n x'):=by
 refine⟨by simp[h.1],λi v v' a b=>?_⟩;rw[uM]at a b;by_cases hn:n=i
 ·subst hn;simp only[bi]at a b;split at a
  ·split at b
   ·simp at a b;subst a;subst b;exact hx
   ·cases b
  ·cases a
 ·rw[ap hn]at a b;exact h.2 i v v' a b
def LR.Cp{σ:dz}{a a':Array ad}(h1:a.size=a'.size)(h2:∀(i:Nat) (v v':ad),a[i]? =some v->a'[i]? =some v'->VR σ v v'):LR σ a.toList a'.toList:=
 ⟨by simpa using h1,λi v v' x y=>h2 i v v' (by simpa using x) (by simpa using y)⟩
def LR.arr{σ:dz}{a a':Array ad}(h:LR σ a.toList a'.toList):a.size=a'.size/\∀(i:Nat) (v v':ad),a[i]? =some v->a'[i]? =some v'->VR σ v v':=
 ⟨by simpa using h.1,λi v v' x y=>h.2 i v v' (by simpa using x) (by simpa using y)⟩
def VR.TV{σ:dz}{a a':Array ad}(h:LR σ a.toList a'.toList):VR σ (.agg a) (.agg a'):=.agg _ _ h.arr.1 h.arr.2
def VR.tuple'{σ:dz}{a a':Array ad}(h:LR σ a.toList a'.toList):VR σ (.tuple a) (.tuple a'):=.tuple _ _ h.arr.1 h.arr.2
def VR.cells{σ:dz}{v v':ad}(h:VR σ v v'):LR σ v.cells.toList v'.cells.toList:=by
 cases h with
 |agg cs cV h1 h2=>exact .Cp h1 h2
 |bool b=>exact .cons (.bool b) .nil
 |int k n=>exact .cons (.int k n) .nil
 |float k n=>exact .cons (.float k n) .nil
 |string s=>exact .cons (.string s) .nil
 |PP=>exact .cons .PP .nil
 |ptr a g h hs=>exact .cons (.ptr a g h hs) .nil
 |I4 l c=>exact .cons (.I4 l c) .nil
 |slice a l c c' g h hs hc=>exact .cons (.slice a l c c' g h hs hc) .nil
 |dO a a' c g h hc=>exact .cons (.dO a a' c g h hc) .nil
 |Uh=>exact .cons .Uh .nil
 |map r g h=>exact .cons (.map r g h) .nil
 |nilFunc=>exact .cons .nilFunc .nil
 |func fn Lo fs yg cs cV hf h1 h2 h3 h4=>exact .cons (.func fn Lo fs yg cs cV hf h1 h2 h3 h4) .nil
 |nilIface=>exact .cons .nilIface .nil
 |iface t v v' h=>exact .cons (.iface t v v' h) .nil
 |tuple cs cV h1 h2=>exact .cons (.tuple cs cV h1 h2) .nil
def VR.undef{σ:dz}:VR σ aj aj:=VR.tuple' (a:=#[]) (a':=#[]) .nil
def cC:ad->Bool
 |.bool _|.int .. |.string _|.pointer none|.slice none _ _|.map none|.nilFunc|.nilIface|.float .. =>true
 |_=>false
def eH:ad->Bool
 |.agg cs=>cs.toList.all cC
 |v=>cC v
def bL:ad->Bool
 |.tuple vs=>vs.toList.all eH
 |.iface _ v=>eH v
 |v=>eH v
def MP{σ:dz}{v v':ad}(hp:cC v=true)(h:VR σ v v'):v'=v:=by cases h<;>first|rfl|simp[cC]at hp
def fM{σ:dz}{v:ad}(hp:cC v=true):VR σ v v:=by
 cases v with
 |bool b=>exact .bool b
 |int k n=>exact .int k n
 |float k n=>exact .float k n
 |string s=>exact .string s
 |pointer a=>cases a with|none=>exact .PP|some a=>simp[cC]at hp
 |slice a l c=>cases a with|none=>exact .I4 l c|some a=>simp[cC]at hp
 |map r=>cases r with|none=>exact .Uh|some a=>simp[cC]at hp
 |nilFunc=>exact .nilFunc
 |nilIface=>exact .nilIface
 |_=>simp[cC]at hp
def LR.acD{σ:dz}{p:ad->Bool}(hp:∀v v',p v=true->VR σ v v'->v'=v):∀{l l':List ad},l.all p=true->LR σ l l'->l'=l:=by
 intro l;induction l with
 |nil=>intro l' _ h;exact h.of_nil
 |cons v l ih=>intro l' ha h;obtain⟨v',l'',rfl,hv,hl⟩:=h.of_cons;simp only[dC,bA]at ha;rw[hp v v' ha.1 hv,ih ha.2 hl]
def LR.qA{σ:dz}{p:ad->Bool}(hp:∀v,p v=true->VR σ v v):∀{l:List ad},l.all p=true->LR σ l l:=by
 intro l;induction l with
 |nil=>intro _;exact .nil
 |cons v l ih=>intro ha;simp only[dC,bA]at ha;exact(ih ha.2).cons (hp v ha.1)
def F6{σ:dz}{v v':ad}(hp:eH v=true)(h:VR σ v v'):v'=v:=by
 cases h with
 |agg cs cV h1 h2=>have:=LR.acD (λv v'=>MP) (show cs.toList.all cC=true from hp) (LR.Cp h1 h2);rw[qn.1 this]
 |_=>first|rfl|simp[eH,cC]at hp
def zV{σ:dz}{v:ad}(hp:eH v=true):VR σ v v:=by
 cases v with
 |agg cs=>exact VR.TV (LR.qA (λv=>fM) (show cs.toList.all cC=true from hp))
 |_=>exact fM hp
def gP{σ:dz}{v v':ad}(hp:bL v=true)(h:VR σ v v'):v'=v:=by
 cases h with
 |tuple cs cV h1 h2=>have:=LR.acD (λv v'=>F6) (show cs.toList.all eH=true from hp) (LR.Cp h1 h2);rw[qn.1 this]
 |iface t v v' h=>rw[F6 hp h]
 |agg cs cV h1 h2=>exact F6 (v:=.agg cs) hp (.agg cs cV h1 h2)
 |_=>first|rfl|simp[bL,eH,cC]at hp
def jM{σ:dz}{v:ad}(hp:bL v=true):VR σ v v:=by
 cases v with
 |tuple cs=>exact VR.tuple' (LR.qA (λv=>zV) (show cs.toList.all eH=true from hp))
 |iface t v=>exact .iface t v v (zV hp)
 |_=>exact zV hp
def PG(i:Nat):List Nat->Bool
 |[]=>false
 |x::l=>Nat.beq x i||PG i l
def x8{i:Nat}{l:List Nat}:PG i l=true<->i∈l:=by
 induction l with
 |nil=>simp[PG]
 |cons x l ih=>simp only[PG,oA,fq,ih,eI];exact⟨λh=>h.imp Eq.symm id,λh=>h.imp Eq.symm id⟩
def sM(nt:Nat)(ng:List Nat):au->Bool
 |.tmp t=>Nat.blt t nt
 |.const v=>bL v
 |.global g=>PG g ng
 |.func _=>true
def BC(σ:dz)(ng:List Nat):Prop:=∀g,g∈ng->∃e,σ g=some ⟨g,0,e⟩
def BC.mono{σ σ':dz}{ng:List Nat}(hs:Sub σ σ')(h:BC σ ng):BC σ' ng:=λg hg=>let⟨e,he⟩:=h g hg;⟨e,hs _ _ he⟩
def oH(nt:Nat)(ng:List Nat)(o:am):Bool:=o.op.operands.toList.all (sM nt ng)&&(match o.dst with|some d=>Nat.blt d nt|none=>true)
def kb(o:am):Nat:=
 match o.op with
 |.move _|.assign _|.pick .. |.build .. |.nilCheck _|.unOp .. |.makeInterface .. |.slice .. |.fieldAddr .. |.field .. |.indexAddr .. |.index .. |.extract .. |.typeAssert .. =>0
 |.makeFunc (.func _) _ _=>0
 |.binOp op _ _ _ _=>match op with|.eql|.neq=>1|_=>0
 |.load .. |.lookup .. |.convert .. =>1
 |.call c=>match c.callee with|.builtin .len=>1|_=>3
 |.alloc _|.box .. |.buildSlice .. |.makeSlice .. =>2
 |_=>3
def aae(o:Option am):Nat:=match o with
 |some o=>(match o.dst with|some d=>d|none=>0)
 |none=>0
def Pr(id:Nat)(ops:Array am):Nat:=(id*128+ops.size)*4096+(aae ops[0]? +3*aae ops[ops.size-1]? +7*aae ops[ops.size/2]?)
def Ae(A:List Nat)(o:am):Nat:=o.after.toList.foldr (λe m=>if Region.binds .any e then Nat.lor (Nat.lor (2^ e.on) (A.getD e.on 0)) m else m) 0
def abn:List am->List Nat->List Nat
 |[],A=>A
 |o::os,A=>abn os (A++[Ae A o])
def QR(d:Option Tmp)(l:List Tmp):Bool:=match d with|some d=>PG d l|none=>false
def mT(ops:Array am)(o:am):List Tmp:=o.dst.toList++o.looksAt ops
structure J5 where
 i:Nat
 o:am
 early:Bool
def FG(ops:Array am)(A:List Nat):List J5->List (Nat×List Nat)->Bool
 |_,[]=>true
 |pre,(i,re)::kn=>
  match ops[i]? with
  |none=>false
  |some o=>
   let e:=Nat.blt (kb o) 3&& !QR o.dst (o.looksAt ops)&&pre.all λd=> !QR o.dst (mT ops d.o)
   pre.all (λd=> !Nat.beq d.i i)&&
   o.after.toList.all (λe=> !Region.binds .any e||pre.any λd=>Nat.beq d.i e.on)&&
   pre.all (λd=> !d.early||(Nat.testBit (A.getD i 0) d.i||(!QR d.o.dst (o.looksAt ops)&&(e||(!QR o.dst (mT ops d.o)&&(Nat.beq (kb d.o) 0||Nat.beq (kb d.o) 2||PG d.i re))))))&&
   (e||kn.all λk=>match ops[k.1]? with
     |some ok=>ok.after.toList.any λe=>Region.binds .any e&&pre.all λd=> !Nat.beq d.i e.on
     |none=>false)&&
   FG ops A (⟨i,o,e⟩::pre) kn
def aee(ops:Array am):Option (List (Nat×List Nat))->List (Nat×List Nat)
 |some pl=>pl
 |none=>(List.range ops.size).map λi=>(i,[])
def NJ(ops:Array am)(pl:List (Nat×List Nat)):Bool:=
 let A:=abn ops.toList []
 (List.range ops.size).all (λi=>match ops[i]? with
  |some o=>Nat.beq (A.getD i 0) (Ae A o)&&pl.any (λx=>Nat.beq x.1 i)&&(match o.op with|.select .. =>false|_=>true)
  |none=>false)&&
 FG ops A [] pl
def ku[ai](nt:Nat)(ng:List Nat):bU->Bool
 |.region id ops Ft=>ops.toList.all (oH nt ng)&&(!Ft||NJ ops (aee ops (ai.D id ops)))
 |.seq a b=>ku nt ng a&&ku nt ng b
 |.cond c a b=>sM nt ng c&&ku nt ng a&&ku nt ng b
 |.block _ b=>ku nt ng b
 |.loop b=>ku nt ng b
 |.scope b=>ku nt ng b
 |.rangeFunc f ps aC4 bd=>sM nt ng f&&ps.toList.all (λt=>Nat.blt t nt)&&ku nt ng aC4&&ku nt ng bd
 |_=>true
def Sx[ai](σ:dz)(nt:Nat)(c:bU):Prop:=BC σ ai.ng/\ku nt ai.ng c=true
def Sx.mono[ai]{σ σ':dz}{nt:Nat}{c:bU}(hs:Sub σ σ')(h:Sx σ nt c):Sx σ' nt c:=⟨h.1.mono hs,h.2⟩
section
variable [ai]
def dy(R:ai.Fr)(t:Nat):ad:=ai.I5 R t
def Qm(R:ai.Fr)(t:Nat)(v:ad):ai.Fr:=ai.abU R t v
def iU(R:ai.Fr)(d:Option Tmp)(v:ad):ai.Fr:=match d with|some t=>Qm R t v|none=>R
def Be(R:ai.Fr)(t:Nat)(v:ad):dy (Qm R t v) t=v:=ai.oX R t v
def xT(R:ai.Fr){t u:Nat}(v:ad)(h:t≠u):dy (Qm R t v) u=dy R u:=ai.iL R t u v h
def fz(nt:Nat)(σ:dz)(R:ai.Fr)(tmps:Array ad):Prop:=tmps.size=nt/\∀t,t<nt->VR σ (dy R t) (tmps.getD t aj)
def fz.mono{nt:Nat}{σ σ':dz}(hs:Sub σ σ'){R:ai.Fr}{tmps:Array ad}(h:fz nt σ R tmps):fz nt σ' R tmps:=
 ⟨h.1,λt ht=>(h.2 t ht).mono hs⟩
def fz.set{nt:Nat}{σ:dz}{R:ai.Fr}{tmps:Array ad}(h:fz nt σ R tmps)(d:Nat){v v':ad}(hv:VR σ v v'):
 fz nt σ (Qm R d v) (tmps.setIfInBounds d v'):=by
 refine⟨by simp[h.1],λt ht=>?_⟩;by_cases hd:d=t
 ·subst hd;rw[Be];have:d<tmps.size:=by rw[h.1];exact ht
  simpa[II,this]using hv
 ·rw[xT _ _ hd];have:=h.2 t ht;simpa[E1 hd]using this
def fz.put{nt:Nat}{σ:dz}{R:ai.Fr}{a:bw}(h:fz nt σ R a.tmps)(d:Option Tmp){v v':ad}(hv:VR σ v v'):
 fz nt σ (iU R d v) (a.put d v').tmps:=by
 cases d with
 |none=>exact h
 |some d=>exact h.set d hv
@[simp] theorem tC (a:bw) (d:Option Tmp) (v:ad):(a.put d v).defers=a.defers:=by cases d<;>rfl
def ER(σ:dz)(es iW:List bD):Prop:=
 es.length=iW.length/\∀(i:Nat) (e e':bD),es[i]? =some e->iW[i]? =some e'->VR σ e.key e'.key/\VR σ e.val e'.val/\e.born=e'.born
def ER.mono{σ σ':dz}(hs:Sub σ σ'){es iW:List bD}(h:ER σ es iW):ER σ' es iW:=
 ⟨h.1,λi e e' a b=>let⟨x,y,z⟩:=h.2 i e e' a b;⟨x.mono hs,y.mono hs,z⟩⟩
def pA(σ:dz)(h:Array sx)(g:zY):dI->Prop
 |.cells cs=>∃c t fr,h[g.B]? =some (.cells c t fr)/\(g.s<g.e->fr=(0,0))/\g.s+cs.length<=g.e/\g.e<=c.size/\
  ∀(i:Nat) (v:ad),cs[i]? =some v->∃v',c[g.s+i]? =some v'/\VR σ v v'
 |.ro cs=>∃c t fr,h[g.B]? =some (.cells c t fr)/\g.s+cs.length<=g.e/\
  ∀(i:Nat) (v:ad),cs[i]? =some v->∃v',c[g.s+i]? =some v'/\VR σ v v'
 |.map es nW=>g.s=0/\g.e=1/\∃iW:Array bD,h[g.B]? =some (.map iW nW)/\ER σ es iW.toList
 |.loop st qU R nt ps aC4 bd=>g.s=0/\g.e=1/\∃r:Loop,h[g.B]? =some (.loop r)/\r.state=st/\r.pending=qU/\fz nt σ R r.tmps/\r.params=ps/\r.assign=aC4/\r.body=bd/\Sx σ nt aC4/\Sx σ nt bd/\ps.toList.all (λt=>Nat.blt t nt)=true
 |.rh s pos=>g.s=0/\g.e=1/\h[g.B]? =some (.stringIter s pos)
 |.tc t cs=>g.s=0/\0<g.e/\(g.e<=maxLen/\(ai.ex t=true->cs.length=g.e))/\∃c,h[g.B]? =some (.cells c t (0,0))/\cs.length<=g.e/\g.e=c.size/\
  ∀(i:Nat) (v:ad),cs[i]? =some v->∃v',c[i]? =some v'/\VR σ v v'
def pA.mono{σ σ':dz}(hs:Sub σ σ'){h:Array sx}{g:zY}{o:dI}(k:pA σ h g o):pA σ' h g o:=by
 cases o with
 |cells cs=>obtain⟨c,t,fr,h1,h0,h2,h3,h4⟩:=k;exact⟨c,t,fr,h1,h0,h2,h3,λi v hv=>let⟨v',a,b⟩:=h4 i v hv;⟨v',a,b.mono hs⟩⟩
 |ro cs=>obtain⟨c,t,fr,h1,h2,h4⟩:=k;exact⟨c,t,fr,h1,h2,λi v hv=>let⟨v',a,b⟩:=h4 i v hv;⟨v',a,b.mono hs⟩⟩
 |map es nW=>obtain⟨a,b,iW,h1,h2⟩:=k;exact⟨a,b,iW,h1,h2.mono hs⟩
 |loop st qU R nt ps aC4 bd=>obtain⟨a,b,r,h1,h2,h3,h4,h5,h6,h7,h8,h9,Ks⟩:=k;exact⟨a,b,r,h1,h2,h3,h4.mono hs,h5,h6,h7,h8.mono hs,h9.mono hs,Ks⟩
 |rh s pos=>exact k
 |tc t cs=>obtain⟨a1,a2,a3,c,h1,h2,h3,h4⟩:=k;exact⟨a1,a2,a3,c,h1,h2,h3,λi v hv=>let⟨v',a,b⟩:=h4 i v hv;⟨v',a,b.mono hs⟩⟩
def pA.same{σ:dz}{h h':Array sx}{g:zY}{o:dI}(k:pA σ h g o)(e:h'[g.B]? =h[g.B]?):pA σ h' g o:=by
 cases o with
 |cells cs=>obtain⟨c,t,fr,h1,h2⟩:=k;exact⟨c,t,fr,e.trans h1,h2⟩
 |ro cs=>obtain⟨c,t,fr,h1,h2⟩:=k;exact⟨c,t,fr,e.trans h1,h2⟩
 |map es nW=>obtain⟨a,b,iW,h1,h2⟩:=k;exact⟨a,b,iW,e.trans h1,h2⟩
 |loop st qU R nt ps aC4 bd=>obtain⟨a,b,r,h1,h2⟩:=k;exact⟨a,b,r,e.trans h1,h2⟩
 |rh s pos=>obtain⟨a,b,h1⟩:=k;exact⟨a,b,e.trans h1⟩
 |tc t cs=>obtain⟨a1,a2,a3,c,h1,h2⟩:=k;exact⟨a1,a2,a3,c,e.trans h1,h2⟩
def ZQ:dI->Bool
 |.ro _=>false
 |_=>true
def Ng{o:dI}(h:∀cs,o≠ .ro cs):ZQ o=true:=by cases o<;>first|rfl|exact absurd rfl (h _)
def rwL{o o2:dI}(h:∀cs,o≠ .ro cs):(ZQ o||ZQ o2)=true:=by rw[Ng h];rfl
def rwR{o o2:dI}(h:∀cs,o≠ .ro cs):(ZQ o2||ZQ o)=true:=by rw[Ng h];simp
structure bI (σ:dz) (W:AW) (h:Array sx):Prop where
 free:∀b,W.next<=b->W.get b=none
 qL:∀b g,σ b=some g->b<W.next/\g.B<h.size
 obj:∀b o g,W.get b=some o->σ b=some g->pA σ h g o
 vF:∀b1 b2 o1 o2 g1 g2,b1≠b2->W.get b1=some o1->W.get b2=some o2->σ b1=some g1->σ b2=some g2->(ZQ o1||ZQ o2)=true->g1.B≠g2.B\/g1.e<=g2.s\/g2.e<=g1.s
def Mut(σ:dz)(W:AW)(B:Nat):Prop:=∃b g,σ b=some g/\g.B=B/\∀cs,W.get b≠some (.ro cs)
def QS{w w':ar}{a:bg}(h:w'.heap[a.block]? =w.heap[a.block]?):w'.frozen? a=w.frozen? a:=by unfold World.frozen?;rw[h]
def pA.ap1{σ:dz}{w:ar}{g:zY}{o:dI}(k:pA σ w.heap g o)(uK:∀cs,o≠ .ro cs)(fp:g.s<g.e){a:bg}(ha:a.block=g.B):w.frozen? a=false:=by
 unfold World.frozen?;rw[ha];cases o with
 |cells cs=>obtain⟨c,t,fr,h1,h0,_⟩:=k;rw[h1,h0 fp];simp
 |ro cs=>exact absurd rfl (uK cs)
 |map es nW=>obtain⟨_,_,iW,h1,_⟩:=k;rw[h1]
 |loop st qU R nt ps aC4 bd=>obtain⟨_,_,r,h1,_⟩:=k;rw[h1]
 |rh s pos=>obtain⟨_,_,h1⟩:=k;rw[h1]
 |tc t cs=>obtain⟨_,_,_,c,h1,_⟩:=k;rw[h1];simp
structure fT (σ:dz) (W:AW) (w:ar) (σ':dz) (W':AW) (w':ar):Prop where
 sub:Sub σ σ'
 ro:∀b cs,W.get b=some (.ro cs)->W'.get b=some (.ro cs)
 size:w.heap.size<=w'.heap.size
 os:w'.os=w.os
 tape:w'.tape=w.tape
 output:w'.output=w.output
 keep:∀B,B<w.heap.size->¬Mut σ W B->w'.heap[B]? =w.heap[B]?
 ghost:∀b o,W.get b=some o->σ b=none->W'.get b=some o/\σ' b=none
 grow:∀b g,σ' b=some g->g.B<w.heap.size->σ b=some g\/Mut σ W g.B
def fT.XL{σ σ':dz}{W W':AW}{w w':ar}(h:fT σ W w σ' W' w'):∀B,B<w.heap.size->Mut σ' W' B->Mut σ W B:=by
 rintro B hB ⟨b,g,hg,rfl,uK⟩;rcases h.grow b g hg hB with h1|h1
 ·exact⟨b,g,h1,rfl,λcs hc=>uK cs (h.ro b cs hc)⟩
 ·exact h1
def fT.refl(σ:dz)(W:AW)(w:ar):fT σ W w σ W w:=⟨.refl _,λ_ _ h=>h,aQ _,rfl,rfl,rfl,λ_ _ _=>rfl,λ_ _ h k=>⟨h,k⟩,λ_ _ h _=>.inl h⟩
def fT.trans{σ σ' OL:dz}{W W' W'':AW}{w w' w'':ar}(h:fT σ W w σ' W' w')(k:fT σ' W' w' OL W'' w''):fT σ W w OL W'' w'':=
 ⟨h.sub.trans k.sub,λb cs x=>k.ro b cs (h.ro b cs x),eS h.size k.size,k.os.trans h.os,k.tape.trans h.tape,k.output.trans h.output,
  λB hB hm=>(k.keep B (ff hB h.size) (λm=>hm (h.XL B hB m))).trans (h.keep B hB hm),
  λb o h1 h2=>let⟨a1,a2⟩:=h.ghost b o h1 h2;k.ghost b o a1 a2,
  λb g hg hB=>by
   rcases k.grow b g hg (ff hB h.size)with h1|h1
   ·exact h.grow b g h1 hB
   ·exact .inr (h.XL _ hB h1)⟩
def fT.drawn(σ:dz)(W:AW)(w:ar)(n:Nat):fT σ W w σ W {w with drawn:=n}:=⟨.refl _,λ_ _ h=>h,aQ _,rfl,rfl,rfl,λ_ _ _=>rfl,λ_ _ h k=>⟨h,k⟩,λ_ _ h _=>.inl h⟩
section
variable {σ:dz} {W:AW} {w w':ar}
def bI.XL(h:bI σ W w.heap){b:Nat}{o o':dI}{g:zY}(hb:W.get b=some o)(uK:∀cs,o≠ .ro cs)(SF:∀cs,o'≠ .ro cs)(hg:σ b=some g)
 (vZ:w'.heap.size=w.heap.size)(hos:w'.os=w.os)(htp:w'.tape=w.tape)(Gd:w'.output=w.output)
 (mD:∀B,B≠g.B->w'.heap[B]? =w.heap[B]?)
 (Bw:pA σ w'.heap g o')
 (wM:∀b2 o2 g2,b2≠b->W.get b2=some o2->σ b2=some g2->g2.B=g.B->(g.e<=g2.s\/g2.e<=g.s)->pA σ w.heap g2 o2->pA σ w'.heap g2 o2):
 bI σ (W.put b o') w'.heap/\fT σ W w σ (W.put b o') w':=by
 have fp:∀{c:Nat},c≠b->(W.put b o').get c=W.get c:=λhc=>W.ay _ (bc hc)
 refine⟨⟨?_,?_,?_,?_⟩,⟨.refl _,?_,?_,hos,htp,Gd,?_,?_,?_⟩⟩
 ·intro c hc;have hbn:=(h.qL b g hg).1;have yT:W.next<=c:=hc;rw[fp (by omega)];exact h.free c yT
 ·intro c k hk;have:=h.qL c k hk;exact⟨this.1,by rw[vZ];exact this.2⟩
 ·intro c o2 g2 hc hk;by_cases Ll:c=b
  ·subst Ll;rw[AW.aW]at hc;injection hc with hc;subst hc;rw[hg]at hk;injection hk with hk;subst hk;exact Bw
  ·rw[fp Ll]at hc;by_cases hB:g2.B=g.B
   ·refine wM c o2 g2 Ll hc hk hB ?_ (h.obj c o2 g2 hc hk);rcases h.vF c b o2 o g2 g Ll hc hb hk hg (rwR uK)with h1|h1|h1
    ·exact absurd hB h1
    ·exact .inr h1
    ·exact .inl h1
   ·exact(h.obj c o2 g2 hc hk).same (mD _ hB)
 ·intro b1 b2 o1 o2 g1 g2 auF h1 h2 k1 k2 hr;have e1:∃o1',W.get b1=some o1'/\ZQ o1'=ZQ o1:=by
   by_cases hx:b1=b
   ·subst hx;rw[AW.aW]at h1;injection h1 with h1;subst h1;exact⟨o,hb,by rw[Ng uK,Ng SF]⟩
   ·rw[fp hx]at h1;exact⟨o1,h1,rfl⟩
  have e2:∃o2',W.get b2=some o2'/\ZQ o2'=ZQ o2:=by
   by_cases hx:b2=b
   ·subst hx;rw[AW.aW]at h2;injection h2 with h2;subst h2;exact⟨o,hb,by rw[Ng uK,Ng SF]⟩
   ·rw[fp hx]at h2;exact⟨o2,h2,rfl⟩
  obtain⟨o1',e1,q1⟩:=e1;obtain⟨o2',e2,q2⟩:=e2;exact h.vF b1 b2 o1' o2' g1 g2 auF e1 e2 k1 k2 (by rw[q1,q2];exact hr)
 ·intro c cs hc;by_cases Ll:c=b
  ·subst Ll;rw[hb]at hc;injection hc with hc;exact absurd hc (uK cs)
  ·rw[fp Ll];exact hc
 ·rw[vZ];exact aQ _
 ·intro B hB hm;by_cases hBg:B=g.B
  ·subst hBg;exact absurd ⟨b,g,hg,rfl,λcs hc=>by rw[hb]at hc;injection hc with hc;exact uK cs hc⟩ hm
  ·exact mD B hBg
 ·intro c o2 hc hk;have Ll:c≠b:=λe=>by subst e;rw[hg]at hk;cases hk
  exact⟨by rw[fp Ll];exact hc,hk⟩
 ·exactλc k hk _=>.inl hk
def bI.ade(h:bI σ W w.heap){b:Nat}{o o':dI}{g:zY}(hb:W.get b=some o)(uK:∀cs,o≠ .ro cs)(SF:∀cs,o'≠ .ro cs)(hg:σ b=some g)
 (vZ:w'.heap.size=w.heap.size)(hos:w'.os=w.os)(htp:w'.tape=w.tape)(Gd:w'.output=w.output)
 (mD:∀B,B≠g.B->w'.heap[B]? =w.heap[B]?)
 {c c':Array ad}{t:af}(hc:w.heap[g.B]? =some (.cells c t (0,0)))(yT:w'.heap[g.B]? =some (.cells c' t (0,0)))(sW:c'.size=c.size)
 (zx:∀i,i<g.s\/g.e<=i->c'[i]? =c[i]?)(Bw:pA σ w'.heap g o'):
 bI σ (W.put b o') w'.heap/\fT σ W w σ (W.put b o') w':=by
 refine h.XL hb uK SF hg vZ hos htp Gd mD Bw ?_
 ·intro b2 o2 g2 fp h2 k2 hB hd gH;cases o2 with
  |cells Ls=>obtain⟨c0,t0,fr0,e1,e0,e2,e3,e4⟩:=gH;rw[hB,hc]at e1;injection e1 with e1;injection e1 with e1 e1';subst e1;refine⟨c',t,(0,0),by rw[hB];exact yT,λ_=>rfl,e2,by omega,λi v hv=>?_⟩;obtain⟨v',f1,f2⟩:=e4 i v hv;have hi:i<Ls.length:=(dh.1 hv).1;exact⟨v',by rw[zx _ (by omega)];exact f1,f2⟩
  |ro Ls=>obtain⟨c0,t0,fr,e1,e2,e3⟩:=gH;rw[hB,hc]at e1;injection e1 with e1;injection e1 with e1 e1';subst e1;refine⟨c',t,(0,0),by rw[hB];exact yT,e2,λi v hv=>?_⟩;have hi:i<Ls.length:=(dh.1 hv).1;obtain⟨v',f1,f2⟩:=e3 i v hv;exact⟨v',by rw[zx _ (by omega)];exact f1,f2⟩
  |map es nW=>obtain⟨_,_,iW,e1,_⟩:=gH;rw[hB,hc]at e1;cases e1
  |loop st qU R nt ps aC4 bd=>obtain⟨_,_,r,e1,_⟩:=gH;rw[hB,hc]at e1;cases e1
  |rh s pos=>obtain⟨_,_,e1⟩:=gH;rw[hB,hc]at e1;cases e1
  |tc t2 Ls=>obtain⟨a1,a2,a3,c0,e1,e2,e3,e4⟩:=gH;rw[hB,hc]at e1;injection e1 with e1;injection e1 with e1 e1';subst e1;subst e1';refine⟨a1,a2,a3,c',by rw[hB];exact yT,e2,by omega,λi v hv=>?_⟩;obtain⟨v',f1,f2⟩:=e4 i v hv;have hi:i<Ls.length:=(dh.1 hv).1;exact⟨v',by rw[zx _ (by omega)];exact f1,f2⟩
def bI.write(h:bI σ W w.heap){b:Nat}{cs cV:List ad}{g:zY}(hb:W.get b=some (.cells cs))(hg:σ b=some g)
 (vZ:w'.heap.size=w.heap.size)(hos:w'.os=w.os)(htp:w'.tape=w.tape)(Gd:w'.output=w.output)
 (mD:∀B,B≠g.B->w'.heap[B]? =w.heap[B]?)
 {c c':Array ad}{t:af}(hc:w.heap[g.B]? =some (.cells c t (0,0)))(yT:w'.heap[g.B]? =some (.cells c' t (0,0)))(sW:c'.size=c.size)
 (zx:∀i,i<g.s\/g.e<=i->c'[i]? =c[i]?)(dv:g.s+cV.length<=g.e)
 (nP:∀(i:Nat) (v:ad),cV[i]? =some v->∃v',c'[g.s+i]? =some v'/\VR σ v v'):
 bI σ (W.put b (.cells cV)) w'.heap/\fT σ W w σ (W.put b (.cells cV)) w':=by
 refine h.ade hb (λ_=>by simp) (λ_=>by simp) hg vZ hos htp Gd mD hc yT sW zx ?_
 ·obtain⟨c0,t0,fr0,h1,h0,h2,h3,h4⟩:=h.obj b _ g hb hg;rw[hc]at h1;injection h1 with h1;injection h1 with h1 HF;subst h1;exact⟨c',t,(0,0),yT,λ_=>rfl,dv,by omega,nP⟩
def bI.aaJ(h:bI σ W w.heap){b:Nat}{t0:af}{cs cV:List ad}{g:zY}(hb:W.get b=some (.tc t0 cs))(hg:σ b=some g)
 (vZ:w'.heap.size=w.heap.size)(hos:w'.os=w.os)(htp:w'.tape=w.tape)(Gd:w'.output=w.output)
 (mD:∀B,B≠g.B->w'.heap[B]? =w.heap[B]?)
 {c c':Array ad}(hc:w.heap[g.B]? =some (.cells c t0 (0,0)))(yT:w'.heap[g.B]? =some (.cells c' t0 (0,0)))(sW:c'.size=c.size)
 (dv:cV.length=cs.length)
 (nP:∀(i:Nat) (v:ad),cV[i]? =some v->∃v',c'[i]? =some v'/\VR σ v v'):
 bI σ (W.put b (.tc t0 cV)) w'.heap/\fT σ W w σ (W.put b (.tc t0 cV)) w':=by
 obtain⟨a1,a2,a3,c0,h1,h2,h3,h4⟩:=h.obj b _ g hb hg;rw[hc]at h1;injection h1 with h1;injection h1 with h1 HF;subst h1;refine h.ade hb (λ_=>by simp) (λ_=>by simp) hg vZ hos htp Gd mD hc yT sW (λi hi=>?_) ⟨a1,a2,⟨a3.1,λhx=>by rw[dv];exact a3.2 hx⟩,c',yT,by omega,by omega,nP⟩;rw[An (by omega),An (by omega)]
def bI.setObj(h:bI σ W w.heap){b:Nat}{o o':dI}{g:zY}{x:sx}(hb:W.get b=some o)(uK:∀cs,o≠ .ro cs)(hg:σ b=some g)(nh:g.s=0/\g.e=1)
 (hnc:∀c t fr,w.heap[g.B]? ≠some (.cells c t fr))
 (Bw:pA σ (w.heap.setIfInBounds g.B x) g o')(SF:∀cs,o'≠ .ro cs:=by intro _ hx;cases hx):
 bI σ (W.put b o') (w.heap.setIfInBounds g.B x)/\fT σ W w σ (W.put b o') {w with heap:=w.heap.setIfInBounds g.B x}:=by
 refine h.XL (w':={w with heap:=w.heap.setIfInBounds g.B x}) hb uK SF hg (by simp) rfl rfl rfl (λB hB=>?_) Bw ?_
 ·simp only[II];rw[ap (bc hB)]
 ·intro b2 o2 g2 _ _ _ hB hd gH;exfalso;cases o2 with
  |cells Ls=>obtain⟨c0,t0,fr0,e1,_⟩:=gH;rw[hB]at e1;exact hnc _ _ _ e1
  |ro Ls=>obtain⟨c0,t0,fr,e1,_⟩:=gH;rw[hB]at e1;exact hnc _ _ _ e1
  |map es nW=>obtain⟨_,_,_⟩:=gH;omega
  |loop st qU R nt ps aC4 bd=>obtain⟨_,_,_⟩:=gH;omega
  |rh s pos=>obtain⟨_,_,_⟩:=gH;omega
  |tc t2 Ls=>obtain⟨_,_,_,c0,e1,_⟩:=gH;rw[hB]at e1;exact hnc _ _ _ e1
def cu(σ:dz)(b:Nat)(g:zY):dz:=λc=>if c=b then some g else σ c
def dR{b:Nat}{g:zY}(hb:σ b=none):Sub σ (cu σ b g):=λc k hc=>by
 unfold cu;split
 ·rename_i e;subst e;rw[hb]at hc;cases hc
 ·exact hc
def dN{b:Nat}{g:zY}:cu σ b g b=some g:=by simp[cu]
def bI.fresh(h:bI σ W w.heap):σ W.next=none:=by
 cases hk:σ W.next with
 |none=>rfl
 |some g=>have:=(h.qL _ _ hk).1;omega
def bI.alloc(h:bI σ W w.heap){o:dI}{x:sx}{e:Nat}
 (Bw:pA (cu σ W.next ⟨w.heap.size,0,e⟩) (w.heap.push x) ⟨w.heap.size,0,e⟩ o)(uK:∀cs,o≠ .ro cs:=by intro _ hx;cases hx):
 bI (cu σ W.next ⟨w.heap.size,0,e⟩) (W.add o) (w.heap.push x)/\fT σ W w (cu σ W.next ⟨w.heap.size,0,e⟩) (W.add o) {w with heap:=w.heap.push x}:=by
 have ET:=h.fresh;have hs:Sub σ (cu σ W.next ⟨w.heap.size,0,e⟩):=dR ET;have gH:∀B,B<w.heap.size->(w.heap.push x)[B]? =w.heap[B]? :=λB hB=>by rw[xS];rw[bM]
 have fp:∀{c:Nat},c≠W.next->(W.add o).get c=W.get c:=λhc=>W.aE _ (bc hc)
 have tL:∀c g,cu σ W.next ⟨w.heap.size,0,e⟩ c=some g->(c=W.next/\g=⟨w.heap.size,0,e⟩)\/(c≠W.next/\σ c=some g):=λc g hc=>by
  unfold cu at hc;split at hc
  ·rename_i hx;injection hc with hc;exact .inl ⟨hx,hc.symm⟩
  ·rename_i hx;exact .inr ⟨hx,hc⟩
 refine⟨⟨?_,?_,?_,?_⟩,⟨hs,?_,?_,rfl,rfl,rfl,?_,?_,?_⟩⟩
 ·intro c hc;have yT:W.next+1<=c:=hc;rw[fp (by omega)];exact h.free c (by omega)
 ·intro c g hc;rcases tL c g hc with⟨rfl,rfl⟩|⟨_,h2⟩
  ·simp[AW.av]
  ·have:=h.qL c g h2;simp[AW.av];omega
 ·intro c o2 g hc hk;rcases tL c g hk with⟨rfl,rfl⟩|⟨h1,h2⟩
  ·rw[AW.aI]at hc;injection hc with hc;subst hc;exact Bw
  ·rw[fp h1]at hc;exact((h.obj c o2 g hc h2).mono hs).same (gH _ (h.qL c g h2).2)
 ·intro b1 b2 o1 o2 g1 g2 S3 h1 h2 k1 k2 hr;rcases tL b1 g1 k1 with⟨rfl,rfl⟩|⟨x1,y1⟩
  ·rcases tL b2 g2 k2 with⟨rfl,rfl⟩|⟨x2,y2⟩
   ·exact absurd rfl S3
   ·have:=(h.qL _ _ y2).2;exact .inl (by simp only[ne_eq];omega)
  ·rcases tL b2 g2 k2 with⟨rfl,rfl⟩|⟨x2,y2⟩
   ·have:=(h.qL _ _ y1).2;exact .inl (by simp only[ne_eq];omega)
   ·rw[fp x1]at h1;rw[fp x2]at h2;exact h.vF _ _ _ _ _ _ S3 h1 h2 y1 y2 hr
 ·intro b cs hb;by_cases hx:b=W.next
  ·subst hx;rw[h.free _ (aQ _)]at hb;cases hb
  ·rw[fp hx];exact hb
 ·simp
 ·intro B hB _;exact gH B hB
 ·intro c o2 hc hk;have hcn:c≠W.next:=λe=>by subst e;rw[h.free _ (aQ _)]at hc;cases hc
  refine⟨by rw[fp hcn];exact hc,?_⟩;unfold cu;rw[ap hcn];exact hk
 ·intro c g hk hB;rcases tL c g hk with⟨rfl,rfl⟩|⟨h1,h2⟩
  ·simp at hB
  ·exact .inl h2
end
end
section
variable [ai]
def dH(B o j:Nat):(⟨B,o,none⟩:bg).add j=⟨B,o+j,none⟩:=by
 unfold Addr.add;split
 ·rename_i h;subst h;rfl
 ·rfl
def tN(a:bg)(j:Nat)(h:a.spot=none):(a.add j).spot=none:=by unfold Addr.add;split<;>simp[h]
def jf(a:bg)(j:Nat):(a.add j).block=a.block:=by unfold Addr.add;split<;>rfl
def uV(a:bg)(j:Nat):(a.add j).off=a.off+j:=by
 unfold Addr.add;split
 ·rename_i h;subst h;rfl
 ·rfl
def ZG(P:ag)(t:af):Option Bool:=(P.underlying t).map λd=>match d with|.struct _|.array .. =>true|_=>false
def oD(P:ag)(t:af):Option Nat:=(P.info? t).map (·.size)
def Gg{P:ag}{t:af}{n:Nat}(h:oD P t=some n):∃i,P.info? t=some i/\i.size=n/\P.cellsOf t=n:=by
 unfold oD at h;cases hi:P.info? t with
 |none=>rw[hi]at h;cases h
 |some i=>rw[hi]at h;simp at h;exact⟨i,rfl,h,by simp[Program.cellsOf,hi,h]⟩
def bT{P:ag}{t:af}{n:Nat}(h:oD P t=some n)(w:ar):(sizeOf t).run P w=.ok n w:=by
 obtain⟨i,hi,_,h3⟩:=Gg h;have:(sizeOf t).run P w=.ok (P.cellsOf t) w:=by simp[sizeOf,typeInfo,hi,Program.cellsOf]
 rw[this,h3]
def xi{P:ag}{t:af}{b:Bool}(h:ZG P t=some b)(w:ar):(isAgg t).run P w=.ok b w:=by
 unfold ZG at h;cases hu:P.underlying t with
 |none=>rw[hu]at h;cases h
 |some d=>rw[hu]at h;simp only[dA,jd]at h;subst h;cases d<;>simp[isAgg,cm hu]
def aH(W:AW)(b:Nat):Option (List ad):=match W.get b with|some (.cells cs)=>some cs|some (.ro cs)=>some cs|some (.tc _ cs)=>some cs|_=>none
section
variable {P:ag} {σ:dz} {W:AW} {w:ar}
def De(h:bI σ W w.heap){b:Nat}{cs:List ad}{g:zY}(hc:aH W b=some cs)(hg:σ b=some g){i:Nat}{v:ad}(hv:cs[i]? =some v):
 ∃v',w.cell? ⟨g.B,g.s+i,none⟩=some v'/\VR σ v v':=by
 unfold aH at hc;split at hc
 ·rename_i cV dT;injection hc with hc;subst hc;obtain⟨c,t,fr,h1,h0,h2,h3,h4⟩:=h.obj b _ g dT hg;obtain⟨v',f1,f2⟩:=h4 i v hv;exact⟨v',by simp[World.cell?,h1,f1],f2⟩
 ·rename_i cV dT;injection hc with hc;subst hc;obtain⟨c,t,fr,h1,h2,h4⟩:=h.obj b _ g dT hg;obtain⟨v',f1,f2⟩:=h4 i v hv;exact⟨v',by simp[World.cell?,h1,f1],f2⟩
 ·rename_i t cV dT;injection hc with hc;subst hc;obtain⟨a1,a2,a3,c,h1,h2,h3,h4⟩:=h.obj b _ g dT hg;obtain⟨v',f1,f2⟩:=h4 i v hv;exact⟨v',by simp[World.cell?,h1,a1,f1],f2⟩
 ·cases hc
def aeG{α:Type}(l:List α):Nat->List α:=
 List.rec (motive:=λ_=>Nat->List α) (λ_=>[]) (λv t ih n=>Nat.rec (motive:=λ_=>List α) (v::t) (λm _=>ih m) n) l
def Pm{α:Type}(l:List α):Nat->Option (List α):=
 List.rec (motive:=λ_=>Nat->Option (List α)) (λn=>Nat.rec (motive:=λ_=>Option (List α)) (some []) (λ_ _=>none) n)
  (λv _ ih n=>Nat.rec (motive:=λ_=>Option (List α)) (some []) (λm _=>Option.rec (motive:=λ_=>Option (List α)) none (λr=>some (v::r)) (ih m)) n) l
def ada{α:Type}(l:List α):∀n,aeG l n=l.drop n:=by
 induction l with
 |nil=>intro n;simp[aeG]
 |cons v l ih=>intro n;cases n with|zero=>rfl|succ n=>exact(ih n).trans (by simp)
def XT{α:Type}(l:List α):∀n,Pm l n=if(l.take n).length=n then some (l.take n)else none:=by
 induction l with
 |nil=>intro n;cases n with|zero=>rfl|succ n=>simp[Pm]
 |cons v l ih=>
  intro n;cases n with
  |zero=>rfl
  |succ n=>
   show Option.rec (motive:=λ_=>Option (List α)) none (λr=>some (v::r)) (Pm l n)=_;rw[ih n];by_cases h:(l.take n).length=n
   ·rw[an h,an (by simp only[Pq,cQ,h])];simp
   ·rw[ap h,ap (by simp only[Pq,cQ];omega)]
def pH(W:AW)(b off n:Nat):Option (List ad):=
 match aH W b with
 |some cs=>Pm (aeG cs off) n
 |none=>none
def kh(W:AW)(b off n:Nat):pH W b off n=match aH W b with
 |some cs=>let l:=(cs.drop off).take n;if l.length=n then some l else none
 |none=>none:=by
 unfold pH;cases aH W b with
 |none=>rfl
 |some cs=>simp only[ada,XT]
def E7(h:bI σ W w.heap){b off n:Nat}{l:List ad}{g:zY}(hr:pH W b off n=some l)(hg:σ b=some g):
 ∃l',LR σ l l'/\l.length=n/\(∀j v,l'[j]? =some v->w.cell? ⟨g.B,g.s+off+j,none⟩=some v)/\(loadCells ⟨g.B,g.s+off,none⟩ n).run P w=.ok l'.toArray w:=by
 rw[kh]at hr;split at hr
 ·rename_i cs hc;simp only at hr;split at hr
  ·rename_i dv;injection hr with hr;have dT:∀j v,l[j]? =some v->∃v',w.cell? ⟨g.B,g.s+off+j,none⟩=some v'/\VR σ v v':=by
    intro j v hj;rw[<-hr,mm]at hj;split at hj
    ·rw[p9]at hj;obtain⟨v',a,b⟩:=De h hc hg hj;exact⟨v',by rw[iq];exact a,b⟩
    ·cases hj
   have hln:l.length=n:=by rw[<-hr];exact dv
   let f:Nat->ad:=λj=>(w.cell? ⟨g.B,g.s+off+j,none⟩).getD aj
   refine⟨(List.range n).map f,⟨by simp[hln],λj v v' a b=>?_⟩,hln,?_,?_⟩
   ·have hj:j<n:=by rw[<-hln];exact(dh.1 a).1
    obtain⟨u,h1,h2⟩:=dT j v a;simp[hj,f,h1]at b;subst b;exact h2
   ·intro j v hj;have hjn:j<n:=by have:=(dh.1 hj).1;simpa using this
    obtain⟨u,h1,h2⟩:=dT j l[j] (bN (by omega));simp[hjn,f,h1]at hj;subst hj;exact h1
   ·have:=run_loadCells (P:=P) w ⟨g.B,g.s+off,none⟩ n f (λj hj=>by rw[dH];obtain⟨u,h1,h2⟩:=dT j l[j] (bN (by omega));simp[f,h1]);exact this
  ·cases hr
 ·cases hr
def mh(P:ag)(W:AW)(t:af)(x:ad):Option ad:=
 match x with
 |.pointer (some a)=>match ZG P t with
  |some false=>match aH W a.block with
   |some cs=>ahb cs a.off
   |none=>none
  |some true=>match oD P t with
   |some n=>(pH W a.block a.off n).map λl=>.agg l.toArray
   |none=>none
  |none=>none
 |_=>none
def MT(h:bI σ W w.heap){t:af}{x x' v:ad}(ha:mh P W t x=some v)(hx:VR σ x x'):
 ∃v',(Instr.loadAt t x').run P w=.ok v' w/\VR σ v v':=by
 unfold mh at ha;split at ha
 ·rename_i a;cases hx with
  |ptr a g hg hs=>
   split at ha
   ·rename_i als;split at ha
    ·rename_i cs hc;rw[OE]at ha;obtain⟨v',h1,h2⟩:=De h hc hg ha;exact⟨v',by simp[Instr.loadAt,Instr.sureAddr,loadVar,xi als,h1],h2⟩
    ·cases ha
   ·rename_i als;split at ha
    ·rename_i n hn;cases hr:pH W a.block a.off n with
     |none=>rw[hr]at ha;cases ha
     |some l=>rw[hr]at ha;simp only[dA,jd]at ha;subst ha;obtain⟨l',h1,_,_,h3⟩:=E7 (P:=P) h hr hg;exact⟨.agg l'.toArray,by simp[Instr.loadAt,Instr.sureAddr,loadVar,xi als,bT hn,h3],VR.TV (by simpa using h1)⟩
    ·cases ha
   ·cases ha
 ·cases ha
def one(v:ad):Bool:=v.oneCell'
def amo{v v':ad}(h:VR σ v v'):one v'=one v:=by cases h<;>rfl
def Iu{l l':List ad}(h:LR σ l l')(ha:l.all one=true):∀v∈l',v.oneCell'=true:=by
 intro v hv;obtain⟨i,hi⟩:=List.getElem?_of_mem hv;have hil:i<l.length:=by rw[h.1];exact(dh.1 hi).1
 have:=h.2 i l[i] v (bN hil) hi;rw[show v.oneCell'=one v from rfl,amo this];exact db.1 ha _ (cD hil)
def iG(cs:List ad)(off:Nat)(vs:List ad):List ad:=cs.take off++vs++cs.drop (off+vs.length)
def amM:ad->Bool:=
 Value.rec (motive_1:=λ_=>Bool) (motive_2:=λ_=>PUnit) (motive_3:=λ_=>PUnit) (λ_=>true) (λ_ _=>true) (λ_ _=>true) (λ_ _ _=>true) (λ_=>true) (λ_=>true) (λ_ _ _=>true) (λ_=>true) (λ_=>true) (λ_ _ _ _ _=>true) true (λ_ _ _=>true) true (λ_ _=>false) (λ_ _=>false) (λ_ _=>.unit) .unit (λ_ _ _ _=>.unit)
def ah5(v:ad):amM v=one v:=by cases v<;>rfl
def GI(vs:List ad):List ad->Option (List ad):=
 List.rec (motive:=λ_=>List ad->Option (List ad)) (λcs=>some cs)
  (λv _ ih cs=>List.rec (motive:=λ_=>Option (List ad)) none (λ_ t _=>Bool.rec (motive:=λ_=>Option (List ad)) none (Option.rec (motive:=λ_=>Option (List ad)) none (λr=>some (v::r)) (ih t)) (amM v)) cs) vs
def Rq(vs:List ad):∀cs,GI vs cs=if vs.length<=cs.length/\vs.all one=true then some (vs++cs.drop vs.length)else none:=by
 induction vs with
 |nil=>intro cs;simp[GI]
 |cons v vs ih=>
  intro cs;cases cs with
  |nil=>simp[GI]
  |cons c t=>
   show Bool.rec (motive:=λ_=>Option (List ad)) none (Option.rec (motive:=λ_=>Option (List ad)) none (λr=>some (v::r)) (GI vs t)) (amM v)=_;rw[ih t,ah5];cases h1:one v with
   |false=>simp[h1]
   |true=>
    by_cases h:vs.length<=t.length/\vs.all one=true
    ·rw[an h,an (by simp only[cQ,dC,h1,h.2];exact⟨by omega,rfl⟩)];simp
    ·rw[ap h,ap (by simp only[cQ,dC,h1,il];exactλk=>h ⟨by omega,k.2⟩)]
def JQ(cs:List ad):Nat->List ad->Option (List ad):=
 List.rec (motive:=λ_=>Nat->List ad->Option (List ad)) (λn vs=>Nat.rec (motive:=λ_=>Option (List ad)) (GI vs []) (λ_ _=>none) n)
  (λc t ih n vs=>Nat.rec (motive:=λ_=>Option (List ad)) (GI vs (c::t)) (λm _=>Option.rec (motive:=λ_=>Option (List ad)) none (λr=>some (c::r)) (ih m vs)) n) cs
def FK(cs:List ad):∀(off:Nat) (vs:List ad),JQ cs off vs=if off+vs.length<=cs.length/\vs.all one=true then some (iG cs off vs)else none:=by
 induction cs with
 |nil=>
  intro off vs;cases off with
  |zero=>show GI vs []=_;rw[Rq];simp[iG]
  |succ n=>show(none:Option (List ad))=_;rw[ap (by simp)]
 |cons c t ih=>
  intro off vs;cases off with
  |zero=>show GI vs (c::t)=_;rw[Rq];simp[iG]
  |succ n=>
   show Option.rec (motive:=λ_=>Option (List ad)) none (λr=>some (c::r)) (JQ t n vs)=_;rw[ih n vs];have e:n+1+vs.length=(n+vs.length)+1:=by omega
   by_cases h:n+vs.length<=t.length/\vs.all one=true
   ·rw[an h,an ⟨by simp only[cQ];omega,h.2⟩];simp[iG,e]
   ·rw[ap h,ap (by simp only[cQ];exactλk=>h ⟨by omega,k.2⟩)]
def rR(W:AW)(b off:Nat)(vs:List ad):Option AW:=
 match W.get b with
 |some (.cells cs)=>(match JQ cs off vs with
  |some l=>some (W.put b (.cells l))
  |none=>none)
 |some (.tc t cs)=>(match JQ cs off vs with
  |some l=>some (W.put b (.tc t l))
  |none=>none)
 |_=>none
def Uy(W:AW)(b off:Nat)(vs:List ad):rR W b off vs=match W.get b with
 |some (.cells cs)=>if off+vs.length<=cs.length/\vs.all one=true then some (W.put b (.cells (iG cs off vs)))else none
 |some (.tc t cs)=>if off+vs.length<=cs.length/\vs.all one=true then some (W.put b (.tc t (iG cs off vs)))else none
 |_=>none:=by
 unfold rR;split
 ·rename_i cs sW;rw[FK];by_cases h:off+vs.length<=cs.length/\vs.all one=true
  ·rw[an h,an h]
  ·rw[ap h,ap h]
 ·rename_i t cs sW;rw[FK];by_cases h:off+vs.length<=cs.length/\vs.all one=true
  ·rw[an h,an h]
  ·rw[ap h,ap h]
 ·rfl
def o8(c:List ad)(o:Nat)(vs:List ad)(h:o+vs.length<=c.length)(i:Nat):
 (c.take o++vs++c.drop (o+vs.length))[i]? =if o<=i/\i<o+vs.length then vs[i-o]? else c[i]? :=by
 rw[iR,wW];simp only[cX];have hm:min o c.length=o:=by omega
 rw[hm];split
 ·rename_i h1;rw[mm,an h1,bM]
 ·rename_i h1;rw[wW];split
  ·rename_i h2;rw[kJ]
  ·rename_i h2;rw[bM,p9];congr 1;omega
def lI(w:ar)(g B:Nat)(c:Array ad)(h:B≠g):(w.setRow g c).heap[B]? =w.heap[B]? :=by simp only[World.setRow,Aj];rw[ap (bc h)]
def xK(h:bI σ W w.heap){b off:Nat}{vs Ky:List ad}{W':AW}{g:zY}(hw:rR W b off vs=some W')(hg:σ b=some g)(hv:LR σ vs Ky):
 ∃w',(storeCells ⟨g.B,g.s+off,none⟩ Ky).run P w=.ok () w'/\bI σ W' w'.heap/\fT σ W w σ W' w':=by
 rw[Uy]at hw;split at hw
 ·rename_i cs dT;split at hw
  ·rename_i wx;injection hw with hw;obtain⟨dv,Jj⟩:=wx;obtain⟨c,t,fr,h1,h0,h2,h3,h4⟩:=h.obj b _ g dT hg;have hvl:=hv.1;by_cases Zl:g.s<g.e;case neg=>
    have Z3:Ky=[]:=Am (by omega);have auD:vs=[]:=Am (by omega);have atZ:cs=[]:=Am (by omega);subst Z3;subst auD;subst atZ;have Kz:off=0:=by simpa using dv
    subst Kz;refine⟨w,by simp[storeCells],?_⟩;rw[<-hw];have akX:iG ([]:List ad) 0 []=[]:=rfl;rw[akX];refine h.XL dT (λ_=>by simp) (λ_=>by simp) hg rfl rfl rfl rfl (λ_ _=>rfl) ⟨c,t,fr,h1,h0,h2,h3,h4⟩ (λ_ _ _ _ _ _ _ _ k=>k)
   obtain rfl:=h0 Zl;have t7:=ID (P:=P) g.B (g.s+off) t Ky 0 c w h1 (by omega) (Iu hv Jj);simp only[gv]at t7;refine⟨_,t7,?_⟩;rw[<-hw];have HC:=o8 c.toList (g.s+off) Ky (by simp;omega);refine h.write (cV:=iG cs off vs) dT hg (by simp[World.setRow]) rfl rfl rfl (λB hB=>lI w g.B B _ hB) h1 (xM w g.B c _ t _ h1) (by simp;omega) ?_ ?_ ?_
   ·intro i hi;have:=HC i;rw[bM]at this;simpa using this
   ·simp[iG];omega
   ·intro i v hiv;have hsg:=o8 cs off vs dv i;rw[show iG cs off vs=cs.take off++vs++cs.drop (off+vs.length)from rfl,hsg]at hiv;have Cd:=HC (g.s+i);by_cases nP:off<=i/\i<off+vs.length
    ·rw[an nP]at hiv;rw[kJ]at Cd;obtain⟨v',f1,f2⟩:=hv.get hiv;refine⟨v',?_,f2⟩;rw[show g.s+i-(g.s+off)=i-off by omega]at Cd;rw[<-f1];simpa using Cd
    ·rw[ap nP]at hiv;rw[bM]at Cd;obtain⟨v',f1,f2⟩:=h4 i v hiv;exact⟨v',by rw[<-f1];simpa using Cd,f2⟩
  ·cases hw
 ·rename_i t cs dT;split at hw
  ·rename_i wx;injection hw with hw;obtain⟨dv,Jj⟩:=wx;obtain⟨a1,a2,a3,c,h1,h2,h3,h4⟩:=h.obj b _ g dT hg;have hvl:=hv.1;have t7:=ID (P:=P) g.B (g.s+off) t Ky 0 c w h1 (by omega) (Iu hv Jj);simp only[gv]at t7;refine⟨_,t7,?_⟩;rw[<-hw];have HC:=o8 c.toList (g.s+off) Ky (by simp;omega);refine h.aaJ (cV:=iG cs off vs) dT hg (by simp[World.setRow]) rfl rfl rfl (λB hB=>lI w g.B B _ hB) h1 (xM w g.B c _ t _ h1) (by simp;omega) ?_ ?_
   ·simp[iG];omega
   ·intro i v hiv;have hsg:=o8 cs off vs dv i;rw[show iG cs off vs=cs.take off++vs++cs.drop (off+vs.length)from rfl,hsg]at hiv;have Cd:=HC i;by_cases nP:off<=i/\i<off+vs.length
    ·rw[an nP]at hiv;rw[kJ]at Cd;obtain⟨v',f1,f2⟩:=hv.get hiv;refine⟨v',?_,f2⟩;rw[show i-(g.s+off)=i-off by omega]at Cd;rw[<-f1];simpa using Cd
    ·rw[ap nP]at hiv;rw[bM]at Cd;obtain⟨v',f1,f2⟩:=h4 i v hiv;exact⟨v',by rw[<-f1];simpa using Cd,f2⟩
  ·cases hw
 ·cases hw
def Ct(P:ag)(W:AW)(t:af)(x v:ad):Option AW:=
 match x with
 |.pointer (some a)=>match oD P t with
  |some n=>if v.cells.size=n then rR W a.block a.off v.cells.toList else none
  |none=>none
 |_=>none
def UI(h:bI σ W w.heap){t:af}{x x' v v':ad}{W':AW}(ha:Ct P W t x v=some W')(hx:VR σ x x')(hv:VR σ v v'):
 ∃w',(Instr.storeAt t x' v').run P w=.ok () w'/\bI σ W' w'.heap/\fT σ W w σ W' w':=by
 unfold Ct at ha;split at ha
 ·rename_i a;cases hx with
  |ptr a g hg hs=>
   split at ha
   ·rename_i n hn;split at ha
    ·rename_i vZ;obtain⟨w',h1,h2⟩:=xK (P:=P) h ha hg hv.cells;have aww:v'.cells.size=n:=by have:=hv.cells.1;simp at this;omega
     exact⟨w',by simp[Instr.storeAt,Instr.sureAddr,storeVar,bT hn,aww,h1],h2⟩
    ·cases ha
   ·cases ha
 ·cases ha
def Ch(h:bI σ W w.heap)(t:af){cs cV:List ad}(hc:LR σ cs cV):
 (newRow t cV.toArray).run P w=.ok ⟨w.heap.size,0,none⟩ {w with heap:=w.heap.push (.cells cV.toArray t)}/\
 cu σ W.next ⟨w.heap.size,0,cs.length⟩ W.next=some ⟨w.heap.size,0,cs.length⟩/\
 bI (cu σ W.next ⟨w.heap.size,0,cs.length⟩) (W.add (.cells cs)) (w.heap.push (.cells cV.toArray t))/\
 fT σ W w (cu σ W.next ⟨w.heap.size,0,cs.length⟩) (W.add (.cells cs)) {w with heap:=w.heap.push (.cells cV.toArray t)}:=by
 refine⟨by simp[newRow],dN,h.alloc ?_⟩;refine⟨cV.toArray,t,(0,0),by simp,λ_=>rfl,by simp,by simp[hc.1],λi v hv=>?_⟩;obtain⟨v',a,b⟩:=hc.get hv;exact⟨v',by simpa using a,b.mono (dR h.fresh)⟩
def bI.kill(h:bI σ W w.heap){b:Nat}{g0:zY}(hb:∀cs,W.get b≠some (.ro cs))(hg0:σ b=some g0):bI σ (W.kill b) w.heap/\fT σ W w σ (W.kill b) w:=by
 have hk:∀c o,(W.kill b).get c=some o->c≠b/\W.get c=some o:=λc o hc=>by
  by_cases hx:c=b
  ·subst hx;rw[AW.DS]at hc;cases hc
  ·rw[AW.de _ (bc hx)]at hc;exact⟨hx,hc⟩
 refine⟨⟨?_,h.qL,?_,?_⟩,⟨.refl _,?_,aQ _,rfl,rfl,rfl,λ_ _ _=>rfl,?_,?_⟩⟩
 ·intro c hc;by_cases hx:c=b
  ·subst hx;exact AW.DS _ _
  ·rw[AW.de _ (bc hx)];exact h.free c hc
 ·intro c o g hc hg;exact h.obj c o g (hk c o hc).2 hg
 ·intro b1 b2 o1 o2 g1 g2 fp h1 h2 k1 k2 hr;exact h.vF b1 b2 o1 o2 g1 g2 fp (hk _ _ h1).2 (hk _ _ h2).2 k1 k2 hr
 ·intro c cs hc;have hx:c≠b:=λe=>by subst e;exact hb cs hc
  rw[AW.de _ (bc hx)];exact hc
 ·intro c o2 hc hkn;have Ll:c≠b:=λe=>by subst e;rw[hg0]at hkn;cases hkn
  exact⟨by rw[AW.de _ (bc Ll)];exact hc,hkn⟩
 ·exactλc g hg _=>.inl hg
end
end
section
variable [ai]
def cH(P:ag){α:Type}(s:Sem α):Option α:=
 Sem.rec (motive:=λ_=>Option α) (λa=>some a) (λ_ _ _ _=>none) (λ_ _ _ _ _=>none) (λ_ _ _=>none) (λ_ _ _=>none) (λ_ _ _ _=>none) (λ_ _ _=>none) (λ_ _ _=>none) (λ_ _ _ _=>none) (λ_ _ _=>none) (λ_ _ _=>none) (λ_ ih=>ih P) (λ_ _ _=>none) (λ_=>none) s
def uw{P:ag}{α:Type}(s:Sem α){a:α}(h:cH P s=some a)(w:ar):s.run P w=.ok a w:=by
 induction s generalizing w with
 |pure b=>simp only[cH]at h;injection h with h;subst h;rfl
 |program k ih=>exact ih P h w
 |load m b k ih=>simp[cH]at h
 |store m b v k ih=>simp[cH]at h
 |new o k ih=>simp[cH]at h
 |shape r k ih=>simp[cH]at h
 |freeze b n k ih=>simp[cH]at h
 |frozen b k ih=>simp[cH]at h
 |getObj r k ih=>simp[cH]at h
 |setObj r o k ih=>simp[cH]at h
 |choose q k ih=>simp[cH]at h
 |sys c k ih=>simp[cH]at h
 |mark m k ih=>simp[cH]at h
 |halt x=>simp[cH]at h
def aF(R:ai.Fr)(o:au):ad:=
 match o with
 |.tmp t=>dy R t
 |.const v=>v
 |.global g=>.pointer (some ⟨g,0,none⟩)
 |.func f=>.func (.func f) #[] #[]
def Nn{nt:Nat}{ng:List Nat}{σ:dz}{R:ai.Fr}{a:bw}(hR:fz nt σ R a.tmps)(hG:BC σ ng){o:au}(ho:sM nt ng o=true):VR σ (aF R o) (a.eval o):=by
 cases o with
 |tmp t=>exact hR.2 t (by simpa[sM]using ho)
 |const v=>exact jM ho
 |global g=>obtain⟨e,he⟩:=hG g (x8.1 ho);have:=VR.ptr (σ:=σ) ⟨g,0,none⟩ _ he rfl;simpa[aF,Act.eval]using this
 |func f=>exact .func _ _ _ _ _ _ (.func f) rfl (λi v v' h=>by simp at h) rfl (λi v v' h=>by simp at h)
def EM:Option Next->Option ad
 |some (.value v)=>some v
 |_=>none
def AP:Op->Bool
 |.select .. =>false
 |_=>true
def ly(P:ag)(R:ai.Fr)(o:am):Option ad:=
 if AP o.op&&o.op.operands.toList.all (λx=>bL (aF R x))then
  match EM (cH P (execOp (aF R) o))with
  |some v=>if bL v then some v else none
  |none=>none
 else none
def Zz{P:ag}{σ:dz}{R:ai.Fr}{ρ:au->ad}{o:am}{v:ad}(h:ly P R o=some v)
 (hρ:∀x∈o.op.operands,VR σ (aF R x) (ρ x))(w:ar):(execOp ρ o).run P w=.ok (.value v) w/\VR σ v v:=by
 unfold ly at h;split at h
 ·rename_i hc;simp only[bA,db]at hc;obtain⟨hns,qk⟩:=hc;have aqx:execOp (aF R) o=execOp ρ o:=execOp_congr o (λcs b e=>by rw[e]at hns;simp[AP]at hns) (λx hx=>(gP (qk x (by simpa using hx)) (hρ x hx)).symm);rw[aqx]at h;split at h
  ·rename_i u hu;split at h
   ·rename_i hp;injection h with h;subst h;cases hr:cH P (execOp ρ o)with
    |none=>rw[hr]at hu;cases hu
    |some nx=>rw[hr]at hu;cases nx<;>first|(simp only[EM]at hu;injection hu with hu;subst hu;exact⟨uw _ hr w,jM hp⟩)|(simp[EM]at hu)
   ·cases h
  ·cases h
 ·cases h
def AR(σ:dz)(a a':Array ad):Prop:=LR σ a.toList a'.toList
def AR.size{σ:dz}{a a':Array ad}(h:AR σ a a'):a.size=a'.size:=by have:=h.1;simpa using this
def AR.set{σ:dz}{a a':Array ad}(h:AR σ a a')(n:Nat){x x':ad}(hx:VR σ x x'):AR σ (a.setIfInBounds n x) (a'.setIfInBounds n x'):=by unfold AR;simp only[Ox];exact LR.set h n hx
def acm{σ:dz}(off:Nat):∀(l l':List ad) (k:Nat) (a a':Array ad),LR σ l l'->AR σ a a'->
 AR σ ((l.zipIdx k).foldl (λcs p=>cs.setIfInBounds (off+p.2) p.1) a) ((l'.zipIdx k).foldl (λcs p=>cs.setIfInBounds (off+p.2) p.1) a'):=by
 intro l;induction l with
 |nil=>intro l' k a a' h ha;have:=h.of_nil;subst this;exact ha
 |cons v l ih=>intro l' k a a' h ha;obtain⟨v',l'',rfl,hv,hl⟩:=h.of_cons;simp only[List.zipIdx_cons,uQ];exact ih l'' (k+1) _ _ hl (ha.set _ hv)
def PR(σ:dz)(ps ps':List (Nat×ad)):Prop:=ps.length=ps'.length/\∀(i:Nat) (p p':Nat×ad),ps[i]? =some p->ps'[i]? =some p'->p.1=p'.1/\VR σ p.2 p'.2
def PR.of_cons{σ:dz}{p:Nat×ad}{l m:List (Nat×ad)}(h:PR σ (p::l) m):∃v' l',m=(p.1,v')::l'/\VR σ p.2 v'/\PR σ l l':=by
 cases m with
 |nil=>have:=h.1;simp at this
 |cons q l'=>have h0:=h.2 0 p q (by simp) (by simp);refine⟨q.2,l',?_,h0.2,by have:=h.1;simpa using this,λi u u' a b=>h.2 (i+1) u u' (by simpa using a) (by simpa using b)⟩;rw[h0.1]
def EC{σ:dz}(sV:Nat->Option (Nat×Nat)):∀(ps ps':List (Nat×ad)) (a a' out:Array ad),PR σ ps ps'->AR σ a a'->Instr.fill sV a ps=some out->
 ∃pQ,Instr.fill sV a' ps'=some pQ/\AR σ out pQ:=by
 intro ps;induction ps with
 |nil=>
  intro ps' a a' out h ha hf;have:ps'=[]:=by have:=h.1;simp at this;exact Am this.symm
  subst this;simp only[Instr.fill]at hf|-;injection hf with hf;subst hf;exact⟨a',rfl,ha⟩
 |cons p ps ih=>
  intro ps' a a' out h ha hf;obtain⟨v',l',rfl,hv,hl⟩:=h.of_cons;obtain⟨i,v⟩:=p;simp only[Instr.fill]at hf|-;cases hp:sV i with
  |none=>rw[hp]at hf;cases hf
  |some os=>
   obtain⟨off,size⟩:=os;rw[hp]at hf;simp only at hf|-;have sW:v.cells.size=v'.cells.size:=by have:=hv.cells.1;simpa using this
   rw[<-sW,<-ha.size];split at hf
   ·cases hf
   ·rename_i wx;rw[ap wx];refine ih l' _ _ out hl ?_ hf;have:=acm off v.cells.toList v'.cells.toList 0 a a' hv.cells ha;have e1:∀(u:ad) (b:Array ad),Array.foldl (λcs (x:ad×Nat)=>cs.setIfInBounds (off+x.2) x.1) b u.cells.zipIdx=(u.cells.toList.zipIdx 0).foldl (λcs p=>cs.setIfInBounds (off+p.2) p.1) b:=λu b=>by rw[<-Array.foldl_toList,Array.toList_zipIdx]
    rw[<-e1,<-e1]at this;exact this
section
variable {P:ag} {σ:dz} {W:AW} {w:ar}
def kN(P:ag)(t:af):Option ad:=match(P.info? t).bind (·.zero)with|some z=>if z.cells.toList.all cC then some z else none|none=>none
def ji{t:af}{z:ad}(h:kN P t=some z)(w:ar):(zeroValue t).run P w=.ok z w/\z.cells.toList.all cC=true:=by
 unfold kN at h;split at h
 ·rename_i z0 hz;split at h
  ·rename_i hs;injection h with h;subst h;cases hi:P.info? t with
   |none=>rw[hi]at hz;cases hz
   |some i=>rw[hi]at hz;simp only[bJ]at hz;exact⟨by simp[zeroValue,typeInfo,hi,hz],hs⟩
  ·cases h
 ·cases h
def IF{z:ad}(h:z.cells.toList.all cC=true):AR σ z.cells z.cells:=LR.qA (λ_=>fM) h
def parts(R:ai.Fr)(ps:Array (Nat×au)):List (Nat×ad):=ps.toList.map λp=>(p.1,aF R p.2)
def Fe{R:ai.Fr}{ρ:au->ad}(ps:Array (Nat×au))(h:∀p∈ps.toList,VR σ (aF R p.2) (ρ p.2)):
 PR σ (parts R ps) (ps.map λ(i,x)=>(i,ρ x)).toList:=by
 refine⟨by simp[parts],λi p p' a b=>?_⟩;simp only[parts,jJ,Array.toList_map]at a b;cases hq:ps.toList[i]? with
 |none=>rw[hq]at a;cases a
 |some q=>rw[hq]at a b;simp at a b;subst a;subst b;exact⟨rfl,h q (xV hq)⟩
def wJ(P:ag):List Field->Option (List (Nat×Nat))
 |[]=>some []
 |f::fs=>match oD P f.type,wJ P fs with
  |some n,some l=>some ((f.offset,n)::l)
  |_,_=>none
def Ot:∀(fs:List Field) (l:List (Nat×Nat)),wJ P fs=some l->∀w,((fs.mapM λf=>do pure (f.offset,<-sizeOf f.type)):Sem (List (Nat×Nat))).run P w=.ok l w:=by
 intro fs;induction fs with
 |nil=>intro l h w;simp only[wJ]at h;injection h with h;subst h;simp[List.mapM_nil]
 |cons f fs ih=>
  intro l h w;simp only[wJ]at h;split at h
  ·rename_i n m hn hm;injection h with h;subst h;have h2:=ih m hm w;simp only[List.mapM_cons,cS,bT hn,cN,iu,h2]
  ·cases h
def Hp(vs:List ad):List ad->Option (List ad):=
 List.rec (motive:=λ_=>List ad->Option (List ad)) (λcs=>some cs)
  (λv _ ih cs=>List.rec (motive:=λ_=>Option (List ad)) none (λ_ t _=>Option.rec (motive:=λ_=>Option (List ad)) none (λr=>some (v::r)) (ih t)) cs) vs
def Sl(vs:List ad):∀cs,Hp vs cs=if vs.length<=cs.length then some (vs++cs.drop vs.length)else none:=by
 induction vs with
 |nil=>intro cs;simp[Hp]
 |cons v vs ih=>
  intro cs;cases cs with
  |nil=>simp[Hp]
  |cons c t=>
   show Option.rec (motive:=λ_=>Option (List ad)) none (λr=>some (v::r)) (Hp vs t)=_;rw[ih t];by_cases h:vs.length<=t.length
   ·rw[an h,an (by simp only[cQ];omega)];simp
   ·rw[ap h,ap (by simp only[cQ];omega)]
def N3(cs:List ad):Nat->List ad->Option (List ad):=
 List.rec (motive:=λ_=>Nat->List ad->Option (List ad)) (λn vs=>Nat.rec (motive:=λ_=>Option (List ad)) (Hp vs []) (λ_ _=>none) n)
  (λc t ih n vs=>Nat.rec (motive:=λ_=>Option (List ad)) (Hp vs (c::t)) (λm _=>Option.rec (motive:=λ_=>Option (List ad)) none (λr=>some (c::r)) (ih m vs)) n) cs
def TA(cs:List ad):∀(off:Nat) (vs:List ad),N3 cs off vs=if off+vs.length<=cs.length then some (iG cs off vs)else none:=by
 induction cs with
 |nil=>
  intro off vs;cases off with
  |zero=>show Hp vs []=_;rw[Sl];simp[iG]
  |succ n=>show(none:Option (List ad))=_;rw[ap (by simp)]
 |cons c t ih=>
  intro off vs;cases off with
  |zero=>show Hp vs (c::t)=_;rw[Sl];simp[iG]
  |succ n=>
   show Option.rec (motive:=λ_=>Option (List ad)) none (λr=>some (c::r)) (N3 t n vs)=_;rw[ih n vs];have e:n+1+vs.length=(n+vs.length)+1:=by omega
   by_cases h:n+vs.length<=t.length
   ·rw[an h,an (by simp only[cQ];omega)];simp[iG,e]
   ·rw[ap h,ap (by simp only[cQ];omega)]
def aaa(cs:List ad)(o:Nat)(v:ad)(vs:List ad)(h:o+(vs.length+1)<=cs.length):iG (cs.set o v) (o+1) vs=iG cs o (v::vs):=by
 unfold iG;apply oJ;intro i;rw[o8 _ _ _ (by rw[pO];omega),o8 _ _ _ (by simp only[cQ];omega)];by_cases h1:i=o
 ·subst h1;rw[bM,an (by simp only[cQ];omega),uM];simp;omega
 ·by_cases h2:o+1<=i/\i<o+1+vs.length
  ·rw[an h2,an (by simp only[cQ];omega)];obtain⟨k,rfl⟩:∃k,i=o+1+k:=⟨i-(o+1),by omega⟩;rw[show o+1+k-(o+1)=k by omega,show o+1+k-o=k+1 by omega,Dv]
  ·rw[ap h2,ap (by simp only[cQ];omega),uM,ap (λe=>h1 e.symm)]
def Nh(off:Nat):∀(vs:List ad) (k:Nat) (cells:Array ad),off+k+vs.length<=cells.size->
 (List.foldl (λ(cs:Array ad) (p:ad×Nat)=>cs.setIfInBounds (off+p.2) p.1) cells (vs.zipIdx k)).toList=iG cells.toList (off+k) vs
 |[],k,cells,_=>by simp[iG]
 |v::vs,k,cells,h=>by rw[List.zipIdx_cons,uQ,Nh off vs (k+1) _ (by simp only[Array.size_setIfInBounds];simp only[cQ]at h;omega)];rw[Ox];exact aaa _ _ _ _ (by simp only[cQ]at h;simp;omega)
def Nq(sV:Nat->Option (Nat×Nat)):List (Nat×ad)->List ad->Option (List ad)
 |[],cells=>some cells
 |(i,v)::kn,cells=>match sV i with
  |none=>none
  |some (off,size)=>match Nat.beq v.cells.size size with
   |true=>(match N3 cells off v.cells.toList with
    |some c=>Nq sV kn c
    |none=>none)
   |false=>none
def GK(sV:Nat->Option (Nat×Nat))(cells:Array ad)(l:List (Nat×ad)):Option (Array ad):=(Nq sV l cells.toList).map List.toArray
def Kq(sV:Nat->Option (Nat×Nat)):∀(l:List (Nat×ad)) (cells:Array ad),GK sV cells l=Instr.fill sV cells l
 |[],cells=>by simp[GK,Nq,Instr.fill]
 |(i,v)::kn,cells=>by
  unfold Instr.fill;show(Nq sV ((i,v)::kn) cells.toList).map List.toArray=_;unfold Nq;cases sV i with
  |none=>rfl
  |some p=>
   obtain⟨off,size⟩:=p;simp only;by_cases hs:v.cells.size=size
   ·have hb:Nat.beq v.cells.size size=true:=by rw[fq];exact hs
    rw[hb];simp only;rw[TA];by_cases hl:off+v.cells.size<=cells.size
    ·rw[an (by simpa using hl),ap (by simp[hs];omega)];simp only;rw[<-Kq sV kn];show _=(Nq sV kn _).map List.toArray;congr 2;have hf:=Nh off v.cells.toList 0 cells (by simpa using hl);rw[gv]at hf;rw[<-hf,<-Array.foldl_toList,Array.toList_zipIdx]
    ·rw[ap (by simpa using hl),an (by simp[hs];omega)];rfl
   ·have hb:Nat.beq v.cells.size size=false:=by
     cases hq:Nat.beq v.cells.size size with
     |false=>rfl
     |true=>exact absurd (AU hq) hs
    rw[hb,an (by simp[hs])];rfl
def CQ(P:ag)(R:ai.Fr)(t:af)(ps:Array (Nat×au)):Option ad:=
 match kN P t,P.underlying t with
 |some z,some (.struct fs)=>match wJ P fs.toList with
  |some pl=>(GK (pl.toArray[·]?) z.cells (parts R ps)).map .agg
  |none=>none
 |some z,some (.array _ e)=>match oD P e with
  |some n=>(GK (λi=>some (i*n,n)) z.cells (parts R ps)).map .agg
  |none=>none
 |_,_=>none
def Vq{R:ai.Fr}{ρ:au->ad}{t:af}{ps:Array (Nat×au)}{v:ad}(h:CQ P R t ps=some v)
 (hρ:∀p∈ps.toList,VR σ (aF R p.2) (ρ p.2))(w:ar):
 ∃v',(Instr.build t (ps.map λ(i,x)=>(i,ρ x))).run P w=.ok v' w/\VR σ v v':=by
 have hp:=Fe (σ:=σ) (R:=R) (ρ:=ρ) ps hρ;unfold CQ at h;simp only[Kq]at h;split at h
 ·rename_i z fs hz hu;obtain⟨CW,EU⟩:=ji hz w;split at h
  ·rename_i pl qk;cases hf:Instr.fill (pl.toArray[·]?) z.cells (parts R ps)with
   |none=>rw[hf]at h;cases h
   |some out=>
    rw[hf]at h;simp only[dA,jd]at h;subst h;obtain⟨pQ,h1,h2⟩:=EC _ _ _ _ _ _ hp (IF EU) hf;have hm:=Ot fs.toList pl qk w;refine⟨.agg pQ,?_,VR.TV h2⟩;have hm':((fs.mapM λf=>do pure (f.offset,<-sizeOf f.type)):Sem (Array (Nat×Nat))).run P w=.ok pl.toArray w:=by rw[Array.mapM_eq_mapM_toList];simp only[Sem.run_map,hm,cN]
    simp only[Instr.build,cS,CW,cN,cm hu,hm',h1,iu]
  ·cases h
 ·rename_i z len e hz hu;obtain⟨CW,EU⟩:=ji hz w;split at h
  ·rename_i n hn;cases hf:Instr.fill (λi=>some (i*n,n)) z.cells (parts R ps)with
   |none=>rw[hf]at h;cases h
   |some out=>rw[hf]at h;simp only[dA,jd]at h;subst h;obtain⟨pQ,h1,h2⟩:=EC _ _ _ _ _ _ hp (IF EU) hf;exact⟨.agg pQ,by simp only[Instr.build,cS,CW,cN,cm hu,bT hn,h1,iu],VR.TV h2⟩
  ·cases h
 ·cases h
def NR(z:ad)(n:Nat):Array ad:=(Array.range n).map (z.cells[· % z.cells.size]!)
def kI(z:ad)(n:Nat):Array ad:=if n=0 then#[]else NR z n
def xg{z:ad}{n:Nat}(h:n=0):kI z n=#[]:=an h
def AD{z:ad}{n:Nat}(h:n≠0):kI z n=NR z n:=ap h
def sz(P:ag)(R:ai.Fr)(W:AW)(t:af)(len:Nat)(ps:Array (Nat×au)):Option (ad×AW):=
 match P.underlying t with
 |some (.slice e)=>match oD P e,kN P e with
  |some n,some z=>
   if len*n<=16777216/\len<eG/\(kI z (len*n)).toList.all cC=true then
    match Instr.fill (λi=>some (i*n,n)) (kI z (len*n)) (parts R ps)with
    |some c=>some (W.new (.cells c.toList) λb W'=>(Value.slice (some ⟨b,0,none⟩) len len,W'))
    |none=>none
   else none
  |_,_=>none
 |_=>none
def yP(cs:List ad)(len:Nat):List ad:=Nat.rec (motive:=λ_=>List ad) [] (λ_ ih=>cs++ih) len
def PQ(cs:List ad):∀(len i:Nat),i<len*cs.length->(yP cs len)[i]? =cs[i % cs.length]?
 |0,i,h=>by simp at h
 |len+1,i,h=>by
  show(cs++yP cs len)[i]? =_;by_cases hi:i<cs.length
  ·rw[zl hi,Nat.mod_eq_of_lt hi]
  ·have h1:len*cs.length+cs.length=(len+1)*cs.length:=by rw[jP,kr]
   rw[pY (by omega),PQ cs len (i-cs.length) (by omega)];congr 1;have h2:i=(i-cs.length)+cs.length:=by omega
   generalize i-cs.length=j at h2;rw[h2,Nat.add_mod_right]
def zE(cs:List ad):∀len,(yP cs len).length=len*cs.length
 |0=>by show([]:List ad).length=_;simp
 |len+1=>by show(cs++yP cs len).length=_;rw[cx,zE cs len,jP,kr,Nat.add_comm]
def wq(cs:List ad)(p:ad->Bool)(h:cs.all p=true):∀len,(yP cs len).all p=true
 |0=>rfl
 |len+1=>by show(cs++yP cs len).all p=true;rw[List.all_append,h,wq cs p h len];rfl
def yU{z:ad}{len n:Nat}(hn:z.cells.size=n):kI z (len*n)=(yP z.cells.toList len).toArray:=by
 have hl:z.cells.toList.length=n:=by simpa using hn
 apply Array.ext';apply oJ;intro i;unfold kI;split
 ·rename_i h0;have:(yP z.cells.toList len).length=0:=by rw[zE,hl,h0]
  rw[mw.1 this]
 ·rename_i h0;by_cases hi:i<len*n
  ·have e1:(NR z (len*n)).toList[i]? =some (z.cells[i % z.cells.size]!):=by simp[NR,hi]
   have pF:0<n:=by
    rcases Nat.eq_zero_or_pos n with h|h
    ·subst h;simp at h0
    ·exact h
   have hm:i % n<z.cells.size:=by rw[hn];exact Nat.mod_lt _ pF
   rw[e1,H9,PQ _ _ _ (by rw[hl];exact hi),hl,hn];simp[hm]
  ·rw[kF (by simp[NR];omega),H9,kF (by rw[zE,hl];omega)]
def nY(P:ag)(R:ai.Fr)(W:AW)(t:af)(len:Nat)(ps:Array (Nat×au)):Option (ad×AW):=
 match P.underlying t with
 |some (.slice e)=>match oD P e,kN P e with
  |some n,some z=>
   if len*n<=16777216/\len<eG/\(Nat.beq z.cells.size n&&z.cells.toList.all cC)=true then
    match GK (λi=>some (i*n,n)) (yP z.cells.toList len).toArray (parts R ps)with
    |some c=>some (W.new (.cells c.toList) λb W'=>(Value.slice (some ⟨b,0,none⟩) len len,W'))
    |none=>none
   else none
  |_,_=>none
 |_=>none
def yj{P:ag}{R:ai.Fr}{W:AW}{t:af}{len:Nat}{ps:Array (Nat×au)}{r:ad×AW}(h:nY P R W t len ps=some r):sz P R W t len ps=some r:=by
 unfold nY at h;simp only[Kq]at h;unfold sz;revert h;generalize P.underlying t=u;intro h;split at h
 ·rename_i e;revert h;generalize oD P e=x;generalize kN P e=y;intro h;split at h
  ·rename_i n z;split at h
   ·rename_i hc;obtain⟨hc1,hc2,hc3⟩:=hc;rw[bA,fq]at hc3;have SC:=yU (len:=len) hc3.1;try simp only
    rw[SC,an ⟨hc1,hc2,by rw[H9];exact wq _ _ hc3.2 _⟩];exact h
   ·cases h
  ·cases h
 ·cases h
def H5(hW:bI σ W w.heap){R:ai.Fr}{ρ:au->ad}{t:af}{len:Nat}{ps:Array (Nat×au)}{v:ad}{W':AW}
 (h:nY P R W t len ps=some (v,W'))(hρ:∀p∈ps.toList,VR σ (aF R p.2) (ρ p.2)):
 ∃σ' v' w',(Instr.buildSlice t len (ps.map λ(i,x)=>(i,ρ x))).run P w=.ok v' w'/\VR σ' v v'/\bI σ' W' w'.heap/\fT σ W w σ' W' w':=by
 have hp:=Fe (σ:=σ) (R:=R) (ρ:=ρ) ps hρ;replace h:=yj h;unfold sz at h;split at h
 ·rename_i e hu;split at h
  ·rename_i n z hn hz;obtain⟨CW,EU⟩:=ji hz w;split at h
   ·rename_i hc;obtain⟨hc1,hc2,hc3⟩:=hc;split at h
    ·rename_i c hf;injection h with h;rw[AW.dX]at h;injection h with hv hw;obtain⟨pQ,h1,h2⟩:=EC _ _ _ _ _ _ hp (LR.qA (σ:=σ) (λ_=>fM) hc3) hf;have Hv:=Ch (P:=P) hW e (cs:=c.toList) (cV:=pQ.toList) h2;refine⟨_,.slice (some ⟨w.heap.size,0,none⟩) len len,{w with heap:=w.heap.push (.cells pQ.toList.toArray e)},?_,?_,by rw[<-hw];exact Hv.2.2.1,by rw[<-hw];exact Hv.2.2.2⟩
     ·show(Instr.buildSlice t len _).run P w=.ok (.slice (some ⟨w.heap.size,0,none⟩) len len) _;have ad2:¬len*n>2^ 24:=by omega
      have O4:=Hv.1;simp only[jL]at O4;by_cases h0:len*n=0
      ·rw[xg h0]at h1;simp only[Instr.buildSlice,cS,cm hu,cN,bT hn,ap ad2,iu,an h0];rw[show(Array.map (λx=>(#[]:Array ad)[x % (#[]:Array ad).size]!) (Array.range (len*n)))=#[]by rw[h0];simp,h1];simp[O4]
      ·rw[AD h0]at h1;simp only[Instr.buildSlice,cS,cm hu,cN,bT hn,ap ad2,iu,ap h0,CW];rw[show(Array.map (λx=>z.cells[x % z.cells.size]!) (Array.range (len*n)))=NR z (len*n)from rfl,h1];simp[O4]
     ·rw[<-hv];have:=VR.slice (σ:=cu σ W.next ⟨w.heap.size,0,c.toList.length⟩) ⟨W.next,0,none⟩ len len len _ Hv.2.1 rfl (.known len hc2);simpa using this
    ·cases h
   ·cases h
  ·cases h
 ·cases h
def pM(P:ag)(W:AW)(t:af)(l c:ad):Option (ad×AW):=
 match P.underlying t with
 |some (.slice e)=>match oD P e,kN P e,(P.info? e).map (·.bytes),l,c with
  |some n,some z,some bytes,.int _ (.ofNat l),.int _ (.ofNat c)=>
   if l<=c/\c<9223372036854775808/\c*bytes<=281474976710656/\(kI z (c*n)).toList.all cC=true then
    some (W.new (.cells (kI z (c*n)).toList) λb W'=>(Value.slice (some ⟨b,0,none⟩) l c,W'))
   else none
  |_,_,_,_,_=>none
 |_=>none
def D6{n:Nat}(h:n<9223372036854775808):IntKind.i64.wrap (n:Int)=n:=by
 have e1:IntKind.i64.bits=64:=rfl;have e2:IntKind.i64.signed=true:=rfl;simp only[IntKind.wrap,e1,e2];have:(n:Int) % (2^ 64:Int)=n:=by omega
 rw[this];simp;omega
def IW(hW:bI σ W w.heap){t:af}{l l' c c':ad}{v:ad}{W':AW}
 (h:pM P W t l c=some (v,W'))(hl:VR σ l l')(hc:VR σ c c'):
 ∃σ' v' w',(Instr.makeSlice t l' c').run P w=.ok v' w'/\VR σ' v v'/\bI σ' W' w'.heap/\fT σ W w σ' W' w':=by
 unfold pM at h;split at h
 ·rename_i e hu;split at h
  ·rename_i n z bytes kl l kc c hn hz hb;cases hl;cases hc;obtain⟨CW,EU⟩:=ji hz w;split at h
   ·rename_i wx;obtain⟨c1,c2,c3,c4⟩:=wx;injection h with h;rw[AW.dX]at h;injection h with hv hw;have hi:∃i,P.info? e=some i/\i.bytes=bytes:=by
     cases hi:P.info? e with
     |none=>rw[hi]at hb;cases hb
     |some i=>rw[hi]at hb;simp at hb;exact⟨i,rfl,hb⟩
    obtain⟨i,hi,hib⟩:=hi;have SC:LR σ (kI z (c*n)).toList (kI z (c*n)).toList:=
     LR.qA (λ_=>fM) c4
    have Hv:=Ch (P:=P) hW e SC;refine⟨_,.slice (some ⟨w.heap.size,0,none⟩) l c,{w with heap:=w.heap.push (.cells (kI z (c*n)).toList.toArray e)},?_,?_,by rw[<-hw];exact Hv.2.2.1,by rw[<-hw];exact Hv.2.2.2⟩
    ·show(Instr.makeSlice t _ _).run P w=.ok (.slice (some ⟨w.heap.size,0,none⟩) l c) _;have hwl:IntKind.i64.wrap (Int.ofNat l)=(l:Int):=D6 (by omega);have hwc:IntKind.i64.wrap (Int.ofNat c)=(c:Int):=D6 c2;have Kx:(typeInfo e).run P w=.ok i w:=by simp[typeInfo,hi]
     have aq2:(bytes:Int)*(c:Int)<=281474976710656:=by
      have:((c*bytes:Nat):Int)<=281474976710656:=by omega
      rw[Int.natCast_mul,Int.mul_comm]at this;exact this
     have O4:=Hv.1;simp only[jL]at O4;have T9:¬(((decide ((c:Int)<0)||decide ((i.bytes:Int)*(c:Int)>2^ 48))||decide ((l:Int)<0)||decide ((l:Int)>(c:Int)))=true):=by rw[hib];simp;omega
     simp only[Instr.makeSlice,cS,cm hu,cN,asInt,asIntOf,iu,Kx,hwl,hwc];rw[ap (by simpa using T9)];by_cases h0:c*n=0
     ·rw[xg h0]at O4|-;simp only[cS,run_askRoom,cN,vj,bT hn,an h0,iu];rw[show(Array.map (λx=>(#[]:Array ad)[x % (#[]:Array ad).size]!) (Array.range (c*n)))=#[]by rw[h0];simp,O4];simp
     ·rw[AD h0]at O4|-;simp only[cS,run_askRoom,cN,vj,bT hn,ap h0,CW,iu];rw[show(Array.map (λx=>z.cells[x % z.cells.size]!) (Array.range (c*n)))=NR z (c*n)from rfl,O4];simp
    ·rw[<-hv];have:=VR.slice (σ:=cu σ W.next ⟨w.heap.size,0,(kI z (c*n)).toList.length⟩) ⟨W.next,0,none⟩ l c c _ Hv.2.1 rfl (.known c (by unfold eG;omega));simpa using this
   ·cases h
  ·cases h
 ·cases h
end
end
section
variable [ai]
def OR(σ:dz):Option ad->Option ad->Prop
 |none,none=>True
 |some v,some v'=>VR σ v v'
 |_,_=>False
def lY:ad->Option Nat
 |.int _ (.ofNat n)=>some n
 |_=>none
def fW(v:Option ad)(d:Nat):Option Nat:=match v with|none=>some d|some v=>lY v
def Bl{σ:dz}{v v':ad}{n:Nat}(h:lY v=some n)(hv:VR σ v v'):∃k,v'=.int k (n:Int):=by
 unfold lY at h;split at h
 ·injection h with h;subst h;cases hv;exact⟨_,rfl⟩
 ·cases h
section
variable {P:ag} {σ:dz} {W:AW} {w:ar}
def pw(k:be)(n y:Nat)(Al:BoundsCode)(h:n<=y)(w:ar):(Instr.sliceBound (.int k (n:Int)) y Al).run P w=.ok n w:=by
 have:0<=(n:Int)/\(n:Int)<=(y:Int):=by omega
 simp[Instr.sliceBound,asIntOf,this]
def rF(sl:Bool)(len cap:Nat){lo hi mx Ig rq mx':Option ad}{l h m:Nat}(h1:OR σ lo Ig)(h2:OR σ hi rq)(h3:OR σ mx mx')
 (hl:fW lo 0=some l)(hh:fW hi len=some h)(hm:fW mx cap=some m)(hmx:mx.isSome=true->hi.isSome=true)
 (a1:l<=h)(a2:hi.isSome=true->h<=m)(a3:m<=cap)(w:ar):(Instr.sliceBounds sl len cap Ig rq mx').run P w=.ok (l,h,m) w:=by
 have one:∀{v v':Option ad} {d n:Nat},OR σ v v'->fW v d=some n->(v=none/\v'=none/\n=d)\/(v.isSome=true/\∃k,v'=some (.int k (n:Int))):=by
  intro v v' d n ho hb;cases v with
  |none=>cases v' with
   |none=>simp only[fW]at hb;injection hb with hb;exact .inl ⟨rfl,rfl,hb.symm⟩
   |some v'=>exact ho.elim
  |some v=>cases v' with
   |none=>exact ho.elim
   |some v'=>obtain⟨k,rfl⟩:=Bl hb ho;exact .inr ⟨rfl,k,rfl⟩
 have hA:∀k Al,(Instr.sliceBound (.int k (m:Int)) cap Al).run P w=.ok m w:=λk Al=>pw k m cap Al a3 w
 have hC:∀k Al,(Instr.sliceBound (.int k (l:Int)) h Al).run P w=.ok l w:=λk Al=>pw k l h Al a1 w
 rcases one h3 hm with⟨e1,rfl,e3⟩|⟨e1,k3,rfl⟩
 ·subst e3;rcases one h2 hh with⟨f1,rfl,f3⟩|⟨f1,k2,rfl⟩
  ·subst f3;rcases one h1 hl with⟨g1,rfl,g3⟩|⟨g1,k1,rfl⟩
   ·subst g3;simp[Instr.sliceBounds]
   ·simp[Instr.sliceBounds,hC]
  ·have hB:∀Al,(Instr.sliceBound (.int k2 (h:Int)) m Al).run P w=.ok h w:=λAl=>pw k2 h m Al (a2 f1) w
   rcases one h1 hl with⟨g1,rfl,g3⟩|⟨g1,k1,rfl⟩
   ·subst g3;simp[Instr.sliceBounds,hB]
   ·simp[Instr.sliceBounds,hB,hC]
 ·rcases one h2 hh with⟨f1,rfl,f3⟩|⟨f1,k2,rfl⟩
  ·subst f1;exact absurd (hmx e1) (by simp)
  ·have hB:∀Al,(Instr.sliceBound (.int k2 (h:Int)) m Al).run P w=.ok h w:=λAl=>pw k2 h m Al (a2 f1) w
   rcases one h1 hl with⟨g1,rfl,g3⟩|⟨g1,k1,rfl⟩
   ·subst g3;simp[Instr.sliceBounds,hA,hB]
   ·simp[Instr.sliceBounds,hA,hB,hC]
def nH(P:ag)(t:af)(x:ad)(lo hi mx:Option ad):Option ad:=
 match P.underlying t,x with
 |some (.slice e),.slice (some a) len cap=>
  match oD P e,fW lo 0,fW hi len with
  |some z,some l,some h=>
   if l<=h then
    match mx with
    |none=>
     if cap=eG+z/\0<z then(if h<=len then some (.slice (some (a.add (l*z))) (h-l) cap)else none)
     else if cap<eG/\h<=cap then some (.slice (some (if cap=l then a else a.add (l*z))) (h-l) (cap-l))else none
    |some mv=>match fW (some mv) 0 with
     |some m=>if hi.isSome=true/\h<=m/\m<eG/\((cap=eG+z/\0<z/\m<=len)\/(cap<eG/\m<=cap))then some (.slice (some (if m=l then a else a.add (l*z))) (h-l) (m-l))else none
     |none=>none
   else none
  |_,_,_=>none
 |some (.slice e),.slice none len cap=>
  match oD P e,fW lo 0,fW hi len,mx with
  |some _,some l,some h,none=>if l<=h/\h<=cap then some (.slice none (h-l) (cap-l))else none
  |_,_,_,_=>none
 |some (.array n e),.pointer (some a)=>
  match oD P e,fW lo 0,fW hi n,mx with
  |some z,some l,some h,none=>if l<=h/\h<=n/\n<eG then some (.slice (some (if n=l then a else a.add (l*z))) (h-l) (n-l))else none
  |_,_,_,_=>none
 |_,_=>none
def L4.inv{g:zY}{off l c c':Nat}(h:L4 g off l c c'):(c<eG/\c'=c)\/∃z,0<z/\c=eG+z/\l<=c'/\g.s+off+c'*z=g.e:=by
 cases h with
 |known _ h=>exact .inl ⟨h,rfl⟩
 |open_ z _ hz hl h=>exact .inr ⟨z,hz,rfl,hl,h⟩
def L4.max{g:zY}{off l c c':Nat}(h:L4 g off l c c'):c'<eG/\(eG<=c->c'<=maxLen):=by
 cases h with
 |known _ h=>exact⟨h,λx=>absurd x (by omega)⟩
 |open_ z _ hz hl h hb=>exact⟨by unfold maxLen at hb;unfold eG;omega,λ_=>hb⟩
def U0{t:af}{x x' v:ad}{lo hi mx Ig rq mx':Option ad}(h:nH P t x lo hi mx=some v)(hx:VR σ x x')
 (h1:OR σ lo Ig)(h2:OR σ hi rq)(h3:OR σ mx mx')(w:ar):∃v',(Instr.sliceAt t x' Ig rq mx').run P w=.ok v' w/\VR σ v v':=by
 unfold nH at h;split at h
 ·rename_i e a len cap hu;split at h
  ·rename_i z l hh hz y5 Tm;split at h
   ·rename_i hlh;have run:∀(A':Option bg) (CV m:Nat),fW mx CV=some m->(mx.isSome=true->hi.isSome=true)->(hi.isSome=true->hh<=m)->m<=CV->
     (Instr.sliceAt t (.slice A' len CV) Ig rq mx').run P w=.ok (.slice (if m=l then A' else A'.map (·.add (l*z))) (hh-l) (m-l)) w:=by
     intro A' CV m b1 b2 b3 b4;have hb:=rF (P:=P) true len CV h1 h2 h3 y5 Tm b1 b2 hlh b3 b4 w;simp only[Instr.sliceAt,cS,cm hu,cN,Instr.slice,hb,bT hz,iu]
    cases mx with
    |none=>
     simp only at h;split at h
     ·rename_i vd;obtain⟨rfl,Zd⟩:=vd;split at h
      ·rename_i aM;injection h with h;subst h;cases hx with
       |slice _ _ _ c' g hg hs hc=>
        rcases hc.inv with⟨hk,_⟩|⟨z',CW,hzz,hlc,Br⟩
        ·exact absurd hk (by omega)
        ·refine⟨_,run (some _) c' c' rfl (by simp) (λ_=>by omega) (aQ _),?_⟩;by_cases HA:c'=l
         ·subst HA;have:hh-c'=0:=by omega
          rw[this,sk,an rfl];exact .dO _ _ _ g (by simpa[jf]using hg) (.inr (by omega))
         ·rw[ap HA];simp only[dA,dH];have atA:z=z':=by omega
          subst atA;have:=VR.slice (σ:=σ) (a.add (l*z)) (hh-l) (eG+z) (c'-l) g (by rw[jf];exact hg) (tN _ _ hs)
           (by rw[uV];refine .open_ z _ Zd (by omega) ?_ (eS (Nat.sub_le _ _) (hc.max.2 (by omega)));rw[Nat.sub_mul];have:l*z<=c'*z:=mB _ (by omega);omega)
          rw[uV]at this;simpa[iq]using this
       |dO _ a' _ g hg hc=>
        have Ss:hh=0:=by omega
        have hl1:l=0:=by omega
        subst Ss;subst hl1;refine⟨_,run (some a') 0 0 rfl (by simp) (λ_=>by omega) (aQ _),?_⟩;simp only[bi];exact .dO _ _ _ g (by simpa[jf]using hg) (.inr (by omega))
      ·cases h
     ·split at h
      ·rename_i CX rf;injection h with h;subst h;cases hx with
       |slice _ _ _ c' g hg hs hc=>
        rcases hc.inv with⟨hk,rfl⟩|⟨z',CW,hzz,hlc,Br⟩
        ·refine⟨_,run (some _) c' c' rfl (by simp) (λ_=>rf.2) (aQ _),?_⟩;by_cases HA:c'=l
         ·subst HA;simp only[bi];exact .slice a _ _ _ g hg hs (.known _ (by omega))
         ·rw[ap HA,ap HA];simp only[dA,dH];have:=VR.slice (σ:=σ) (a.add (l*z)) (hh-l) (c'-l) (c'-l) g (by rw[jf];exact hg) (tN _ _ hs) (.known _ (by omega));rw[uV]at this;simpa[iq]using this
        ·exact absurd rf.1 (by omega)
       |dO _ a' _ g hg hc=>
        have hc0:cap=0:=by omega
        subst hc0;have Ss:hh=0:=by omega
        have hl1:l=0:=by omega
        subst Ss;subst hl1;refine⟨_,run (some a') 0 0 rfl (by simp) (λ_=>by omega) (aQ _),?_⟩;simp only[bi];exact .dO _ _ _ g (by simpa[jf]using hg) (.inl rfl)
      ·cases h
    |some mv=>
     simp only at h;split at h
     ·rename_i m hm;split at h
      ·rename_i wx;obtain⟨c1,c2,c3,c4⟩:=wx;injection h with h;subst h;cases hx with
       |slice _ _ _ c' g hg hs hc=>
        have hmc:m<=c':=by rcases hc.inv with⟨hk,_⟩|⟨z',CW,hzz,hlc,Br⟩<;>omega
        refine⟨_,run (some _) c' m hm (λ_=>c1) (λ_=>c2) hmc,?_⟩;by_cases HA:m=l
        ·subst HA;simp only[bi];exact .slice a _ _ _ g hg hs (.known _ (by omega))
        ·rw[ap HA,ap HA];simp only[dA,dH];have:=VR.slice (σ:=σ) (a.add (l*z)) (hh-l) (m-l) (m-l) g (by rw[jf];exact hg) (tN _ _ hs) (.known _ (by omega));rw[uV]at this;simpa[iq]using this
       |dO _ a' _ g hg hc=>
        have hm0:m=0:=by omega
        subst hm0;have Ss:hh=0:=by omega
        have hl1:l=0:=by omega
        subst Ss;subst hl1;refine⟨_,run (some a') 0 0 hm (λ_=>c1) (λ_=>by omega) (aQ _),?_⟩;simp only[bi];exact .dO _ _ _ g (by simpa[jf]using hg) (.inl rfl)
      ·cases h
     ·cases h
   ·cases h
  ·cases h
 ·rename_i e len cap hu;split at h
  ·rename_i z l hh hz y5 Tm;split at h
   ·rename_i hc;injection h with h;subst h;cases hx;have hb:=rF (P:=P) (mx:=none) true len cap h1 h2 h3 y5 Tm rfl (by simp) hc.1 (λ_=>hc.2) (aQ _) w;refine⟨.slice none (hh-l) (cap-l),?_,.I4 _ _⟩;simp only[Instr.sliceAt,cS,cm hu,cN,Instr.slice,hb,bT hz,iu];simp
   ·cases h
  ·cases h
 ·rename_i n e a hu;split at h
  ·rename_i z l hh hz y5 Tm;split at h
   ·rename_i hc;injection h with h;subst h;cases hx with
    |ptr _ g hg hs=>
     have hb:=rF (P:=P) (mx:=none) false n n h1 h2 h3 y5 Tm rfl (by simp) hc.1 (λ_=>hc.2.1) (aQ _) w;refine⟨.slice (some (if n=l then⟨g.B,g.s+a.off,none⟩else(⟨g.B,g.s+a.off,none⟩:bg).add (l*z))) (hh-l) (n-l),?_,?_⟩
     ·simp only[Instr.sliceAt,cS,cm hu,cN,Instr.sureAddr,iu,hb,bT hz]
     ·by_cases HA:n=l
      ·subst HA;simp only[bi];exact .slice a _ _ _ g hg hs (.known _ (by omega))
      ·rw[ap HA,ap HA];simp only[dH];have:=VR.slice (σ:=σ) (a.add (l*z)) (hh-l) (n-l) (n-l) g (by rw[jf];exact hg) (tN _ _ hs) (.known _ (by omega));rw[uV]at this;simpa[iq]using this
   ·cases h
  ·cases h
 ·cases h
end
end
section
variable [ai]
section
variable {P:ag} {σ:dz} {W:AW} {w w':ar}
def bI.OJ(h:bI σ W w.heap){b off:Nat}{o o':dI}{g:zY}(hb:W.get b=some o)(uK:∀cs,o≠ .ro cs)(hg:σ b=some g)
 (vZ:w'.heap.size=w.heap.size)(hos:w'.os=w.os)(htp:w'.tape=w.tape)(Gd:w'.output=w.output)
 (mD:∀B,B≠g.B->w'.heap[B]? =w.heap[B]?)
 {c c':Array ad}{t:af}(hc:w.heap[g.B]? =some (.cells c t (0,0)))(yT:w'.heap[g.B]? =some (.cells c' t (0,0)))(sW:c'.size=c.size)
 (zx:∀i,i<g.s+off\/g.e<=i->c'[i]? =c[i]?)
 (Bw:pA (cu σ W.next ⟨g.B,g.s+off,g.e⟩) w'.heap ⟨g.B,g.s+off,g.e⟩ o'):
 bI (cu σ W.next ⟨g.B,g.s+off,g.e⟩) ((W.kill b).add o') w'.heap/\fT σ W w (cu σ W.next ⟨g.B,g.s+off,g.e⟩) ((W.kill b).add o') w':=by
 have ET:=h.fresh;have hs:Sub σ (cu σ W.next ⟨g.B,g.s+off,g.e⟩):=dR ET;have hbn:=h.qL b g hg;have hk:∀c o,c≠W.next->((W.kill b).add o').get c=some o->c≠b/\W.get c=some o:=λc o hcn hx=>by
  rw[AW.aE _ _ (by rw[AW.dr];exact bc hcn)]at hx;by_cases Ll:c=b
  ·subst Ll;rw[AW.DS]at hx;cases hx
  ·rw[AW.de _ (bc Ll)]at hx;exact⟨Ll,hx⟩
 have aqu:((W.kill b).add o').get W.next=some o':=AW.aI (W.kill b) _;have tL:∀c k,cu σ W.next ⟨g.B,g.s+off,g.e⟩ c=some k->(c=W.next/\k=⟨g.B,g.s+off,g.e⟩)\/(c≠W.next/\σ c=some k):=λc k hx=>by
  unfold cu at hx;split at hx
  ·rename_i he;injection hx with hx;exact .inl ⟨he,hx.symm⟩
  ·rename_i he;exact .inr ⟨he,hx⟩
 have ajn:∀cs,W.get b≠some (.ro cs):=λcs hx=>by rw[hb]at hx;injection hx with hx;exact uK cs hx
 refine⟨⟨?_,?_,?_,?_⟩,⟨hs,?_,?_,hos,htp,Gd,?_,?_,?_⟩⟩
 ·intro x hx;have hx':W.next+1<=x:=hx;cases hy:((W.kill b).add o').get x with
  |none=>rfl
  |some o=>have:=(hk x o (by omega) hy).2;rw[h.free x (by omega)]at this;cases this
 ·intro x k hx;rcases tL x k hx with⟨rfl,rfl⟩|⟨_,h2⟩
  ·exact⟨Nat.lt_succ_self _,by rw[vZ];exact hbn.2⟩
  ·have:=h.qL x k h2;exact⟨Nat.lt_succ_of_lt this.1,by rw[vZ];exact this.2⟩
 ·intro x o2 k hx hy;rcases tL x k hy with⟨rfl,rfl⟩|⟨h1,h2⟩
  ·rw[aqu]at hx;injection hx with hx;subst hx;exact Bw
  ·obtain⟨ZK,hxg⟩:=hk x o2 h1 hx;refine pA.mono hs ?_;have gH:=h.obj x o2 k hxg h2;by_cases hB:k.B=g.B
   ·have hd:=h.vF x b o2 _ k g ZK hxg hb h2 hg (rwR uK);have kg:k.e<=g.s\/g.e<=k.s:=hd.resolve_left (λfp=>fp hB);cases o2 with
    |cells Ls=>obtain⟨c0,t0,fr0,e1,e0,e2,e3,e4⟩:=gH;rw[hB,hc]at e1;injection e1 with e1;injection e1 with e1 e1';subst e1;refine⟨c',t,(0,0),by rw[hB];exact yT,λ_=>rfl,e2,by omega,λi v hv=>?_⟩;obtain⟨v',f1,f2⟩:=e4 i v hv;have hi:i<Ls.length:=(dh.1 hv).1;exact⟨v',by rw[zx _ (by omega)];exact f1,f2⟩
    |ro Ls=>obtain⟨c0,t0,fr,e1,e2,e3⟩:=gH;rw[hB,hc]at e1;injection e1 with e1;injection e1 with e1 e1';subst e1;refine⟨c',t,(0,0),by rw[hB];exact yT,e2,λi v hv=>?_⟩;have hi:i<Ls.length:=(dh.1 hv).1;obtain⟨v',f1,f2⟩:=e3 i v hv;exact⟨v',by rw[zx _ (by omega)];exact f1,f2⟩
    |map es nW=>obtain⟨_,_,iW,e1,_⟩:=gH;rw[hB,hc]at e1;cases e1
    |loop st qU R nt ps aC4 bd=>obtain⟨_,_,r,e1,_⟩:=gH;rw[hB,hc]at e1;cases e1
    |rh s pos=>obtain⟨_,_,e1⟩:=gH;rw[hB,hc]at e1;cases e1
    |tc t2 Ls=>obtain⟨a1,a2,a3,c0,e1,e2,e3,e4⟩:=gH;rw[hB,hc]at e1;injection e1 with e1;injection e1 with e1 e1';subst e1;subst e1';refine⟨a1,a2,a3,c',by rw[hB];exact yT,e2,by omega,λi v hv=>?_⟩;obtain⟨v',f1,f2⟩:=e4 i v hv;have hi:i<Ls.length:=(dh.1 hv).1;exact⟨v',by rw[zx _ (by omega)];exact f1,f2⟩
   ·exact gH.same (mD _ hB)
 ·intro b1 b2 o1 o2 g1 g2 fp h1 h2 k1 k2 hr;have sub:∀x o2 k,x≠W.next->((W.kill b).add o').get x=some o2->σ x=some k->g.B≠k.B\/g.e<=k.s\/k.e<=g.s+off:=λx o2 k hxn hx hxk=>by
   obtain⟨ZK,hxg⟩:=hk x o2 hxn hx;rcases h.vF b x _ o2 g k (bc ZK) hb hxg hg hxk (rwL uK)with r|r|r
   ·exact .inl r
   ·exact .inr (.inl r)
   ·exact .inr (.inr (by omega))
  rcases tL b1 g1 k1 with⟨rfl,rfl⟩|⟨x1,y1⟩
  ·rcases tL b2 g2 k2 with⟨rfl,rfl⟩|⟨x2,y2⟩
   ·exact absurd rfl fp
   ·exact sub b2 o2 g2 x2 h2 y2
  ·rcases tL b2 g2 k2 with⟨rfl,rfl⟩|⟨x2,y2⟩
   ·rcases sub b1 o1 g1 x1 h1 y1 with r|r|r
    ·exact .inl (bc r)
    ·exact .inr (.inr r)
    ·exact .inr (.inl r)
   ·exact h.vF _ _ _ _ _ _ fp (hk _ _ x1 h1).2 (hk _ _ x2 h2).2 y1 y2 hr
 ·intro x cs0 hx;have ZK:x≠b:=λe=>by subst e;exact ajn cs0 hx
  have hxn:W.next≠x:=λe=>by subst e;rw[h.free _ (aQ _)]at hx;cases hx
  rw[AW.aE _ _ (by rw[AW.dr];exact hxn),AW.de _ (bc ZK)];exact hx
 ·rw[vZ];exact aQ _
 ·intro B hB hm;exact mD B (λe=>by subst e;exact hm ⟨b,g,hg,rfl,ajn⟩)
 ·intro x o2 hx hxk;have ZK:x≠b:=λe=>by subst e;rw[hg]at hxk;cases hxk
  have hxn:W.next≠x:=λe=>by subst e;rw[h.free _ (aQ _)]at hx;cases hx
  refine⟨by rw[AW.aE _ _ (by rw[AW.dr];exact hxn),AW.de _ (bc ZK)];exact hx,?_⟩;unfold cu;rw[ap (bc hxn)];exact hxk
 ·intro x k CZ hB;rcases tL x k CZ with⟨rfl,rfl⟩|⟨h1,h2⟩
  ·exact .inr ⟨b,g,hg,rfl,ajn⟩
  ·exact .inl h2
def bI.ak5(h:bI σ W w.heap){b off:Nat}{cs cV:List ad}{g:zY}(hb:W.get b=some (.cells cs))(hg:σ b=some g)
 (vZ:w'.heap.size=w.heap.size)(hos:w'.os=w.os)(htp:w'.tape=w.tape)(Gd:w'.output=w.output)
 (mD:∀B,B≠g.B->w'.heap[B]? =w.heap[B]?)
 {c c':Array ad}{t:af}(hc:w.heap[g.B]? =some (.cells c t (0,0)))(yT:w'.heap[g.B]? =some (.cells c' t (0,0)))(sW:c'.size=c.size)
 (zx:∀i,i<g.s+off\/g.e<=i->c'[i]? =c[i]?)(dv:g.s+off+cV.length<=g.e)
 (nP:∀(i:Nat) (v:ad),cV[i]? =some v->∃v',c'[g.s+off+i]? =some v'/\VR σ v v'):
 bI (cu σ W.next ⟨g.B,g.s+off,g.e⟩) ((W.kill b).add (.cells cV)) w'.heap/\fT σ W w (cu σ W.next ⟨g.B,g.s+off,g.e⟩) ((W.kill b).add (.cells cV)) w':=by
 obtain⟨c0,t0,fr0,q1,q0,q2,q3,q4⟩:=h.obj b _ g hb hg;rw[hc]at q1;injection q1 with q1;injection q1 with q1 q1';subst q1;refine h.OJ hb (λ_=>by simp) hg vZ hos htp Gd mD hc yT sW zx ⟨c',t,(0,0),yT,λ_=>rfl,dv,by simp only;omega,λi v hv=>?_⟩;obtain⟨v',f1,f2⟩:=nP i v hv;exact⟨v',f1,f2.mono (dR h.fresh)⟩
def cq(W:AW)(x:ad)(m:Nat):Option (List ad):=
 match x with
 |.slice none _ _=>if m=0 then some []else none
 |.slice (some a) len _=>if m=0 then some []else if len=0 then none else pH W a.block a.off m
 |_=>none
def Ca(h:bI σ W w.heap){x x':ad}{n z:Nat}{l:List ad}(hr:cq W x (n*z)=some l)(hx:VR σ x x'):
 ∃l',LR σ l l'/\l.length=n*z/\(Builtin.firstCells z n x').run P w=.ok l'.toArray w:=by
 have h0:∀(a':bg),(loadCells a' 0).run P w=.ok #[] w:=λa'=>by simp[loadCells,loadCellsFrom]
 unfold cq at hr;split at hr
 ·split at hr
  ·rename_i hm;injection hr with hr;subst hr;cases hx;exact⟨[],.nil,by simp[hm],by simp[Builtin.firstCells]⟩
  ·cases hr
 ·rename_i a _ _;split at hr
  ·rename_i hm;injection hr with hr;subst hr;cases hx
   ·exact⟨[],.nil,by simp[hm],by simp[Builtin.firstCells,hm,h0]⟩
   ·exact⟨[],.nil,by simp[hm],by simp[Builtin.firstCells,hm,h0]⟩
  ·rename_i hm;split at hr
   ·cases hr
   ·rename_i Ss;cases hx with
    |slice _ _ _ c' g hg hs hc=>obtain⟨l',h1,h2,_,h4⟩:=E7 (P:=P) h hr hg;exact⟨l',h1,h2,by simp[Builtin.firstCells,h4]⟩
    |dO _ a' _ g hg hc=>exact absurd rfl Ss
 ·cases hr
def XY(IY:Nat):∀(r c:Nat),c<=2*IY+192->Builtin.growBy IY r c<=2*IY+192:=by
 intro r;induction r with
 |zero=>intro c h;exact h
 |succ r ih=>
  intro c h;simp only[Builtin.growBy];split
  ·exact h
  ·exact ih _ (by omega)
def CD{IY c:Nat}(h:c<IY):Builtin.nextslicecap IY c<=2*IY+192:=by
 unfold Builtin.nextslicecap;split
 ·omega
 ·split
  ·omega
  ·exact XY IY 4 c (by omega)
def oc(P:ag)(t:af):Option af:=match P.underlying t with|some (.slice e)=>some e|_=>none
def ss{t e:af}(h:oc P t=some e):P.underlying t=some (.slice e):=by
 unfold oc at h;split at h
 ·rename_i e' hu;injection h with h;subst h;exact hu
 ·cases h
def dn(P:ag)(W:AW)(argTypes:Array af)(s x:ad):Option (ad×AW):=
 match argTypes.toList with
 |[t0,t1]=>if t0=t1 then
  match oc P t0,s,x with
  |some e,.slice base bW Cr,.slice xb n xc=>match oD P e,(P.info? e).map (λi=>(i.zero,i.bytes))with
   |some z,some (some zv,bytes)=>
    if 0<z/\zv.cells.size=z/\bW+n<1099511627776/\(2*(bW+n)+192)*bytes<=281474976710656 then
     if n=0 then(if bW<=Cr then some (s,W)else none)
     else match cq W (.slice xb n xc) (n*z),cq W s (bW*z)with
      |some new,some wT=>
       if new.all one=true then
        if Cr=eG+z then
         match base with
         |some a=>match W.get a.block with
          |some (.cells _)=>some ((W.kill a.block).new (.cells (wT++new)) λb W'=>(Value.slice (some ⟨b,0,none⟩) (bW+n) (eG+z),W'))
          |some (.tc e' cs)=>if e=e'/\z=1/\a.off=0/\cs.length=bW/\bW≠0/\ai.ex e=false then some ((W.kill a.block).new (.tc e (cs++new)) λb W'=>(Value.slice (some ⟨b,0,none⟩) (bW+n) (eG+1),W'))else none
          |_=>none
         |none=>none
        else if Cr<eG then
         match base with
         |some a=>
          if bW+n<=Cr then(rR W a.block (a.off+bW*z) new).map λW'=>(Value.slice (some a) (bW+n) Cr,W')
          else some (W.new (.cells (wT++new)) λb W'=>(Value.slice (some ⟨b,0,none⟩) (bW+n) (eG+z),W'))
         |none=>if bW=0/\Cr=0 then some (W.new (.cells (wT++new)) λb W'=>(Value.slice (some ⟨b,0,none⟩) (bW+n) (eG+z),W'))else none
        else none
       else none
      |_,_=>none
    else none
   |_,_=>none
  |_,_,_=>none
  else none
 |_=>none
def oL(zero:Array ad)(n:Nat):(Builtin.zeroCells zero n).size=n*zero.size:=by simp[Builtin.zeroCells]
def Sq(hW:bI σ W w.heap)(e:af){z:Nat}{zv:ad}{wT new pE jZ:List ad}{k:Nat}(cap:Nat)
 (h1:LR σ wT pE)(h2:LR σ new jZ)(hz:zv.cells.size=z)(Zd:0<z)(dv:wT.length+new.length=k*z)(rf:k<=cap/\cap<=maxLen):
 VR (cu σ W.next ⟨w.heap.size,0,cap*z⟩) (.slice (some ⟨W.next,0,none⟩) k (eG+z)) (.slice (some ⟨w.heap.size,0,none⟩) k cap)/\
  bI (cu σ W.next ⟨w.heap.size,0,cap*z⟩) (W.add (.cells (wT++new))) ((w.drew.alloc (.cells (pE.toArray++jZ.toArray++Builtin.zeroCells zv.cells (cap-k)) e)).heap)/\
  fT σ W w (cu σ W.next ⟨w.heap.size,0,cap*z⟩) (W.add (.cells (wT++new))) (w.drew.alloc (.cells (pE.toArray++jZ.toArray++Builtin.zeroCells zv.cells (cap-k)) e)):=by
 have vZ:(pE.toArray++jZ.toArray++Builtin.zeroCells zv.cells (cap-k)).size=cap*z:=by have ax5:=rf.1;simp only[Array.size_append,xR,oL,hz,<-h1.1,<-h2.1];rw[dv,<-jP];congr 1;omega
 have:=hW.alloc (o:=.cells (wT++new)) (x:=.cells (pE.toArray++jZ.toArray++Builtin.zeroCells zv.cells (cap-k)) e) (e:=cap*z) (by
  refine⟨pE.toArray++jZ.toArray++Builtin.zeroCells zv.cells (cap-k),e,(0,0),by rw[xS];simp,λ_=>rfl,?_,by rw[vZ];exact aQ _,λi v hv=>?_⟩
  ·simp only[cx,dv,aJ];exact mB _ rf.1
  ·obtain⟨v',a,b⟩:=(h1.append h2).get hv;refine⟨v',?_,b.mono (dR hW.fresh)⟩;have hi:i<(pE++jZ).length:=(dh.1 a).1;rw[aJ,DZ];rw[an (by simpa using hi)];simpa using a);have hv:=VR.slice (σ:=cu σ W.next ⟨w.heap.size,0,cap*z⟩) ⟨W.next,0,none⟩ k (eG+z) cap ⟨w.heap.size,0,cap*z⟩ dN rfl (.open_ z cap Zd rf.1 (by simp) rf.2);exact⟨by simpa using hv,this.1,⟨this.2.sub,this.2.ro,this.2.size,rfl,rfl,rfl,this.2.keep,this.2.ghost,this.2.grow⟩⟩
def RN(P:ag)(w:ar)(t ty e:af)(z:Nat)(base:Option bg)(bW c' xc:Nat)(xb:Option bg)
 (hu:P.underlying t=some (.slice e))(hz:oD P e=some z)(aM:bW<=c'):
 (Builtin.append_ #[t,t] ty #[.slice base bW c',.slice xb 0 xc]).run P w=.ok (.slice base bW c') w:=by
 have h0:∀(a':bg),(loadCells a' 0).run P w=.ok #[] w:=λa'=>by simp[loadCells,loadCellsFrom]
 cases base<;>cases xb<;>simp[Builtin.append_,cm hu,bT hz,Builtin.lenOf,aM,Builtin.firstCells,h0,storeCells]
def zP(P:ag)(w w2:ar)(t ty e:af)(z:Nat)(b off bW c' n xc:Nat)(xb:Option bg)(jZ:List ad)
 (hu:P.underlying t=some (.slice e))(hz:oD P e=some z)
 (Bw:(Builtin.firstCells z n (.slice xb n xc)).run P w=.ok jZ.toArray w)(aM:bW+n<=c')(t7:(storeCells ⟨b,off+bW*z,none⟩ jZ).run P w=.ok () w2):
 (Builtin.append_ #[t,t] ty #[.slice (some ⟨b,off,none⟩) bW c',.slice xb n xc]).run P w=.ok (.slice (some ⟨b,off,none⟩) (bW+n) c') w2:=by
 simp[Builtin.append_,cm hu,bT hz,Builtin.lenOf,aM,Bw,dH,t7]
def Nv{e:af}{zo:Option ad}{bytes z:Nat}(h:(P.info? e).map (λi=>(i.zero,i.bytes))=some (zo,bytes))(hz:oD P e=some z):
 ∃i,P.info? e=some i/\i.zero=zo/\i.bytes=bytes/\i.size=z:=by
 obtain⟨i,hi,h1,_⟩:=Gg hz;rw[hi]at h;simp at h;exact⟨i,hi,h.1,h.2,h1⟩
def iy(h:bI σ W w.heap){A:Option bg}{n c z:Nat}{x':ad}{l:List ad}(hr:cq W (.slice A n c) (n*z)=some l)(hx:VR σ (.slice A n c) x')(hn:0<n*z):
 ∃a' c' l',x'=.slice (some a') n c'/\LR σ l l'/\l.length=n*z/\(∀j v,l'[j]? =some v->w.cell? (a'.add j)=some v):=by
 unfold cq at hr;split at hr
 ·rw[bM]at hr;cases hr
 ·rename_i a len cc Br;injection Br with e1 e2 e3;rw[bM]at hr;split at hr
  ·cases hr
  ·rename_i Ss;subst e1;subst e2;cases hx with
   |slice _ _ _ c' g hg hs hc=>obtain⟨l',h1,h2,h3,_⟩:=E7 (P:=(default:ag)) h hr hg;exact⟨_,c',l',rfl,h1,h2,λj v hj=>by rw[dH];exact h3 j v hj⟩
   |dO _ a' _ g hg hc=>exact absurd rfl Ss
 ·cases hr
def WD(IY wT:Nat)(e:af)(t:Nat):IY<=(Question.appendCap IY wT e).cut t:=by simp only[Question.cut];omega
def O3(hW:bI σ W w.heap)(e:af){cs cV:List ad}{zs:Array ad}{cap:Nat}(h1:LR σ cs cV)(rf:cs.length+zs.size=cap)(h0:0<cs.length)(hm:cap<=maxLen)(IC:ai.ex e=false){c:Array ad}(hc:c=cV.toArray++zs):
 VR (cu σ W.next ⟨w.heap.size,0,cap⟩) (.slice (some ⟨W.next,0,none⟩) cs.length (eG+1)) (.slice (some ⟨w.heap.size,0,none⟩) cs.length cap)/\
  bI (cu σ W.next ⟨w.heap.size,0,cap⟩) (W.add (.tc e cs)) ((w.drew.alloc (.cells c e)).heap)/\
  fT σ W w (cu σ W.next ⟨w.heap.size,0,cap⟩) (W.add (.tc e cs)) (w.drew.alloc (.cells c e)):=by
 subst hc;have hl:=h1.1;have vZ:(cV.toArray++zs).size=cap:=by simp only[Array.size_append,xR];omega
 have:=hW.alloc (o:=.tc e cs) (x:=.cells (cV.toArray++zs) e) (e:=cap) (by refine⟨rfl,by simp only;omega,⟨hm,λhx=>by rw[IC]at hx;cases hx⟩,cV.toArray++zs,by rw[xS];simp,by simp only;omega,by simp only;omega,λi v hv=>?_⟩;obtain⟨v',a,b⟩:=h1.get hv;refine⟨v',?_,b.mono (dR hW.fresh)⟩;have hi:i<cV.length:=(dh.1 a).1;rw[DZ,an (by simpa using hi)];simpa using a);have hv:=VR.slice (σ:=cu σ W.next ⟨w.heap.size,0,cap⟩) ⟨W.next,0,none⟩ cs.length (eG+1) cap ⟨w.heap.size,0,cap⟩ dN rfl (.open_ 1 cap (by omega) (by omega) (by simp) hm);exact⟨by simpa using hv,this.1,⟨this.2.sub,this.2.ro,this.2.size,rfl,rfl,rfl,this.2.keep,this.2.ghost,this.2.grow⟩⟩
def SU(hW:bI σ W w.heap){argTypes:Array af}{ty:af}{s x s' x' v:ad}{W':AW}(h:dn P W argTypes s x=some (v,W'))(hs:VR σ s s')(hx:VR σ x x'):
 ∃σ' v' w',(Builtin.append_ argTypes ty #[s',x']).run P w=.ok v' w'/\VR σ' v v'/\bI σ' W' w'.heap/\fT σ W w σ' W' w':=by
 unfold dn at h;split at h
 ·rename_i t0 t1 sI;have Kg:argTypes=#[t0,t1]:=by rw[<-jL (xs:=argTypes),sI]
  split at h
  ·rename_i ht;subst ht;subst Kg;split at h
   ·rename_i e base bW Cr xb n xc he;have hu:=ss he;split at h
    ·rename_i z zv bytes hz Kx;obtain⟨i,hi,hiz,hib,He⟩:=Nv Kx hz;split at h
     ·rename_i hc;obtain⟨Zd,hzs,hsm,hby⟩:=hc;split at h
      ·rename_i Wa;subst Wa;split at h
       ·rename_i aM;injection h with h;injection h with hv hw;subst hv;subst hw;have mu:∀(c':Nat) (B:Option bg) (We:Option bg) (GZ:Nat),x'=.slice We 0 GZ->s'=.slice B bW c'->bW<=c'->
         ∃σ' v' w',(Builtin.append_ #[t0,t0] ty #[s',x']).run P w=.ok v' w'/\VR σ' (.slice base bW Cr) v'/\bI σ' W w'.heap/\fT σ W w σ' W w':=by
         intro c' B We GZ e1 e2 e3;subst e1;subst e2;exact⟨σ,_,w,RN P w t0 ty e z B bW c' GZ We hu hz e3,hs,hW,fT.refl _ _ _⟩
        have hxf:∃We GZ,x'=.slice We 0 GZ:=by cases hx<;>exact⟨_,_,rfl⟩
        obtain⟨We,GZ,rfl⟩:=hxf;cases hs with
        |I4 l c=>exact mu _ _ We GZ rfl rfl aM
        |slice a l c c' g hg wS ud=>exact mu _ _ We GZ rfl rfl (by rcases ud.inv with⟨_,h2⟩|⟨_,_,_,h2,_⟩<;>omega)
        |dO a a' c g hg ud=>exact mu _ _ We GZ rfl rfl (by omega)
       ·cases h
      ·rename_i Wa;split at h
       ·rename_i new wT Bw gH;split at h
        ·rename_i Jj;have hnz:0<n*z:=qw (by omega) Zd;obtain⟨xa,GZ,jZ,rfl,Hv,Vz,hnc⟩:=iy hW Bw hx hnz;obtain⟨pE,Ro,Ns,DX⟩:=Ca (P:=P) hW gH hs;have hnf:(Builtin.firstCells z n (.slice (some xa) n GZ)).run P w=.ok jZ.toArray w:=by
          have hl:jZ.length=n*z:=by rw[<-Hv.1];exact Vz
          have:=It (P:=P) w xa jZ hnc;rw[hl]at this;simpa[Builtin.firstCells]using this
         have dv:wT.length+new.length=(bW+n)*z:=by rw[Ns,Vz,jP]
         have grow:∀(a':bg) (c':Nat),s'=.slice (some a') bW c'->(0<bW->∀j u,pE[j]? =some u->w.cell? (a'.add j)=some u)->c'<bW+n->
          ∃cap,(bW+n<=cap/\cap<=maxLen)/\(Builtin.append_ #[t0,t0] ty #[s',.slice (some xa) n GZ]).run P w=
           .ok (.slice (some ⟨w.heap.size,0,none⟩) (bW+n) cap) (w.drew.alloc (.cells (pE.toArray++jZ.toArray++Builtin.zeroCells zv.cells (cap-(bW+n))) e)):=by
          intro a' c' e1 e2 e3;subst e1;have rf:=CD e3;have yy:Builtin.nextslicecap (bW+n) c'*i.bytes<=281474976710656:=by have:=mB i.bytes rf;rw[hib]at this|-;omega
          refine⟨_,⟨WD _ _ _ _,Iw w (bW+n) c' e (by unfold maxLen;omega)⟩,run_append_grow (P:=P) w t0 ty e i zv hu hi hiz a' bW c' pE (by rw[<-Ro.1,Ns,He]) (λj u hj=>?_) xa n GZ jZ (by rw[<-Hv.1,Vz,He]) hnc e3 (by omega) yy⟩;refine e2 ?_ j u hj;rcases Nat.eq_zero_or_pos bW with h0|h0
          ·have h1:=Ns;rw[h0,um,Ro.1]at h1;have:=(dh.1 hj).1;omega
          ·exact h0
         have ai4:=λ(cap:Nat) (rf:bW+n<=cap/\cap<=maxLen)=>Sq (w:=w) hW e cap Ro Hv hzs Zd dv rf
         split at h
         ·rename_i vd;split at h
          ·rename_i a;split at h
           ·rename_i cs dT;injection h with h;rw[AW.dX]at h;injection h with hv hw;have uK:∀cs,W.get a.block≠some (.ro cs):=λcs hx=>by rw[dT]at hx;cases hx
            have hmp:∃g0,σ a.block=some g0:=by cases hs with|slice _ _ _ c' g hg wS ud=>exact⟨g,hg⟩|dO _ a' _ g hg ud=>exact⟨g,hg⟩
            obtain⟨g0,hg0⟩:=hmp;obtain⟨hWk,hEk⟩:=hW.kill uK hg0;have aiy:∀(cap:Nat),(bW+n<=cap/\cap<=maxLen)->(Builtin.append_ #[t0,t0] ty #[s',.slice (some xa) n GZ]).run P w=
             .ok (.slice (some ⟨w.heap.size,0,none⟩) (bW+n) cap) (w.drew.alloc (.cells (pE.toArray++jZ.toArray++Builtin.zeroCells zv.cells (cap-(bW+n))) e))->
             ∃σ' v' w',(Builtin.append_ #[t0,t0] ty #[s',.slice (some xa) n GZ]).run P w=.ok v' w'/\VR σ' v v'/\bI σ' W' w'.heap/\fT σ W w σ' W' w':=by
             intro cap rf kP;obtain⟨g1,g2,g3⟩:=Sq (w:=w) hWk e cap Ro Hv hzs Zd dv rf;exact⟨_,_,_,kP,by rw[<-hv];exact g1,by rw[<-hw];exact g2,by rw[<-hw];exact hEk.trans g3⟩
            cases hs with
            |dO _ a' _ g hg ud=>obtain⟨cap,h1,h2⟩:=grow a' 0 rfl (λhx=>absurd hx (by omega)) (by omega);exact aiy cap h1 h2
            |slice _ _ _ c' g hg wS ud=>
             rcases ud.inv with⟨hk,_⟩|⟨z',CW,hzz,hlc,Br⟩
             ·exact absurd hk (by omega)
             ·have EU:z'=z:=by omega
              subst EU;obtain⟨c0,ct,fr0,q1,q0,q2,q3,q4⟩:=hW.obj a.block _ g dT hg;by_cases yy:bW+n<=c'
              ·have hcz:0<c'*z':=qw (by omega) Zd;obtain rfl:=q0 (by omega);have aq2:(bW+n)*z'<=c'*z':=mB _ yy;have hml:bW*z'+n*z'=(bW+n)*z':=(jP _ _ _).symm;have t7:=ID (P:=P) g.B (g.s+a.off+bW*z') ct jZ 0 c0 w q1 (by rw[<-Hv.1,Vz];omega) (Iu Hv Jj);simp only[gv]at t7;have kP:=zP P w _ t0 ty e z' g.B (g.s+a.off) bW c' n GZ (some xa) jZ hu hz hnf yy t7;have atP:jZ.length=n*z':=by rw[<-Hv.1];exact Vz
               have ayY:pE.length=bW*z':=by rw[<-Ro.1];exact Ns
               have HC:=o8 c0.toList (g.s+a.off+bW*z') jZ (by simp;omega);have qS:∀j u,wT[j]? =some u->∃u',c0[g.s+a.off+j]? =some u'/\VR σ u u':=by
                intro j u hj;have ZZ:j<bW*z':=by rw[<-Ns];exact(dh.1 hj).1
                have Hd:0<bW*z':=by omega
                obtain⟨a2,c2,l2,e2,l2r,l2l,l2c⟩:=iy hW gH (VR.slice a bW _ c' g hg wS ud) Hd;injection e2 with e2 _ _;injection e2 with e2;subst e2;obtain⟨u',f1,f2⟩:=l2r.get hj;have:=l2c j u' f1;rw[dH]at this;simp only[World.cell?,q1,vR,ik,cn]at this;exact⟨u',this,f2⟩
               have Qh:=hW.ak5 (w':=w.setRow g.B (c0.toList.take (g.s+a.off+bW*z')++jZ++c0.toList.drop (g.s+a.off+bW*z'+jZ.length)).toArray)
                (b:=a.block) (off:=a.off) (cV:=wT++new) dT hg (by simp[World.setRow]) rfl rfl rfl (λB hB=>lI w g.B B _ hB) q1 (xM w g.B c0 _ ct _ q1) (by simp;omega)
                (by intro j hj;have:=HC j;rw[bM]at this;simpa using this)
                (by rw[cx,dv];omega)
                (by
                  intro j u hj;have h2:=HC (g.s+a.off+j);rw[wW]at hj;split at hj
                  ·rename_i hjl;rw[bM]at h2;obtain⟨u',f1,f2⟩:=qS j u hj;exact⟨u',by rw[<-f1];simpa using h2,f2⟩
                  ·rename_i hjl;have hjn:=(dh.1 hj).1;rw[kJ]at h2;obtain⟨u',f1,f2⟩:=Hv.get hj;rw[show g.s+a.off+j-(g.s+a.off+bW*z')=j-wT.length by omega,f1]at h2;exact⟨u',by simpa using h2,f2⟩)
               have hvr:=VR.slice (σ:=cu σ W.next ⟨g.B,g.s+a.off,g.e⟩) ⟨W.next,0,none⟩ (bW+n) (eG+z') c' ⟨g.B,g.s+a.off,g.e⟩ dN rfl (.open_ z' c' Zd yy (by simp only[gv];exact Br) (ud.max.2 (by omega)));simp only[gv]at hvr;exact⟨_,_,_,kP,by rw[<-hv];exact hvr,by rw[<-hw];exact Qh.1,by rw[<-hw];exact Qh.2⟩
              ·obtain⟨cap,h1,h2⟩:=grow _ c' rfl (λHd j u hj=>by
                have H3:0<bW*z':=qw Hd Zd;obtain⟨a2,c2,l2,e2,l2r,l2l,l2c⟩:=iy hW gH (VR.slice a bW _ c' g hg wS ud) H3;injection e2 with e2 _ _;injection e2 with e2;subst e2;have Oa:(Builtin.firstCells z' bW (.slice (some ⟨g.B,g.s+a.off,none⟩) bW c')).run P w=.ok l2.toArray w:=by have:=It (P:=P) w ⟨g.B,g.s+a.off,none⟩ l2 l2c;rw[<-l2r.1,l2l]at this;simpa[Builtin.firstCells]using this
                rw[DX]at Oa;injection Oa with Oa _;have:pE=l2:=by simpa using Oa
                rw[this]at hj;exact l2c j u hj) (by omega);exact aiy cap h1 h2
           ·rename_i e' cs dT;split at h;case isFalse=>cases h
            rename_i hc3;obtain⟨rfl,rfl,Kz,HA,Hd,Qr⟩:=hc3;injection h with h;rw[AW.dX]at h;injection h with hv hw;have uK:∀cs,W.get a.block≠some (.ro cs):=λcs hx=>by rw[dT]at hx;cases hx
            have atP:jZ.length=n:=by rw[<-Hv.1,Vz,gK]
            have av1:new.length=n:=by rw[Vz,gK]
            cases hs with
            |dO _ a' _ g hg ud=>exact absurd rfl Hd
            |slice _ _ _ c' g hg wS ud=>
             rcases ud.inv with⟨hk,_⟩|⟨z',CW,hzz,hlc,Br⟩
             ·unfold eG at hk vd;omega
             ·have EU:z'=1:=by omega
              subst EU;obtain⟨a1,a2,a3,c,q1,q2,q3,q4⟩:=hW.obj a.block _ g dT hg;have asH:c'=c.size:=by omega
              have Zl:(⟨g.B,g.s+a.off,none⟩:bg)=⟨g.B,0,none⟩:=by rw[a1,Kz]
              rw[Zl];have IC:∃pE:List ad,LR σ cs pE/\∀(j:Nat) (u:ad),pE[j]? =some u->c[j]? =some u:=by
               have lA:∀j,j<cs.length->j<c.size:=λj hj=>by omega
               refine⟨c.toList.take cs.length,⟨by rw[cX];simp;omega,λj u u' h1 h2=>?_⟩,λj u hj=>?_⟩
               ·obtain⟨v',f1,f2⟩:=q4 j u h1;rw[mm]at h2;split at h2
                ·rw[xj,f1]at h2;injection h2 with h2;subst h2;exact f2
                ·cases h2
               ·rw[mm]at hj;split at hj
                ·simpa using hj
                ·cases hj
              obtain⟨ajF,aqE,hoc⟩:=IC;have awK:=aqE.1;have hap:=aqE.append Hv;by_cases yy:bW+n<=c'
              ·have t7:=ID (P:=P) g.B (0+bW*1) e jZ 0 c w q1 (by omega) (Iu Hv Jj);simp only[gv]at t7;have kP:=zP P w _ t0 ty e 1 g.B 0 bW c' n GZ (some xa) jZ hu hz hnf yy t7;have HC:=o8 c.toList (0+bW*1) jZ (by simp;omega);have Qh:=hW.OJ (w':=w.setRow g.B (c.toList.take (0+bW*1)++jZ++c.toList.drop (0+bW*1+jZ.length)).toArray) (b:=a.block) (off:=0) (o':=.tc e (cs++new))
                (c':=(c.toList.take (0+bW*1)++jZ++c.toList.drop (0+bW*1+jZ.length)).toArray) dT (λ_=>by simp) hg (by simp[World.setRow]) rfl rfl rfl (λB hB=>lI w g.B B _ hB) q1 (xM w g.B c _ e _ q1) (by simp;omega)
                (λj hj=>by rw[An (by simp;omega),An (by omega)])
                ⟨by simp only;omega,a2,⟨a3.1,λhx=>by rw[Qr]at hx;cases hx⟩,_,xM w g.B c _ e _ q1,by simp only[cx];omega,by simp;omega,λj u hj=>by
                  have h2:=HC j;rw[wW]at hj;split at hj
                  ·rename_i hjl;rw[bM]at h2;obtain⟨u',f1,f2⟩:=q4 j u hj;exact⟨u',by rw[<-f1];simpa using h2,f2.mono (dR hW.fresh)⟩
                  ·rename_i hjl;have hjn:=(dh.1 hj).1;rw[kJ]at h2;obtain⟨u',f1,f2⟩:=Hv.get hj;rw[show j-(0+bW*1)=j-cs.length by omega,f1]at h2;exact⟨u',by simpa using h2,f2.mono (dR hW.fresh)⟩⟩
               have hvr:=VR.slice (σ:=cu σ W.next ⟨g.B,g.s+0,g.e⟩) ⟨W.next,0,none⟩ (bW+n) (eG+1) c' ⟨g.B,g.s+0,g.e⟩ dN rfl (.open_ 1 c' (by omega) yy (by simp only;omega) (ud.max.2 (by omega)));simp only[a1,gv]at hvr;refine⟨_,_,_,kP,by rw[<-hv];exact hvr,?_,?_⟩
               ·rw[<-hw];simpa only[a1,gv]using Qh.1
               ·rw[<-hw];simpa only[a1,gv]using Qh.2
              ·have rf:=CD (show c'<bW+n by omega);have aqP:Builtin.nextslicecap (bW+n) c'*i.bytes<=281474976710656:=by have:=mB i.bytes rf;rw[hib]at this|-;omega
               have kP:=run_append_grow (P:=P) w t0 ty e i zv hu hi hiz ⟨g.B,0,none⟩ bW c' ajF (by rw[<-awK,He];omega) (λj u hj=>by
                have:=hoc j u hj;rw[dH];simp[World.cell?,q1,this]) xa n GZ jZ (by rw[He];omega) hnc (by omega) (by omega) aqP;obtain⟨hWk,hEk⟩:=hW.kill uK hg;have hge:=grownCap_ge w (bW+n) c' e;obtain⟨g1,g2,g3⟩:=O3 (w:=w) hWk e (cs:=cs++new) (cV:=ajF++jZ) (zs:=Builtin.zeroCells zv.cells (grownCap w (bW+n) c' e-(bW+n))) (cap:=grownCap w (bW+n) c' e) hap
                (by rw[cx,oL,hzs];omega) (by rw[cx];omega) (Iw w (bW+n) c' e (by unfold maxLen;omega)) Qr
                (c:=ajF.toArray++jZ.toArray++Builtin.zeroCells zv.cells (grownCap w (bW+n) c' e-(bW+n))) (by simp)
               rw[cx,av1,HA]at g1;exact⟨_,_,_,kP,by rw[<-hv];exact g1,by rw[<-hw];exact g2,by rw[<-hw];exact hEk.trans g3⟩
           ·cases h
          ·cases h
         ·split at h
          ·rename_i CX ayS;split at h
           ·rename_i a;have asR:∀(g:zY) (c':Nat),σ a.block=some g->a.spot=none->L4 g a.off bW Cr c'->s'=.slice (some ⟨g.B,g.s+a.off,none⟩) bW c'->0<bW->∀j u,pE[j]? =some u->w.cell? ((⟨g.B,g.s+a.off,none⟩:bg).add j)=some u:=by
             intro g c' hg wS ud nh Hd j u hj;have H3:0<bW*z:=qw Hd Zd;obtain⟨a2,c2,l2,e2,l2r,l2l,l2c⟩:=iy hW gH (VR.slice a bW _ c' g hg wS ud) H3;injection e2 with e2 _ _;injection e2 with e2;subst e2;have Oa:(Builtin.firstCells z bW (.slice (some ⟨g.B,g.s+a.off,none⟩) bW c')).run P w=.ok l2.toArray w:=by have:=It (P:=P) w ⟨g.B,g.s+a.off,none⟩ l2 l2c;rw[<-l2r.1,l2l]at this;simpa[Builtin.firstCells]using this
             rw[<-nh,DX]at Oa;injection Oa with Oa _;have:pE=l2:=by simpa using Oa
             rw[this]at hj;exact l2c j u hj
            split at h
            ·rename_i yy;cases hwn:rR W a.block (a.off+bW*z) new with
             |none=>rw[hwn]at h;cases h
             |some W2=>
              rw[hwn]at h;simp only[dA,jd,DK]at h;obtain⟨hv,hw⟩:=h;subst hw;cases hs with
              |dO _ a' _ g hg ud=>omega
              |slice _ _ _ c' g hg wS ud=>
               rcases ud.inv with⟨hk,rfl⟩|⟨z',CW,hzz,hlc,Br⟩
               ·obtain⟨w2,k1,k2,k3⟩:=xK (P:=P) hW hwn hg Hv;have kP:=zP P w w2 t0 ty e z g.B (g.s+a.off) bW c' n GZ (some xa) jZ hu hz hnf yy (by rw[iq];exact k1);refine⟨σ,_,w2,kP,?_,k2,k3⟩;rw[<-hv];exact .slice a _ _ _ g hg wS (.known _ hk)
               ·omega
            ·rename_i yy;injection h with h;rw[AW.dX]at h;injection h with hv hw;have mu:∀(cap:Nat),(bW+n<=cap/\cap<=maxLen)->(Builtin.append_ #[t0,t0] ty #[s',.slice (some xa) n GZ]).run P w=
              .ok (.slice (some ⟨w.heap.size,0,none⟩) (bW+n) cap) (w.drew.alloc (.cells (pE.toArray++jZ.toArray++Builtin.zeroCells zv.cells (cap-(bW+n))) e))->
              ∃σ' v' w',(Builtin.append_ #[t0,t0] ty #[s',.slice (some xa) n GZ]).run P w=.ok v' w'/\VR σ' v v'/\bI σ' W' w'.heap/\fT σ W w σ' W' w':=by
              intro cap rf kP
              obtain⟨g1,g2,g3⟩:=ai4 cap rf
              exact⟨_,_,_,kP,by rw[<-hv];exact g1,by rw[<-hw];exact g2,by rw[<-hw];exact g3⟩
             cases hs with
             |dO _ a' _ g hg ud=>obtain⟨cap,h1,h2⟩:=grow a' 0 rfl (λhx=>absurd hx (by omega)) (by omega);exact mu cap h1 h2
             |slice _ _ _ c' g hg wS ud=>
              have HA:c'<bW+n:=by rcases ud.inv with⟨_,h2⟩|⟨_,_,h2,_,_⟩<;>omega
              obtain⟨cap,h1,h2⟩:=grow _ c' rfl (asR g c' hg wS ud rfl) HA;exact mu cap h1 h2
           ·split at h
            ·rename_i ZM;obtain⟨rfl,rfl,Qr⟩:=ZM;injection h with h;rw[AW.dX]at h;injection h with hv hw;cases hs;have apg:pE=[]:=by have:=Ro.1;rw[Ns,um]at this;exact Am this.symm
             subst apg;have yy:n*i.bytes<=281474976710656:=by have:=mB i.bytes (show n<=2*(0+n)+192 by omega);rw[hib]at this|-;omega
             have kP:=run_append_nil (P:=P) w t0 ty e i zv hu hi hiz xa n GZ jZ (by rw[<-Hv.1,Vz,He]) hnc (by omega) (by omega) yy;obtain⟨g1,g2,g3⟩:=ai4 _ ⟨WD (0+n) 0 e (w.tape w.drawn (.appendCap n 0 e)),by simpa[grownCap]using Iw w n 0 e (by unfold maxLen;omega)⟩;simp only[aJ]at g1 g2 g3 hv;refine⟨_,_,_,kP,by rw[<-hv];exact g1,?_,?_⟩
             ·rw[<-hw];simpa[grownCap]using g2
             ·rw[<-hw];simpa[grownCap]using g3
            ·cases h
          ·cases h
        ·cases h
       ·cases h
     ·cases h
    ·cases h
   ·cases h
  ·cases h
 ·cases h
def K6(P:ag)(W:AW)(argTypes:Array af)(s x:ad):Option (ad×AW):=
 match argTypes.toList with
 |[t0,t1]=>match P.underlying t1 with
  |some .string=>match oc P t0,s,x with
   |some e,.slice base bW Cr,.string str=>match oD P e,(P.info? e).map (λi=>(i.zero,i.bytes))with
    |some 1,some (some (Value.int IntKind.u8 (.ofNat 0)),1)=>
     if bW+str.size<1099511627776 then
      if str.size=0 then(if bW<=Cr then some (s,W)else none)
      else match base with
       |some a=>if Cr=eG+1/\a.off=0 then match W.get a.block with
        |some (.tc e' cs)=>if e=e'/\cs.length=bW/\bW≠0/\ai.ex e=false then some ((W.kill a.block).new (.tc e (cs++Lib.strCells str)) λb W'=>(Value.slice (some ⟨b,0,none⟩) (bW+str.size) (eG+1),W'))else none
        |_=>none
        else none
       |none=>if bW=0/\Cr=0/\ai.ex e=false then some (W.new (.tc e (Lib.strCells str)) λb W'=>(Value.slice (some ⟨b,0,none⟩) (0+str.size) (eG+1),W'))else none
     else none
    |_,_=>none
   |_,_,_=>none
  |_=>none
 |_=>none
def y8(σ:dz)(s:ByteArray):LR σ (Lib.strCells s) (Lib.strCells s):=by
 refine⟨rfl,λi v v' h1 h2=>?_⟩;rw[h1]at h2;injection h2 with h2;subst h2;unfold Lib.strCells at h1;rw[jJ]at h1;cases hx:s.data.toList[i]? with
 |none=>rw[hx]at h1;cases h1
 |some b=>rw[hx]at h1;injection h1 with h1;subst h1;exact .int _ _
def OS(hW:bI σ W w.heap){argTypes:Array af}{ty:af}{s x s' x' v:ad}{W':AW}(h:K6 P W argTypes s x=some (v,W'))(hs:VR σ s s')(hx:VR σ x x'):
 ∃σ' v' w',(Builtin.append_ argTypes ty #[s',x']).run P w=.ok v' w'/\VR σ' v v'/\bI σ' W' w'.heap/\fT σ W w σ' W' w':=by
 unfold K6 at h;split at h
 ·rename_i t0 t1 sI;have Kg:argTypes=#[t0,t1]:=by rw[<-jL (xs:=argTypes),sI]
  subst Kg;split at h
  ·rename_i agP;split at h
   ·rename_i e base bW Cr str he;have hu:=ss he;cases hx;split at h
    ·rename_i hz Kx;obtain⟨i,hi,hiz,hib,He⟩:=Nv Kx hz;split at h
     ·rename_i hsm;have hmx:∀n sc,n<=maxLen->grownCap w n sc e<=maxLen:=λn sc hn=>Iw w n sc e hn
      have hml:bW+str.size<=maxLen:=by unfold maxLen;omega
      split at h
      ·rename_i Wa;split at h
       ·rename_i aM;injection h with h;injection h with hv hw;subst hv;subst hw;have ZM:∀(a':bg),(loadCells a' 0).run P w=.ok #[] w:=λa'=>by simp[loadCells,loadCellsFrom]
        have mu:∀(c':Nat) (B:Option bg),s'=.slice B bW c'->bW<=c'->∃σ' v' w',(Builtin.append_ #[t0,t1] ty #[s',.string str]).run P w=.ok v' w'/\VR σ' (.slice base bW Cr) v'/\bI σ' W w'.heap/\fT σ W w σ' W w':=by intro c' B e2 e3;subst e2;have hf:=Lib.run_firstCells_string (P:=P) w 1 str;rw[Wa]at hf;have N9:Lib.strCells str=[]:=Am (by rw[oQ];exact Wa);rw[N9]at hf;refine⟨σ,_,w,?_,hs,hW,fT.refl _ _ _⟩;cases B<;>simp[Builtin.append_,cm hu,cm agP,bT hz,Builtin.lenOf,Wa,e3,hf,storeCells]
        cases hs with
        |I4 l c=>exact mu _ _ rfl aM
        |slice a l c c' g hg wS ud=>exact mu _ _ rfl (by rcases ud.inv with⟨_,h2⟩|⟨_,_,_,h2,_⟩<;>omega)
        |dO a a' c g hg ud=>exact mu _ _ rfl (by omega)
       ·cases h
      ·rename_i Wa;split at h
       ·rename_i a;split at h
        ·rename_i wx;obtain⟨vd,Kz⟩:=wx;split at h
         ·rename_i e' cs dT;split at h
          ·rename_i hc3;obtain⟨rfl,HA,Hd,Qr⟩:=hc3;injection h with h;rw[AW.dX]at h;injection h with hv hw;have uK:∀cs,W.get a.block≠some (.ro cs):=λcs hx=>by rw[dT]at hx;cases hx
           cases hs with
           |dO _ a' _ g hg ud=>exact absurd rfl Hd
           |slice _ _ _ c' g hg wS ud=>
            rcases ud.inv with⟨hk,_⟩|⟨z',CW,hzz,hlc,Br⟩
            ·unfold eG at hk vd;omega
            ·have EU:z'=1:=by omega
             subst EU;obtain⟨a1,a2,a3,c,q1,q2,q3,q4⟩:=hW.obj a.block _ g dT hg;have asH:c'=c.size:=by omega
             have Zl:(⟨g.B,g.s+a.off,none⟩:bg)=⟨g.B,0,none⟩:=by rw[a1,Kz]
             rw[Zl];have IC:∃pE:List ad,LR σ cs pE/\∀(j:Nat) (u:ad),pE[j]? =some u->c[j]? =some u:=by
              have lA:∀j,j<cs.length->j<c.size:=λj hj=>by omega
              refine⟨c.toList.take cs.length,⟨by rw[cX];simp;omega,λj u u' h1 h2=>?_⟩,λj u hj=>?_⟩
              ·obtain⟨v',f1,f2⟩:=q4 j u h1;rw[mm]at h2;split at h2
               ·rw[xj,f1]at h2;injection h2 with h2;subst h2;exact f2
               ·cases h2
              ·rw[mm]at hj;split at hj
               ·simpa using hj
               ·cases hj
             obtain⟨pE,Ro,hoc⟩:=IC;have Ns:=Ro.1;have hap:=Ro.append (y8 σ str);by_cases yy:bW+str.size<=c'
             ·have kP:=Lib.run_append_room_string (P:=P) w t0 t1 ty e i hu agP hi He g.B bW c' c q1 str yy (by omega);have HC:=o8 c.toList bW (Lib.strCells str) (by rw[oQ];simp;omega);rw[oQ]at HC;have Qh:=hW.OJ (w':=w.setRow g.B (c.toList.take bW++Lib.strCells str++c.toList.drop (bW+str.size)).toArray) (b:=a.block) (off:=0) (o':=.tc e (cs++Lib.strCells str))
               (c':=(c.toList.take bW++Lib.strCells str++c.toList.drop (bW+str.size)).toArray) dT (λ_=>by simp) hg (by simp[World.setRow]) rfl rfl rfl (λB hB=>lI w g.B B _ hB) q1 (xM w g.B c _ e _ q1) (by simp[oQ];omega)
               (λj hj=>by rw[An (by simp[oQ];omega),An (by omega)])
               ⟨by simp only;omega,a2,⟨a3.1,λhx=>by rw[Qr]at hx;cases hx⟩,_,xM w g.B c _ e _ q1,by simp only[cx,oQ];omega,by simp[oQ];omega,λj u hj=>by
                 have h2:=HC j;rw[wW]at hj;split at hj
                 ·rename_i hjl;rw[bM]at h2;obtain⟨u',f1,f2⟩:=q4 j u hj;exact⟨u',by rw[<-f1];simpa using h2,f2.mono (dR hW.fresh)⟩
                 ·rename_i hjl;have hjn:=(dh.1 hj).1;rw[oQ]at hjn;rw[kJ]at h2;obtain⟨u',f1,f2⟩:=(y8 σ str).get hj;rw[HA]at f1;rw[f1]at h2;exact⟨u',by simpa using h2,f2.mono (dR hW.fresh)⟩⟩
              have hvr:=VR.slice (σ:=cu σ W.next ⟨g.B,g.s+0,g.e⟩) ⟨W.next,0,none⟩ (bW+str.size) (eG+1) c' ⟨g.B,g.s+0,g.e⟩ dN rfl (.open_ 1 c' (by omega) yy (by simp only;omega) (ud.max.2 (by omega)));simp only[a1,gv]at hvr;refine⟨_,_,_,kP,by rw[<-hv];exact hvr,?_,?_⟩
              ·rw[<-hw];simpa only[a1,gv]using Qh.1
              ·rw[<-hw];simpa only[a1,gv]using Qh.2
             ·have rf:=CD (show c'<bW+str.size by omega);have kP:=Lib.run_append_grow_string (P:=P) w t0 t1 ty e i (.int .u8 0) hu agP hi hiz ⟨g.B,0,none⟩ bW c' pE (by rw[<-Ns,He];omega) (λj u hj=>by
               have:=hoc j u hj;rw[dH];simp[World.cell?,q1,this]) str (by omega) (by omega) (by rw[hib];omega);obtain⟨hWk,hEk⟩:=hW.kill uK hg;have hge:=grownCap_ge w (bW+str.size) c' e;obtain⟨g1,g2,g3⟩:=O3 (w:=w) hWk e (cs:=cs++Lib.strCells str) (cV:=pE++Lib.strCells str) (zs:=Builtin.zeroCells (Value.int .u8 0).cells (grownCap w (bW+str.size) c' e-(bW+str.size))) (cap:=grownCap w (bW+str.size) c' e) hap
               (by rw[cx,oQ,oL,show(Value.int IntKind.u8 0).cells.size=1 from rfl];omega) (by rw[cx,oQ];omega) (hmx _ _ hml) Qr
               (c:=pE.toArray++(Lib.strCells str).toArray++Builtin.zeroCells (Value.int .u8 0).cells (grownCap w (bW+str.size) c' e-(bW+str.size))) (by simp)
              rw[cx,oQ,HA]at g1;exact⟨_,_,_,kP,by rw[<-hv];exact g1,by rw[<-hw];exact g2,by rw[<-hw];exact hEk.trans g3⟩
          ·cases h
         ·cases h
        ·cases h
       ·split at h
        ·rename_i ZM;obtain⟨rfl,rfl,Qr⟩:=ZM;injection h with h;rw[AW.dX]at h;injection h with hv hw;cases hs;have yy:str.size*i.bytes<=281474976710656:=by rw[hib];omega
         have kP:=run_append_nil_string (P:=P) w t0 t1 ty e i (.int .u8 0) hu agP hi hiz str (by omega) (by omega) yy;have hge:=grownCap_ge w str.size 0 e;obtain⟨g1,g2,g3⟩:=O3 (w:=w) hW e (cs:=Lib.strCells str) (cV:=Lib.strCells str) (zs:=Builtin.zeroCells (Value.int .u8 0).cells (grownCap w str.size 0 e-str.size)) (cap:=grownCap w str.size 0 e) (y8 σ str)
          (by rw[oQ,oL,show(Value.int IntKind.u8 0).cells.size=1 from rfl];omega) (by rw[oQ];omega) (hmx _ _ (by omega)) Qr
          (c:=str.data.map (λb=>Value.int .u8 b.toNat)++Builtin.zeroCells (Value.int .u8 0).cells (grownCap w str.size 0 e-str.size)) (by congr 1;apply Array.ext';simp[Lib.strCells])
         rw[oQ]at g1;exact⟨_,_,_,kP,by rw[<-hv,aJ];exact g1,by rw[<-hw];exact g2,by rw[<-hw];exact g3⟩
        ·cases h
     ·cases h
    ·cases h
   ·cases h
  ·cases h
 ·cases h
def D1(P:ag)(W:AW)(argTypes:Array af)(s x:ad):Option (ad×AW):=
 match argTypes.toList with
 |[t0,t1]=>if t0=t1 then dn P W argTypes s x else K6 P W argTypes s x
 |_=>none
def OT(hW:bI σ W w.heap){argTypes:Array af}{ty:af}{s x s' x' v:ad}{W':AW}(h:D1 P W argTypes s x=some (v,W'))(hs:VR σ s s')(hx:VR σ x x'):
 ∃σ' v' w',(Builtin.append_ argTypes ty #[s',x']).run P w=.ok v' w'/\VR σ' v v'/\bI σ' W' w'.heap/\fT σ W w σ' W' w':=by
 unfold D1 at h;split at h
 ·split at h
  ·exact SU hW h hs hx
  ·exact OS hW h hs hx
 ·cases h
def xv(x:ad):Option ad:=match x with
 |.slice none _ _=>some (.pointer none)
 |.slice (some a) l c=>if l≠0/\c≠0 then some (.pointer (some a))else none
 |_=>none
def Jg{x x' v:ad}{ts:Array af}{ty:af}(h:xv x=some v)(hx:VR σ x x'):∃v',(Builtin.unsafeSliceData_ ts ty #[x']).run P w=.ok v' w/\VR σ v v':=by
 unfold xv at h;split at h
 ·injection h with h;subst h;cases hx;exact⟨_,Lib.run_unsafeSliceData_nil _ _ _ _ _,.PP⟩
 ·split at h
  ·rename_i a l c hc;injection h with h;subst h;cases hx with
   |slice _ _ _ c' g hg hs ud=>exact⟨_,Lib.run_unsafeSliceData_row _ _ _ _ _ _ (by rcases ud.inv with⟨_,h2⟩|⟨_,_,_,h2,_⟩<;>omega),.ptr a g hg hs⟩
   |dO _ a' _ g hg ud=>exact absurd rfl hc.1
  ·cases h
 ·cases h
def byteOf(v:ad):Option UInt8:=match v with
 |.int .u8 (.ofNat n)=>if n<256 then some (UInt8.ofNat n)else none
 |_=>none
def Yb{v:ad}{x:UInt8}(h:byteOf v=some x):v=.int .u8 x.toNat:=by
 unfold byteOf at h;split at h
 ·rename_i n;split at h
  ·rename_i hn;injection h with h;subst h;have:(UInt8.ofNat n).toNat=n:=by simp;omega
   rw[this];rfl
  ·cases h
 ·cases h
def C5:List ad->Option (List UInt8):=List.rec (motive:=λ_=>Option (List UInt8)) (some []) (λv _ ih=>match byteOf v with
 |some b=>ih.map (λl=>b::l)
 |none=>none)
def zJ:∀{cs:List ad} {l:List UInt8},C5 cs=some l->cs.length=l.length/\∀(j:Nat) (x:UInt8),l[j]? =some x->cs[j]? =some (.int .u8 x.toNat)
 |[],l,h=>by injection h with h;subst h;exact⟨rfl,λj x hj=>by simp at hj⟩
 |v::cs,l,h=>by
  have h':(match byteOf v with
   |some b=>(C5 cs).map (λl=>b::l)
   |none=>none)=some l:=h;cases hv:byteOf v with
  |none=>rw[hv]at h';cases h'
  |some b0=>
   rw[hv]at h';cases hb:C5 cs with
   |none=>rw[hb]at h';cases h'
   |some l0=>
    rw[hb]at h';injection h' with h';subst h';obtain⟨h1,h2⟩:=zJ hb;refine⟨by simp[h1],λj x hj=>?_⟩;cases j with
    |zero=>simp only[Fj,jd]at hj|-;subst hj;exact Yb hv
    |succ j=>simpa using h2 j x (by simpa using hj)
def YA(w:ar)(a:bg)(m:Nat){c:Array ad}{t:af}{fr:Nat×Nat}(h:w.heap[a.block]? =some (.cells c t fr)):∃fr',(w.freeze a m).heap[a.block]? =some (.cells c t fr'):=by
 unfold World.freeze;split
 ·exact⟨fr,h⟩
 ·obtain⟨lo,hi⟩:=fr;simp only[Aj,an,h,dA];exact⟨_,rfl⟩
def XH(w:ar)(a:bg)(m:Nat){B:Nat}(h:B≠a.block):(w.freeze a m).heap[B]? =w.heap[B]? :=by
 unfold World.freeze;split
 ·rfl
 ·simp only[Aj];rw[ap (bc h)]
def P4(w:ar)(a:bg)(m:Nat):(w.freeze a m).heap.size=w.heap.size:=by
 unfold World.freeze;split
 ·rfl
 ·simp
def X0(w:ar)(a:bg)(m:Nat):(w.freeze a m).os=w.os/\(w.freeze a m).tape=w.tape/\(w.freeze a m).output=w.output:=by unfold World.freeze;split<;>exact⟨rfl,rfl,rfl⟩
def bI.afU(h:bI σ W w.heap){b:Nat}{t:af}{cs:List ad}{g:zY}(hb:W.get b=some (.tc t cs))(hg:σ b=some g)(m:Nat):
 bI σ (W.kill b) (w.freeze ⟨g.B,0,none⟩ m).heap/\fT σ W w σ (W.kill b) (w.freeze ⟨g.B,0,none⟩ m):=by
 have uK:∀cs,W.get b≠some (.ro cs):=λcs hx=>by rw[hb]at hx;cases hx
 have hk:∀c o,(W.kill b).get c=some o->c≠b/\W.get c=some o:=λc o hc=>by
  by_cases hx:c=b
  ·subst hx;rw[AW.DS]at hc;cases hc
  ·rw[AW.de _ (bc hx)]at hc;exact⟨hx,hc⟩
 obtain⟨a1,a2,a3,c,q1,q2,q3,q4⟩:=h.obj b _ g hb hg;obtain⟨fr',sI⟩:=YA w ⟨g.B,0,none⟩ m q1;have vZ:=P4 w ⟨g.B,0,none⟩ m;obtain⟨os1,os2,os3⟩:=X0 w ⟨g.B,0,none⟩ m;have mD:∀B,B≠g.B->(w.freeze ⟨g.B,0,none⟩ m).heap[B]? =w.heap[B]? :=λB hB=>XH w ⟨g.B,0,none⟩ m hB
 obtain⟨k1,k2⟩:=h.kill uK hg;refine⟨⟨k1.free,λb2 g2 h2=>by rw[vZ];exact h.qL b2 g2 h2,λx o2 g2 hx hy=>?_,k1.vF⟩,⟨.refl _,k2.ro,by rw[vZ];exact aQ _,os1,os2,os3,λB hB hm=>?_,k2.ghost,λx g2 hx _=>.inl hx⟩⟩
 ·obtain⟨ZK,hxg⟩:=hk x o2 hx;have gH:=h.obj x o2 g2 hxg hy;by_cases hB:g2.B=g.B
  ·have hd:g2.e<=g.s\/g.e<=g2.s:=(h.vF x b o2 _ g2 g ZK hxg hb hy hg (rwR (λ_ hx=>by cases hx))).resolve_left (λfp=>fp hB);cases o2 with
   |cells Ls=>obtain⟨c0,t0,fr0,e1,e0,e2,e3,e4⟩:=gH;rw[hB,q1]at e1;injection e1 with e1;injection e1 with e1 e1' awa;subst e1;exact⟨c,t,fr',by rw[hB];exact sI,λlA=>by omega,e2,e3,e4⟩
   |ro Ls=>obtain⟨c0,t0,fr0,e1,e2,e3⟩:=gH;rw[hB,q1]at e1;injection e1 with e1;injection e1 with e1 e1' awa;subst e1;exact⟨c,t,fr',by rw[hB];exact sI,e2,e3⟩
   |map es nW=>obtain⟨_,_,iW,e1,_⟩:=gH;rw[hB,q1]at e1;cases e1
   |loop st qU R nt ps aC4 bd=>obtain⟨_,_,r,e1,_⟩:=gH;rw[hB,q1]at e1;cases e1
   |rh s pos=>obtain⟨_,_,e1⟩:=gH;rw[hB,q1]at e1;cases e1
   |tc t2 Ls=>obtain⟨b1,b2,b3,_⟩:=gH;omega
  ·exact gH.same (mD _ hB)
 ·exact mD B (λe=>by subst e;exact hm ⟨b,g,hg,rfl,uK⟩)
def qp(P:ag)(W:AW)(argTypes:Array af)(p n:ad):Option (ad×AW):=match argTypes.toList with
 |[pt,_]=>match p,n with
  |.pointer q,.int .i64 (.ofNat m)=>if m=0 then some (.string .empty,W)else match q with
   |some a=>match P.underlying pt,W.get a.block with
    |some (.pointer e),some (.tc e' cs)=>if e=e'/\a.off=0/\m<=cs.length/\m<1099511627776 then match oD P e,C5 (cs.take m)with
     |some 1,some l=>some (.string ⟨l.toArray⟩,W.kill a.block)
     |_,_=>none
     else none
    |_,_=>none
   |none=>none
  |_,_=>none
 |_=>none
def Ef(hW:bI σ W w.heap){argTypes:Array af}{ty:af}{p n p' n' v:ad}{W':AW}(h:qp P W argTypes p n=some (v,W'))(hp:VR σ p p')(hn:VR σ n n'):
 ∃σ' v' w',(Builtin.unsafeString_ argTypes ty #[p',n']).run P w=.ok v' w'/\VR σ' v v'/\bI σ' W' w'.heap/\fT σ W w σ' W' w':=by
 unfold qp at h;split at h
 ·rename_i pt it sI;have Kg:argTypes=#[pt,it]:=by rw[<-jL (xs:=argTypes),sI]
  subst Kg;split at h
  ·rename_i q m;cases hn;split at h
   ·rename_i hm0;injection h with h;injection h with h1 h2;subst h1;subst h2;subst hm0;obtain⟨q',rfl⟩:∃q',p'=.pointer q':=by cases hp<;>exact⟨_,rfl⟩
    exact⟨σ,_,w,Lib.run_unsafeString_none w pt it ty q',.string _,hW,fT.refl _ _ _⟩
   ·rename_i hm0;split at h
    ·rename_i a;split at h
     ·rename_i e e' cs hu dT;split at h
      ·rename_i hc;obtain⟨rfl,Kz,hmc,hmb⟩:=hc;split at h
       ·rename_i l hz hl;injection h with h;injection h with h1 h2;subst h1;subst h2;cases hp with
        |ptr _ g hg hs=>
         obtain⟨a1,a2,a3,c,q1,q2,q3,q4⟩:=hW.obj a.block _ g dT hg;obtain⟨b1,b2⟩:=zJ hl;obtain⟨_,_,_,hcz⟩:=Gg hz;have dv:m=l.length:=by rw[<-b1,cX];omega
         have Zl:(⟨g.B,g.s+a.off,none⟩:bg)=⟨g.B,0,none⟩:=by rw[a1,Kz]
         obtain⟨f1,f2⟩:=hW.afU dT hg m;refine⟨σ,_,_,?_,.string _,f1,f2⟩;rw[Zl,dv];refine Lib.run_unsafeString_row w pt it ty e hu hcz g.B c.size (by simp[World.shape?,q1]) l (λe=>by subst e;simp at dv;omega) (by omega) (by omega) ?_;intro j x hj;have h3:=b2 j x hj;rw[mm]at h3;split at h3
         ·obtain⟨v',g1,g2⟩:=q4 j _ h3;cases g2;rw[dH];simp[World.cell?,q1,g1]
         ·cases h3
       ·cases h
      ·cases h
     ·cases h
    ·cases h
  ·cases h
 ·cases h
def wo(P:ag)(W:AW)(s d:af)(x:ad):Option ad:=match x with
 |.slice (some a) n c=>(match P.underlying s,P.underlying d with
  |some (.slice e),some .string=>(match P.underlying e with
   |some (.int .u8)=>(match cq W (.slice (some a) n c) n with
    |some cs=>(match C5 cs with
     |some l=>some (.string ⟨l.toArray⟩)
     |none=>none)
    |none=>none)
   |_=>none)
  |_,_=>none)
 |_=>none
def JI(P:ag)(W:AW)(s d:af)(x:ad)(alt:Option ad):Option ad:=match x with
 |.slice (some a) n c=>wo P W s d (.slice (some a) n c)
 |_=>alt
def L9(hW:bI σ W w.heap){s d:af}{x x' v:ad}(h:wo P W s d x=some v)(hx:VR σ x x'):∃v',(convert s d x').run P w=.ok v' w/\VR σ v v':=by
 unfold wo at h;split at h;case h_2=>cases h
 rename_i a n c;split at h;case h_2=>cases h
 rename_i e hs hd;split at h;case h_2=>cases h
 rename_i he;split at h;case h_2=>cases h
 rename_i cs sW;split at h;case h_2=>cases h
 rename_i l hl;injection h with h;subst h;obtain⟨b1,b2⟩:=zJ hl;rcases Nat.eq_zero_or_pos n with rfl|hn
 ·obtain rfl:cs=[]:=by unfold cq at sW;simp only[an]at sW;injection sW with sW;exact sW.symm
  obtain rfl:l=[]:=mw.1 (by rw[<-b1];rfl);obtain⟨a',c',rfl⟩:∃a' c',x'=.slice (some a') 0 c':=by cases hx<;>exact⟨_,_,rfl⟩
  refine⟨.string ByteArray.empty,?_,.string _⟩;rw[run_convert_bytes_string w s d e _ 0 c' hs he hd,run_bytesToString w _ 0 c' [] (by simp[loadCells,loadCellsFrom])];rfl
 ·obtain⟨a',c',l',rfl,h1,h2,h3⟩:=iy (z:=1) hW (by rw[gK];exact sW) hx (by omega);refine⟨_,?_,.string _⟩;rw[gK]at h2;have hln:l.length=n:=by rw[<-b1,h2]
  rw[run_convert_bytes_string w s d e _ n c' hs he hd,run_bytesToString w _ n c' (l.map λb=>(b.toNat:Int)) ?_]
  ·rw[foldl_push_bytes];congr 2;have:((λn:Int=>UInt8.ofNat n.toNat)∘λb:UInt8=>(b.toNat:Int))=id:=by funext b;simp
   simp[ByteArray.empty,ByteArray.emptyWithCapacity,this];rfl
  ·have:=It (P:=P) w a' (l.map λb=>Value.int .u8 (b.toNat:Int)) (λj u hj=>by
    rw[jJ]at hj;cases hlj:l[j]? with
    |none=>rw[hlj]at hj;cases hj
    |some y=>rw[hlj]at hj;injection hj with hj;subst hj;obtain⟨u',g1,g2⟩:=h1.get (b2 j y hlj);have:=h3 j u' g1;cases g2;exact this);simp only[eP,hln]at this;rw[this,List.map_map];rfl
end
end
section
variable [ai]
section
variable {P:ag} {σ:dz} {W:AW} {w:ar}
def WO(P:ag)(W:AW)(argTypes:Array af)(d x:ad):Option (ad×AW):=
 match argTypes.toList with
 |t0::_=>match oc P t0,d,x with
  |some e,.slice base dl _,.slice xb sl xc=>match oD P e with
   |some z=>
    if Nat.min sl dl=0 then some (goInt 0,W)
    else if z=0 then none
    else match cq W (.slice xb sl xc) (Nat.min sl dl*z),base with
     |some new,some a=>(rR W a.block a.off new).map λW'=>(goInt (Nat.min sl dl),W')
     |_,_=>none
   |none=>none
  |_,_,_=>none
 |[]=>none
def XM(hW:bI σ W w.heap){argTypes:Array af}{ty:af}{d x d' x' v:ad}{W':AW}(h:WO P W argTypes d x=some (v,W'))(hd:VR σ d d')(hx:VR σ x x'):
 ∃v' w',(Builtin.copy_ argTypes ty #[d',x']).run P w=.ok v' w'/\VR σ v v'/\bI σ W' w'.heap/\fT σ W w σ W' w':=by
 have h0:∀(a':bg),(loadCells a' 0).run P w=.ok #[] w:=λa'=>by simp[loadCells,loadCellsFrom]
 unfold WO at h;split at h
 ·rename_i t0 kn sI;have Kg:argTypes=(t0::kn).toArray:=by rw[<-sI]
  subst Kg;split at h
  ·rename_i e base dl dc xb sl xc he;have hu:=ss he;split at h
   ·rename_i z hz;have hxs:∃We GZ,x'=.slice We sl GZ:=by cases hx<;>exact⟨_,_,rfl⟩
    obtain⟨We,GZ,rfl⟩:=hxs;have hds:∃b' c',d'=.slice b' dl c':=by cases hd<;>exact⟨_,_,rfl⟩
    obtain⟨db',dc',rfl⟩:=hds;split at h
    ·rename_i hn;injection h with h;injection h with hv hw;subst hv;subst hw;refine⟨goInt 0,w,?_,.int _ _,hW,fT.refl _ _ _⟩;have hf:(Builtin.firstCells z 0 (.slice We sl GZ)).run P w=.ok #[] w:=by cases We<;>simp[Builtin.firstCells,h0]
     have Lm:min sl dl=0:=hn;cases db'<;>simp[Builtin.copy_,cm hu,Builtin.lenOf,bT hz,hf,storeCells,hn,goInt]
    ·rename_i hn;split at h
     ·cases h
     ·rename_i Zd;split at h
      ·rename_i new a hr;cases hwn:rR W a.block a.off new with
       |none=>rw[hwn]at h;cases h
       |some W2=>
        rw[hwn]at h;simp only[dA,jd,DK]at h;obtain⟨hv,hw⟩:=h;subst hw;subst hv;obtain⟨jZ,h1,h2,h3⟩:=Ca (P:=P) hW hr hx;cases hd with
        |dO _ a' _ g hg ud=>exact absurd (Nat.min_zero _) hn
        |slice _ _ _ c' g hg wS ud=>obtain⟨w2,k1,k2,k3⟩:=xK (P:=P) hW hwn hg h1;refine⟨goInt (Nat.min sl dl),w2,?_,.int _ _,k2,k3⟩;have Lm:Nat.min sl dl=min sl dl:=rfl;rw[Lm]at h3;simp[Builtin.copy_,cm hu,Builtin.lenOf,bT hz,h3,k1,goInt]
      ·cases h
   ·cases h
  ·cases h
 ·cases h
def Po(P:ag)(W:AW)(argTypes:Array af)(x:ad):Option AW:=
 match argTypes.toList with
 |t0::_=>match oc P t0,x with
  |some e,.slice base n _=>match oD P e,kN P e with
   |some z,some zv=>
    if n=0 then some W
    else match base with
     |none=>none
     |some a=>if(Builtin.zeroCells zv.cells n).toList.all cC=true/\0<z then rR W a.block a.off (Builtin.zeroCells zv.cells n).toList else none
   |_,_=>none
  |_,_=>none
 |[]=>none
def Ty(hW:bI σ W w.heap){argTypes:Array af}{ty:af}{x x':ad}{W':AW}(h:Po P W argTypes x=some W')(hx:VR σ x x'):
 ∃w',(Builtin.clear_ argTypes ty #[x']).run P w=.ok (.tuple #[]) w'/\bI σ W' w'.heap/\fT σ W w σ W' w':=by
 unfold Po at h;split at h
 ·rename_i t0 kn sI;have Kg:argTypes=(t0::kn).toArray:=by rw[<-sI]
  subst Kg;split at h
  ·rename_i e base n c he;have hu:=ss he;split at h
   ·rename_i z zv hz hzv;obtain⟨CW,EU⟩:=ji hzv w;split at h
    ·rename_i hn;subst hn;injection h with h;subst h;refine⟨w,?_,hW,fT.refl _ _ _⟩;cases hx<;>simp[Builtin.clear_,cm hu]
    ·rename_i hn;split at h
     ·cases h
     ·rename_i a;split at h
      ·rename_i hc;cases hx with
       |dO _ a' _ g hg ud=>exact absurd rfl hn
       |slice _ _ _ c' g hg wS ud=>obtain⟨w2,k1,k2,k3⟩:=xK (P:=P) hW h hg (LR.qA (σ:=σ) (λ_=>fM) hc.1);refine⟨w2,?_,k2,k3⟩;obtain⟨m,rfl⟩:∃m,n=m+1:=⟨n-1,by omega⟩;simp[Builtin.clear_,cm hu,CW,k1]
      ·cases h
   ·cases h
  ·cases h
 ·cases h
def agH(k:be)(n:Int)(h:k.min<=n/\n<=k.max):k.wrap n=n:=by obtain⟨h1,h2⟩:=h;cases k<;>simp[IntKind.wrap,IntKind.min,IntKind.max,IntKind.signed,IntKind.bits]at * <;>omega
def GU(k:be)(n:Int):Int:=if k.min<=n/\n<=k.max then n else k.wrap n
def Ag(k:be)(n:Int):GU k n=k.wrap n:=by
 unfold GU;split
 ·rename_i h;exact(agH k n h).symm
 ·rfl
def CH(k:be)(n:Int):ad:=
 Int.rec (motive:=λ_=>ad) (λa=>Nat.rec (motive:=λ_=>ad) (.int k (.ofNat 0)) (λm _=>.int k (.ofNat (Nat.succ m))) a)
  (λa=>Nat.rec (motive:=λ_=>ad) (.int k (.negSucc 0)) (λm _=>.int k (.negSucc (Nat.succ m))) a) n
def sF(k:be)(n:Int):CH k n=.int k n:=by
 cases n with
 |ofNat a=>cases a<;>rfl
 |negSucc a=>cases a<;>rfl
def Gn(op:BinOp)(k:be)(a b:Int):Option ad:=
 match op with
 |.add=>some (CH k (GU k (a+b)))
 |.sub=>some (CH k (GU k (a-b)))
 |.mul=>some (CH k (GU k (a*b)))
 |.eql=>some (.bool (decide (a=b)))
 |.neq=>some (.bool (!decide (a=b)))
 |.lss=>some (.bool (decide (a<b)))
 |.leq=>some (.bool (decide (a<=b)))
 |.gtr=>some (.bool (decide (b<a)))
 |.geq=>some (.bool (decide (b<=a)))
 |_=>none
def pB(P:ag)(W:AW)(t:af)(x y:ad):Option Bool:=
 match P.underlying t,x,y with
 |some (.pointer _),.pointer none,.pointer b=>some b.isNone
 |some (.pointer _),.pointer (some _),.pointer none=>some false
 |some (.pointer e),.pointer (some a),.pointer (some b)=>match oD P e with
  |some (_+1)=>match W.get a.block,W.get b.block with
   |some (.cells ca),some (.cells cb)=>if a.block=b.block then some (decide (a.off=b.off))else if a.off<ca.length/\b.off<cb.length then some false else none
   |_,_=>none
  |_=>none
 |some (.slice _),.slice none _ _,.slice b _ _=>some b.isNone
 |some (.slice _),.slice (some _) _ _,.slice none _ _=>some false
 |some (.map _ _),.map none,.map b=>some b.isNone
 |some (.map _ _),.map (some _),.map none=>some false
 |some (.func _ _ _),.nilFunc,.nilFunc=>some true
 |some (.func _ _ _),.nilFunc,.func _ _ _=>some false
 |some (.func _ _ _),.func _ _ _,.nilFunc=>some false
 |_,_,_=>none
def adL(hW:bI σ W w.heap){t:af}{x y x' y':ad}{b:Bool}(h:pB P W t x y=some b)(hx:VR σ x x')(hy:VR σ y y')(d:Nat):
 (Op.equalIn (d+1) t x' y').run P w=.ok b w:=by
 unfold pB at h;split at h
 ·rename_i e b0 hu;injection h with h;subst h;cases hx;cases hy<;>simp[Op.equalIn,cm hu]
 ·rename_i e a0 hu;injection h with h;subst h;cases hx;cases hy;simp[Op.equalIn,cm hu]
 ·rename_i e a0 b0 hu;split at h
  ·rename_i n hn;split at h
   ·split at h
    ·rename_i hab;injection h with h;subst h;cases hx with
     |ptr _ g hg hs=>
      cases hy with
      |ptr _ g2 rX Cd=>
       rw[<-hab,hg]at rX;injection rX with rX;subst rX;have avp:((⟨g.B,g.s+a0.off,none⟩:bg)==⟨g.B,g.s+b0.off,none⟩)=decide (a0.off=b0.off):=by rw[uJ];simp
       simp[Op.equalIn,cm hu,bT hn,sameAddr,avp]
    ·rename_i ca cb hca Ll hab;split at h
     ·rename_i nP;injection h with h;subst h;cases hx with
      |ptr _ g hg hs=>
       cases hy with
       |ptr _ g2 rX Cd=>
        obtain⟨c1,t1,fr1,p1,p0,p2,p3,_⟩:=hW.obj _ _ g hca hg;obtain rfl:=p0 (by omega);obtain⟨c2,t2,fr2,q1,q0,q2,q3,_⟩:=hW.obj _ _ g2 Ll rX;obtain rfl:=q0 (by omega);have hd:=hW.vF _ _ _ _ g g2 hab hca Ll hg rX rfl;have fp:(⟨g.B,g.s+a0.off,none⟩:bg)≠⟨g2.B,g2.s+b0.off,none⟩:=by
         intro he;injection he with e1 e2 _;rcases hd with r|r|r
         ·exact r e1
         ·omega
         ·omega
        simp[Op.equalIn,cm hu,bT hn,run_sameAddr_other w fp p1 q1]
     ·cases h
   ·cases h
  ·cases h
 ·rename_i e _ _ b0 _ _ hu;injection h with h;subst h;cases hx;cases hy<;>simp[Op.equalIn,cm hu]
 ·rename_i e a0 _ _ _ _ hu;injection h with h;subst h;cases hx<;>cases hy<;>simp[Op.equalIn,cm hu]
 ·rename_i k e b0 hu;injection h with h;subst h;cases hx;cases hy<;>simp[Op.equalIn,cm hu]
 ·rename_i k e a0 hu;injection h with h;subst h;cases hx;cases hy;simp[Op.equalIn,cm hu]
 ·rename_i ps rs vv hu;injection h with h;subst h;cases hx;cases hy;simp[Op.equalIn,cm hu]
 ·rename_i ps rs vv _ _ _ hu;injection h with h;subst h;cases hx;cases hy;simp[Op.equalIn,cm hu]
 ·rename_i ps rs vv _ _ _ hu;injection h with h;subst h;cases hx;cases hy;simp[Op.equalIn,cm hu]
 ·cases h
end
end
section
variable [ai]
section
variable {P:ag} {σ:dz} {W:AW} {w:ar}
def FR(σ:dz):Option (Nat×ad)->Option (Nat×ad)->Prop
 |none,none=>True
 |some (i,v),some (j,v')=>i=j/\VR σ v v'
 |_,_=>False
def ER.of_cons{e:bD}{l m:List bD}(h:ER σ (e::l) m):∃e' l',m=e'::l'/\VR σ e.key e'.key/\VR σ e.val e'.val/\e.born=e'.born/\ER σ l l':=by
 cases m with
 |nil=>have:=h.1;simp at this
 |cons e' l'=>have h0:=h.2 0 e e' (by simp) (by simp);exact⟨e',l',rfl,h0.1,h0.2.1,h0.2.2,by have:=h.1;simpa using this,λi u u' a b=>h.2 (i+1) u u' (by simpa using a) (by simpa using b)⟩
def ER.of_nil{m:List bD}(h:ER σ [] m):m=[]:=by have:=h.1;simp at this;exact Am this.symm
def ER.nil:ER σ [] []:=⟨rfl,λi e e' a=>by simp at a⟩
def fV(es:List bD):Bool:=es.all λe=>bL e.key
def Qb(kind:TypeDesc)(k:ad):∀(es iW:List bD) (i:Nat) (r:Option (Nat×ad)),ER σ es iW->fV es=true->Instr.findNow kind k es i=some r->
 ∃r',Instr.findNow kind k iW i=some r'/\FR σ r r':=by
 intro es;induction es with
 |nil=>intro iW i r h _ hf;have:=h.of_nil;subst this;simp only[Instr.findNow]at hf|-;injection hf with hf;subst hf;exact⟨none,rfl,ak⟩
 |cons e es ih=>
  intro iW i r h hp hf;obtain⟨e',l',rfl,hk,hv,_,hl⟩:=h.of_cons;simp only[fV,dC,bA]at hp;have ZJ:=gP hp.1 hk;simp only[Instr.findNow]at hf|-;rw[ZJ];cases hs:Instr.sameNow kind k e.key with
  |none=>rw[hs]at hf;cases hf
  |some b=>
   rw[hs]at hf;cases b with
   |true=>simp only at hf|-;injection hf with hf;subst hf;exact⟨_,rfl,rfl,hv⟩
   |false=>simp only at hf|-;exact ih l' (i+1) r hl hp.2 hf
def Zy(P:ag)(kt:af)(k:ad):List bD->Nat->Option (Option (Nat×ad))
 |[],_=>some none
 |e::es,i=>match cH P (Op.equal kt k e.key)with
  |some true=>some (some (i,e.val))
  |some false=>Zy P kt k es (i+1)
  |none=>none
def zZ(kt:af)(k:ad):∀(es iW:List bD) (i:Nat) (r:Option (Nat×ad)),ER σ es iW->fV es=true->Zy P kt k es i=some r->
 ∃r',(Instr.findAsking kt k iW i).run P w=.ok r' w/\FR σ r r':=by
 intro es;induction es with
 |nil=>intro iW i r h _ hf;have:=h.of_nil;subst this;simp only[Zy]at hf;injection hf with hf;subst hf;exact⟨none,rfl,ak⟩
 |cons e es ih=>
  intro iW i r h hp hf;obtain⟨e',l',rfl,hk,hv,_,hl⟩:=h.of_cons;simp only[fV,dC,bA]at hp;have ZJ:=gP hp.1 hk;simp only[Zy]at hf;cases hs:cH P (Op.equal kt k e.key)with
  |none=>rw[hs]at hf;cases hf
  |some b=>
   rw[hs]at hf;have hr:=uw _ hs w;rw[<-ZJ]at hr;cases b with
   |true=>simp only at hf;injection hf with hf;subst hf;exact⟨some (i,e'.val),by simp[Instr.findAsking,hr],rfl,hv⟩
   |false=>simp only at hf;obtain⟨r',h1,h2⟩:=ih l' (i+1) r hl hp.2 hf;exact⟨r',by simp[Instr.findAsking,hr,h1],h2⟩
def WW(P:ag)(kt:af)(k:ad)(es:List bD):Option (Option (Nat×ad)):=
 if bL k=true/\fV es=true then
  match P.underlying kt with
  |some kind=>match Instr.findNow kind k es 0 with
   |some r=>some r
   |none=>none
  |none=>none
 else none
def xq(P:ag)(kt:af)(k:ad)(es:List bD):Option (Option (Nat×ad)):=
 match WW P kt k es with
 |some r=>some r
 |none=>if bL k=true/\fV es=true then
  match P.underlying kt with
  |some (.array n e)=>(match Instr.findNow (.array n e) k es 0 with|some _=>none|none=>Zy P kt k es 0)
  |some (.struct fs)=>(match Instr.findNow (.struct fs) k es 0 with|some _=>none|none=>Zy P kt k es 0)
  |_=>none
  else none
def EG(kind:TypeDesc)(k:ad):∀(es iW:List bD) (i:Nat),ER σ es iW->fV es=true->Instr.findNow kind k es i=none->Instr.findNow kind k iW i=none:=by
 intro es;induction es with
 |nil=>intro iW i h _ hf;simp[Instr.findNow]at hf
 |cons e es ih=>
  intro iW i h hp hf;obtain⟨e',l',rfl,hk,hv,_,hl⟩:=h.of_cons;simp only[fV,dC,bA]at hp;have ZJ:=gP hp.1 hk;simp only[Instr.findNow]at hf|-;rw[ZJ];cases hs:Instr.sameNow kind k e.key with
  |none=>rfl
  |some b=>
   rw[hs]at hf;cases b with
   |true=>simp at hf
   |false=>simp only at hf|-;exact ih l' (i+1) hl hp.2 hf
def wO{kt:af}{k k':ad}{es iW:List bD}{r:Option (Nat×ad)}(h:xq P kt k es=some r)(hk:VR σ k k')(he:ER σ es iW):
 ∃r',(Instr.findKey kt k' iW).run P w=.ok r' w/\FR σ r r'/\k'=k:=by
 unfold xq at h;split at h
 ·rename_i r0 h0;injection h with h;subst h;unfold WW at h0;split at h0
  ·rename_i hc;have ZJ:=gP hc.1 hk;subst ZJ;split at h0
   ·rename_i kind hu;split at h0
    ·rename_i r1 h1;injection h0 with h0;subst h0;obtain⟨r',a,b⟩:=Qb kind k' es iW 0 r1 he hc.2 h1;exact⟨r',by simp[Instr.findKey,cm hu,a],b,rfl⟩
    ·cases h0
   ·cases h0
  ·cases h0
 ·split at h
  ·rename_i hc;have ZJ:=gP hc.1 hk;subst ZJ;split at h
   ·rename_i n e hu;split at h
    ·cases h
    ·rename_i h1;obtain⟨r',a,b⟩:=zZ (P:=P) (w:=w) kt k' es iW 0 r he hc.2 h;exact⟨r',by simp[Instr.findKey,cm hu,EG _ _ es iW 0 he hc.2 h1,a],b,rfl⟩
   ·rename_i fs hu;split at h
    ·cases h
    ·rename_i h1;obtain⟨r',a,b⟩:=zZ (P:=P) (w:=w) kt k' es iW 0 r he hc.2 h;exact⟨r',by simp[Instr.findKey,cm hu,EG _ _ es iW 0 he hc.2 h1,a],b,rfl⟩
   ·cases h
  ·cases h
def ww(P:ag)(empty:Bool)(kt:af)(k:ad):Bool:=
 bL k&&(cH P (Instr.checkKey empty 10000 kt k)).isSome
def nO{empty:Bool}{kt:af}{k k':ad}(h:ww P empty kt k=true)(hk:VR σ k k')(w:ar):(Instr.checkKey empty 10000 kt k').run P w=.ok () w:=by
 simp only[ww,bA]at h;rw[gP h.1 hk];cases hp:cH P (Instr.checkKey empty 10000 kt k)with
 |none=>rw[hp]at h;simp at h
 |some u=>exact uw _ hp w
def IL{z:ad}(h:z.cells.toList.all cC=true):VR σ z z:=by
 cases z with
 |agg cs=>exact VR.TV (LR.qA (λ_=>fM) h)
 |_=>exact fM (by simpa[Value.cells]using h)
def Iq(hW:bI σ W w.heap){r:Nat}{g:zY}{es:List bD}{c:Nat}(hr:W.get r=some (.map es c))(hg:σ r=some g):
 g.s=0/\g.e=1/\∃iW:Array bD,w.heap[g.B]? =some (.map iW c)/\ER σ es iW.toList:=hW.obj r _ g hr hg
def run_getObj_map{B:Nat}{es:Array bD}{c:Nat}(h:w.heap[B]? =some (.map es c)):(getObj B).run P w=.ok (.map es c) w:=by simp[getObj,Sem.run,h]
def pm{B:Nat}{es:Array bD}{c:Nat}(o:sx)(h:w.heap[B]? =some (.map es c)):(setObj B o).run P w=.ok () {w with heap:=w.heap.setIfInBounds B o}:=by simp[setObj,Sem.run,h]
def zz(P:ag)(e:af)(ok:Bool)(r:Option (Nat×ad)):Option ad:=
 match r with
 |some (_,v)=>some (if ok then .tuple #[v,.bool true]else v)
 |none=>match kN P e with
  |some z=>some (if ok then .tuple #[z,.bool false]else z)
  |none=>none
def oB(P:ag)(W:AW)(t:af)(m k:ad)(ok:Bool):Option ad:=
 match P.underlying t,m with
 |some (.map kt e),.map none=>if ww P true kt k then zz P e ok none else none
 |some (.map kt e),.map (some r)=>match W.get r with
  |some (.map es _)=>if ww P es.isEmpty kt k then match xq P kt k es with
   |some r=>zz P e ok r
   |none=>none
   else none
  |_=>none
 |_,_=>none
def On{a b a' b':ad}(h1:VR σ a a')(h2:VR σ b b'):VR σ (.tuple #[a,b]) (.tuple #[a',b']):=VR.tuple' (by simpa using LR.cons h1 (.cons h2 .nil))
def SV(kt:af)(d:TypeDesc)(hu:P.underlying kt=some d)(k:ad):(Instr.findKey kt k []).run P w=.ok none w:=by simp[Instr.findKey,cm hu,Instr.findNow]
def L1{kt:af}(h:P.underlying kt=none)(empty:Bool)(d:Nat)(k:ad):(Instr.checkKey empty (d+1) kt k).run P w=.halt (.stuck "no such type") w:=by simp[Instr.checkKey,underlying,h]
def QO{empty:Bool}{kt:af}{k:ad}(h:ww P empty kt k=true):∃d,P.underlying kt=some d:=by
 simp only[ww,bA]at h;cases hp:cH P (Instr.checkKey empty 10000 kt k)with
 |none=>rw[hp]at h;simp at h
 |some u=>
  have hr:=uw (P:=P) _ hp default;cases hd:P.underlying kt with
  |some d=>exact⟨d,rfl⟩
  |none=>exfalso;have h1:(Instr.checkKey empty 10000 kt k).run P default=.halt (.stuck "no such type") default:=L1 hd empty 9999 k;rw[h1]at hr;cases hr
def G4{es:List bD}{iW:Array bD}(h:ER σ es iW.toList):iW.isEmpty=es.isEmpty:=by obtain⟨l⟩:=iW;have h1:=h.1;cases es<;>cases l<;>first|rfl|(simp at h1;done)|simp
def OO(iW:Array bD)(i:Nat):(iW.eraseIdxIfInBounds i).toList=iW.toList.eraseIdx i:=by
 unfold Array.eraseIdxIfInBounds;split
 ·simp
 ·rename_i hi;rw[List.eraseIdx_of_length_le];simp;omega
def YU(iW:Array bD)(i:Nat)(hi:i<iW.size)(k v:ad):iW.modify i (λe=>{e with key:=k,val:=v})=iW.setIfInBounds i {iW[i]with key:=k,val:=v}:=by
 apply Array.ext_getElem?;intro n;rw[Aj,II];by_cases hn:i=n
 ·subst hn;simp[hi]
 ·simp[hn]
def Sb(hW:bI σ W w.heap){t:af}{m k m' k' v:ad}{ok:Bool}(h:oB P W t m k ok=some v)(hm:VR σ m m')(hk:VR σ k k'):
 ∃v',(Instr.lookup t m' k' ok).run P w=.ok v' w/\VR σ v v':=by
 unfold oB at h;split at h
 ·rename_i kt e hu;split at h
  ·rename_i YX;cases hm;obtain⟨d,hd⟩:=QO YX;simp only[zz]at h;split at h
   ·rename_i z hz;injection h with h;subst h;obtain⟨CW,EU⟩:=ji hz w;refine⟨if ok then .tuple #[z,.bool false]else z,?_,?_⟩
    ·simp[Instr.lookup,cm hu,nO YX hk w,SV kt d hd,CW]
    ·cases ok
     ·exact IL EU
     ·exact On (IL EU) (.bool false)
   ·cases h
  ·cases h
 ·rename_i kt e r hu;split at h
  ·rename_i es c hr;split at h
   ·rename_i YX;split at h
    ·rename_i fr hf;cases hm with
     |map _ g hg=>
      obtain⟨g1,g2,iW,g3,g4⟩:=Iq hW hr hg;obtain⟨r',f1,f2,f3⟩:=wO (w:=w) hf hk g4;have abM:=G4 g4;cases fr with
      |some p=>
       cases r' with
       |none=>exact f2.elim
       |some p'=>
        simp only[zz]at h;injection h with h;subst h;refine⟨if ok then .tuple #[p'.2,.bool true]else p'.2,?_,?_⟩
        ·simp only[Instr.lookup,cS,cm hu,cN,run_getObj_map g3,iu,abM,nO YX hk w,f1]
        ·cases ok
         ·exact f2.2
         ·exact On f2.2 (.bool true)
      |none=>
       cases r' with
       |some p'=>exact f2.elim
       |none=>
        simp only[zz]at h;split at h
        ·rename_i z hz;injection h with h;subst h;obtain⟨CW,EU⟩:=ji hz w;refine⟨if ok then .tuple #[z,.bool false]else z,?_,?_⟩
         ·simp only[Instr.lookup,cS,cm hu,cN,run_getObj_map g3,iu,abM,nO YX hk w,f1,CW]
         ·cases ok
          ·exact IL EU
          ·exact On (IL EU) (.bool false)
        ·cases h
    ·cases h
   ·cases h
  ·cases h
 ·cases h
def jH(P:ag)(W:AW)(t:af)(m k v:ad):Option AW:=
 match P.underlying t,m with
 |some (.map kt _),.map (some r)=>match W.get r with
  |some (.map es c)=>if ww P false kt k then match xq P kt k es with
   |some (some (i,_))=>match es[i]? with
    |some e=>if Instr.sameBits 10000 e.key k=true/\bL e.key=true then some (W.put r (.map (es.set i {e with key:=k,val:=v}) c))else none
    |none=>none
   |some none=>some (W.put r (.map (es++[{key:=k,val:=v,born:=c}]) (c+1)))
   |none=>none
   else none
  |_=>none
 |_,_=>none
def ER.set{es iW:List bD}(h:ER σ es iW)(i:Nat){e e':bD}(hk:VR σ e.key e'.key)(hv:VR σ e.val e'.val)(hb:e.born=e'.born):ER σ (es.set i e) (iW.set i e'):=by
 refine⟨by simp[h.1],λj a b x y=>?_⟩;rw[uM]at x y;by_cases hn:i=j
 ·subst hn;simp only[bi]at x y;split at x
  ·split at y
   ·simp at x y;subst x;subst y;exact⟨hk,hv,hb⟩
   ·cases y
  ·cases x
 ·rw[ap hn]at x y;exact h.2 j a b x y
def ER.snoc{es iW:List bD}(h:ER σ es iW){e e':bD}(hk:VR σ e.key e'.key)(hv:VR σ e.val e'.val)(hb:e.born=e'.born):ER σ (es++[e]) (iW++[e']):=by
 refine⟨by simp[h.1],λj a b x y=>?_⟩;rw[wW]at x y;rw[<-h.1]at y;split at x
 ·rename_i hj;rw[an hj]at y;exact h.2 j a b x y
 ·rename_i hj;rw[ap hj]at y;cases hjj:j-es.length with
  |zero=>rw[hjj]at x y;simp at x y;subst x;subst y;exact⟨hk,hv,hb⟩
  |succ n=>rw[hjj]at x;simp at x
def ER.erase{es iW:List bD}(h:ER σ es iW)(i:Nat):ER σ (es.eraseIdx i) (iW.eraseIdx i):=by
 refine⟨by simp[List.length_eraseIdx,h.1],λj a b x y=>?_⟩;rw[List.getElem?_eraseIdx]at x y;split at x
 ·rename_i hj;rw[an hj]at y;exact h.2 _ a b x y
 ·rename_i hj;rw[ap hj]at y;exact h.2 _ a b x y
def Ia(hW:bI σ W w.heap){r:Nat}{g:zY}{es es2:List bD}{iW:Array bD}{c c2:Nat}(hr:W.get r=some (.map es c))(hg:σ r=some g)(h1:g.s=0)(h2:g.e=1)(h3:w.heap[g.B]? =some (.map iW c))
 (ahS:Array bD)(he:ER σ es2 ahS.toList):
 bI σ (W.put r (.map es2 c2)) (w.heap.setIfInBounds g.B (.map ahS c2))/\fT σ W w σ (W.put r (.map es2 c2)) {w with heap:=w.heap.setIfInBounds g.B (.map ahS c2)}:=by
 have lA:g.B<w.heap.size:=(eV.1 h3).1;exact hW.setObj hr (λ_ hx=>by cases hx) hg ⟨h1,h2⟩ (λc t fr hx=>by rw[h3]at hx;cases hx)
  ⟨h1,h2,ahS,by simp[lA],he⟩
def Jv(hW:bI σ W w.heap){t:af}{m k v m' k' v':ad}{W':AW}(h:jH P W t m k v=some W')(hm:VR σ m m')(hk:VR σ k k')(hv:VR σ v v'):
 ∃w',(Instr.mapUpdate t m' k' v').run P w=.ok () w'/\bI σ W' w'.heap/\fT σ W w σ W' w':=by
 unfold jH at h;split at h
 ·rename_i kt e r hu;split at h
  ·rename_i es c hr;split at h
   ·rename_i YX;cases hm with
    |map _ g hg=>
     obtain⟨g1,g2,iW,g3,g4⟩:=Iq hW hr hg;split at h
     ·rename_i i u hf;obtain⟨r',f1,f2,f3⟩:=wO (w:=w) hf hk g4;subst f3;split at h
      ·rename_i en hen;split at h
       ·rename_i hsb;injection h with h;subst h;cases r' with
        |none=>exact f2.elim
        |some p=>
         obtain⟨j,u'⟩:=p;obtain⟨rfl,_⟩:=f2;have rq:i<iW.size:=by have h0:=(dh.1 hen).1;have:=g4.1;simp at this;omega
         have aus:iW[i]? =some iW[i]:=jK rq;have hee:=g4.2 i en iW[i] hen (by simp[rq]);have asX:iW[i].key=en.key:=gP hsb.2 hee.1;obtain⟨q1,q2⟩:=Ia (c2:=c) hW hr hg g1 g2 g3 (iW.setIfInBounds i {iW[i]with key:=k',val:=v'}) (es2:=es.set i {en with key:=k',val:=v})
          (by rw[Ox];exact g4.set i (e:={en with key:=k',val:=v}) (e':={iW[i]with key:=k',val:=v'}) hk hv hee.2.2)
         refine⟨_,?_,q1,q2⟩;have ajO:=YU iW i rq k' v';have T3:(Instr.keyThatStays (((iW[i]?).map (·.key)).getD k') k').run P w=.ok k' w:=by rw[aus];simp only[dA,pk,asX,Instr.keyThatStays];rw[an hsb.1];rfl
         simp only[Instr.mapUpdate,cS,cm hu,cN,run_getObj_map g3,nO YX hk w,f1,T3,ajO];exact pm _ g3
       ·cases h
      ·cases h
     ·rename_i hf;obtain⟨r',f1,f2,f3⟩:=wO (w:=w) hf hk g4;subst f3;injection h with h;subst h;cases r' with
      |some p=>exact f2.elim
      |none=>
       obtain⟨q1,q2⟩:=Ia (c2:=c+1) hW hr hg g1 g2 g3 (iW.push {key:=k',val:=v',born:=c}) (es2:=es++[{key:=k',val:=v,born:=c}])
        (by rw[Array.toList_push];exact g4.snoc (e:={key:=k',val:=v,born:=c}) (e':={key:=k',val:=v',born:=c}) hk hv rfl)
       refine⟨_,?_,q1,q2⟩;simp only[Instr.mapUpdate,cS,cm hu,cN,run_getObj_map g3,nO YX hk w,f1];exact pm _ g3
     ·cases h
   ·cases h
  ·cases h
 ·cases h
def uz(P:ag)(W:AW)(argTypes:Array af)(m k:ad):Option AW:=
 match argTypes.toList with
 |t::_=>match P.underlying t,m with
  |some (.map kt _),.map none=>if ww P true kt k then some W else none
  |some (.map kt _),.map (some r)=>match W.get r with
   |some (.map es c)=>if ww P es.isEmpty kt k then match xq P kt k es with
    |some (some (i,_))=>some (W.put r (.map (es.eraseIdx i) c))
    |some none=>some (W.put r (.map es c))
    |none=>none
    else none
   |_=>none
  |_,_=>none
 |[]=>none
def Qi(hW:bI σ W w.heap){argTypes:Array af}{ty:af}{m k m' k':ad}{W':AW}(h:uz P W argTypes m k=some W')(hm:VR σ m m')(hk:VR σ k k'):
 ∃w',(Builtin.delete_ argTypes ty #[m',k']).run P w=.ok (.tuple #[]) w'/\bI σ W' w'.heap/\fT σ W w σ W' w':=by
 unfold uz at h;split at h
 ·rename_i t kn sI;have Kg:argTypes=(t::kn).toArray:=by rw[<-sI]
  subst Kg;split at h
  ·rename_i kt e hu;split at h
   ·rename_i YX;injection h with h;subst h;cases hm;refine⟨w,?_,hW,fT.refl _ _ _⟩;simp[Builtin.delete_,cm hu,nO YX hk w]
   ·cases h
  ·rename_i kt e r hu;split at h
   ·rename_i es c hr;split at h
    ·rename_i YX;cases hm with
     |map _ g hg=>
      obtain⟨g1,g2,iW,g3,g4⟩:=Iq hW hr hg;have abM:=G4 g4;split at h
      ·rename_i i u hf;obtain⟨r',f1,f2,f3⟩:=wO (w:=w) hf hk g4;subst f3;injection h with h;subst h;cases r' with
       |none=>exact f2.elim
       |some p=>
        obtain⟨j,u'⟩:=p;obtain⟨rfl,_⟩:=f2;obtain⟨q1,q2⟩:=Ia (c2:=c) hW hr hg g1 g2 g3 (iW.eraseIdxIfInBounds i) (es2:=es.eraseIdx i)
         (by rw[OO];exact g4.erase i)
        refine⟨_,?_,q1,q2⟩;have hso:=pm (P:=P) (.map (iW.eraseIdxIfInBounds i) c) g3;simp[Builtin.delete_,cm hu,run_getObj_map g3,abM,nO YX hk w,f1,hso]
      ·rename_i hf;obtain⟨r',f1,f2,f3⟩:=wO (w:=w) hf hk g4;subst f3;injection h with h;subst h;cases r' with
       |some p=>exact f2.elim
       |none=>obtain⟨q1,q2⟩:=Ia (c2:=c) hW hr hg g1 g2 g3 iW (es2:=es) g4;refine⟨_,?_,q1,q2⟩;have hso:=pm (P:=P) (.map iW c) g3;simp[Builtin.delete_,cm hu,run_getObj_map g3,abM,nO YX hk w,f1,hso]
      ·cases h
    ·cases h
   ·cases h
  ·cases h
 ·cases h
end
end
section
variable [ai]
def Df(P:ag)(t:af)(cs:Array ad)(off:Nat):Option ad:=
 match ZG P t with
 |some true=>match oD P t with
  |some n=>some (.agg (cs.extract off (off+n)))
  |none=>none
 |some false=>cs[off]?
 |none=>none
def aa2(P:ag)(g:af->ad->ad->Option Bool)(xs ys:Array ad):List Field->Option Bool
 |[]=>some true
 |f::fs=>if f.name= "_" then none else match Df P f.type xs f.offset,Df P f.type ys f.offset with
  |some a,some b=>(match g f.type a b with
   |some true=>aa2 P g xs ys fs
   |some false=>some false
   |none=>none)
  |_,_=>none
def NC(P:ag):Nat->af->ad->ad->Option Bool
 |0,_,_,_=>none
 |n+1,t,x,y=>match P.underlying t with
  |some (.int _)=>(match x,y with
   |.int k a,.int k' b=>if k=k' then some (a==b)else none
   |_,_=>none)
  |some .bool=>(match x,y with
   |.bool a,.bool b=>some (a==b)
   |_,_=>none)
  |some (.struct fs)=>(match x,y with
   |.agg xs,.agg ys=>if P.stoodInHeld t=true then none else aa2 P (NC P n) xs ys fs.toList
   |_,_=>none)
  |_=>none
def Ka(P:ag)(t:af)(x y:ad):Option Bool:=match x,y with
 |.agg _,.agg _=>if P.eqGuardType P.depth t=true then none else NC P 8 t x y
 |_,_=>none
def rP(P:ag)(W:AW)(op:BinOp)(t:af)(x y:ad):Option ad:=
 match x,y with
 |.int k a,.int k' b=>if k=k' then Gn op k a b else none
 |_,_=>match op with
  |.eql=>(match pB P W t x y with
   |some b=>some (.bool b)
   |none=>(Ka P t x y).map .bool)
  |.neq=>(match pB P W t x y with
   |some b=>some (.bool !b)
   |none=>(Ka P t x y).map λb=>.bool !b)
  |_=>none
def rD(t:af)(cs:List ad):dI:=match cs with
 |[.pointer none,.slice none 0 0]=>.tc t [.pointer none,.slice none 0 0]
 |cs=>.cells cs
def LH(P:ag)(o:am)(R:ai.Fr)(W:AW):Option (ad×AW):=
 match o.op with
 |.move x|.assign x=>some (aF R x,W)
 |.pick c a b=>match aF R c with
  |.bool true=>some (aF R a,W)
  |.bool false=>some (aF R b,W)
  |_=>none
 |.alloc t=>match kN P t with
  |some z=>some (W.new (rD t z.cells.toList) λb W'=>(Value.pointer (some ⟨b,0,none⟩),W'))
  |none=>none
 |.box _ x=>some (W.new (.cells (aF R x).cells.toList) λb W'=>(Value.pointer (some ⟨b,0,none⟩),W'))
 |.build t ps=>(CQ P R t ps).map λv=>(v,W)
 |.buildSlice t len ps=>nY P R W t len ps
 |.load t a=>(mh P W t (aF R a)).map λv=>(v,W)
 |.store t a x=>(Ct P W t (aF R a) (aF R x)).map λW'=>(aj,W')
 |.nilCheck x=>match aF R x with
  |.pointer (some a)=>some (.pointer (some a),W)
  |.func (.func f) a b=>some (.func (.func f) a b,W)
  |.func (.yield l) a b=>some (.func (.yield l) a b,W)
  |.iface t v=>some (.iface t v,W)
  |_=>none
 |.binOp op t x y _=>match rP P W op t (aF R x) (aF R y)with
  |some v=>some (v,W)
  |none=>(ly P R o).map λv=>(v,W)
 |.unOp .. =>(ly P R o).map λv=>(v,W)
 |.convert s d x=>(JI P W s d (aF R x) (ly P R o)).map λv=>(v,W)
 |.makeInterface t x=>match P.underlying t with
  |some (.interface _)=>none
  |some _=>some (.iface t (aF R x),W)
  |none=>none
 |.makeFunc (.func f) first li=>some (.func (.func f) (first.map (aF R)) (li.map (aF R)),W)
 |.makeMap t r=>match r with
  |none=>some (W.new (.map [] 0) λb W'=>(Value.map (some b),W'))
  |some h=>match P.underlying t,aF R h with
   |some (.map _ _),.int _ _=>some (W.new (.map [] 0) λb W'=>(Value.map (some b),W'))
   |_,_=>none
 |.makeSlice t l c=>pM P W t (aF R l) (aF R c)
 |.slice t x lo hi mx=>match nH P t (aF R x) (lo.map (aF R)) (hi.map (aF R)) (mx.map (aF R))with
  |some v=>some (v,W)
  |none=>(ly P R o).map λv=>(v,W)
 |.fieldAddr s x f=>match P.underlying s,aF R x with
  |some (.struct fs),.pointer (some a)=>match fs[f]? with
   |some fl=>match oD P fl.type with
    |some (_+1)=>some (.pointer (some (a.add fl.offset)),W)
    |_=>none
   |none=>none
  |_,_=>none
 |.field t x f=>match P.underlying t,aF R x with
  |some (.struct fs),.agg cs=>match fs[f]? with
   |some fl=>(Df P fl.type cs fl.offset).map λv=>(v,W)
   |none=>none
  |_,_=>none
 |.indexAddr t x i=>match P.underlying t,aF R x,lY (aF R i)with
  |some (.slice e),.slice (some a) len _,some n=>match oD P e with
   |some z=>if n<len then some (.pointer (some (a.add (n*z))),W)else none
   |none=>none
  |some (.array len e),.pointer (some a),some n=>match oD P e with
   |some z=>if n<len then some (.pointer (some (a.add (n*z))),W)else none
   |none=>none
  |_,_,_=>none
 |.index t x i=>match P.underlying t,aF R x,lY (aF R i)with
  |some (.array len e),.agg cs,some n=>match oD P e with
   |some z=>if n<len then(Df P e cs (n*z)).map λv=>(v,W)else none
   |none=>none
  |_,_,_=>(ly P R o).map λv=>(v,W)
 |.lookup t m k ok=>(oB P W t (aF R m) (aF R k) ok).map λv=>(v,W)
 |.mapUpdate t m k v=>(jH P W t (aF R m) (aF R k) (aF R v)).map λW'=>(aj,W')
 |.extract x i=>match aF R x with
  |.tuple vs=>(vs[i]?).map λv=>(v,W)
  |_=>none
 |.typeAssert x _ t ok=>match P.underlying t,aF R x with
  |some (.interface _),_=>none
  |some _,.iface u v=>if u=t then some (if ok then .tuple #[v,.bool true]else v,W)else none
  |_,_=>none
 |.range t x=>match P.underlying t,aF R x with
  |some .string,.string s=>some (W.new (.rh s 0) λb W'=>(Value.pointer (some ⟨b,0,none⟩),W'))
  |_,_=>none
 |.next it true=>match aF R it with
  |.pointer (some ⟨b,0,_⟩)=>match W.get b with
   |some (.rh s pos)=>if pos<s.size then some (.tuple #[.bool true,goInt pos,.int .i32 (Utf8.decode s pos).1],W.put b (.rh s (pos+(Utf8.decode s pos).2)))else some (.tuple #[.bool false],W)
   |_=>none
  |_=>none
 |_=>none
section
variable {P:ag} {σ:dz} {W:AW} {w:ar}
def VR.jY{b:Bool}{v:ad}(h:VR σ (.bool b) v):v=.bool b:=by cases h;rfl
def VR.CG{b:ByteArray}{v:ad}(h:VR σ (.string b) v):v=.string b:=by cases h;rfl
def VR.xf{a:bg}{v:ad}(h:VR σ (.pointer (some a)) v):∃g,σ a.block=some g/\a.spot=none/\v=.pointer (some ⟨g.B,g.s+a.off,none⟩):=by
 cases h with
 |ptr a g h hs=>exact⟨g,h,hs,rfl⟩
def VR.XW{a:bg}{l c:Nat}{v:ad}(h:VR σ (.slice (some a) l c) v):(∃g c',σ a.block=some g/\a.spot=none/\L4 g a.off l c c'/\v=.slice (some ⟨g.B,g.s+a.off,none⟩) l c')\/(l=0/\∃a',v=.slice (some a') 0 0):=by
 cases h with
 |slice a l c c' g h hs hc=>exact .inl ⟨g,c',h,hs,hc,rfl⟩
 |dO a a' c g h hc=>exact .inr ⟨rfl,a',rfl⟩
def VR.FI{t:af}{u v:ad}(h:VR σ (.iface t u) v):∃u',VR σ u u'/\v=.iface t u':=by
 cases h with
 |iface t u u' h=>exact⟨u',h,rfl⟩
def VR.WF{cs:Array ad}{v:ad}(h:VR σ (.agg cs) v):∃cV,LR σ cs.toList cV.toList/\v=.agg cV:=by
 cases h with
 |agg cs cV h1 h2=>exact⟨cV,.Cp h1 h2,rfl⟩
def VR.Yu{cs:Array ad}{v:ad}(h:VR σ (.tuple cs) v):∃cV,LR σ cs.toList cV.toList/\v=.tuple cV:=by
 cases h with
 |tuple cs cV h1 h2=>exact⟨cV,.Cp h1 h2,rfl⟩
def VR.mG{fn:Fn}{fs cs:Array ad}{v:ad}(h:VR σ (.func fn fs cs) v):∃Lo yg cV,FnR σ fn Lo/\LR σ fs.toList yg.toList/\LR σ cs.toList cV.toList/\v=.func Lo yg cV:=by
 cases h with
 |func fn Lo fs yg cs cV hf h1 h2 h3 h4=>exact⟨Lo,yg,cV,hf,.Cp h1 h2,.Cp h3 h4,rfl⟩
def VR.uu{k:be}{n:Int}{v:ad}(h:VR σ (.int k n) v):v=.int k n:=by cases h;rfl
def Aw{t:af}{cs cV:Array ad}{off:Nat}{v:ad}(h:Df P t cs off=some v)(hc:LR σ cs.toList cV.toList)(w:ar):
 ∃v',(part t cV off).run P w=.ok v' w/\VR σ v v':=by
 unfold Df at h;split at h
 ·rename_i ha;split at h
  ·rename_i n hn;injection h with h;subst h;refine⟨.agg (cV.extract off (off+n)),by simp[part,xi ha,bT hn],VR.TV ?_⟩;simp only[Array.toList_extract,Nx];exact(hc.drop off).take _
  ·cases h
 ·rename_i ha;obtain⟨v',h1,h2⟩:=hc.get (i:=off) (v:=v) (by simpa using h);refine⟨v',?_,h2⟩;have HF:cV[off]? =some v':=by simpa using h1
  simp[part,xi ha,HF]
 ·cases h
def VR.DP{xs:Array ad}{v:ad}(h:VR σ (.agg xs) v):∃ys,v=.agg ys/\LR σ xs.toList ys.toList:=by
 cases h with
 |agg _ cV h1 h2=>exact⟨cV,rfl,by simpa using h1,λi v v' a b=>h2 i v v' (by simpa using a) (by simpa using b)⟩
def ab9:∀(n:Nat) {t:af} {x y x' y':ad} {b:Bool},NC P n t x y=some b->VR σ x x'->VR σ y y'->∀d,(Op.equalIn (n+d) t x' y').run P w=.ok b w:=by
 intro n;induction n with
 |zero=>intro t x y x' y' b h;cases h
 |succ n ih=>
  intro t x y x' y' b h hx hy d;rw[show n+1+d=(n+d)+1 by omega];unfold NC at h;split at h
  ·rename_i k0 hu;split at h
   ·rename_i k a k' c;split at h
    ·rename_i hk;subst hk;injection h with h;subst h;rw[hx.uu,hy.uu];exact run_equalIn_int w _ t k k0 a c hu
    ·cases h
   ·cases h
  ·rename_i hu;split at h
   ·rename_i a c;injection h with h;subst h;rw[hx.jY,hy.jY];exact run_equalIn_bool' w _ t a c hu
   ·cases h
  ·rename_i fs hu;split at h
   ·rename_i xs ys;split at h
    ·cases h
    rename_i t7;obtain⟨xs',rfl,hxs⟩:=hx.DP;obtain⟨ys',rfl,hys⟩:=hy.DP;have hfo:P.fieldsOf t=fs:=by unfold Program.fieldsOf;rw[hu]
    rw[run_equalIn_struct w (n+d) t xs' ys' (by rw[hfo];exact hu) (by simpa using t7),hfo];generalize fs.toList=l at h;induction l with
    |nil=>injection h with h;subst h;simp[Op.eqFields]
    |cons f l ihl=>
     unfold aa2 at h;split at h
     ·cases h
     rename_i qN;split at h
     ·rename_i a c ha hc;obtain⟨a',ra,va⟩:=Aw (P:=P) ha hxs w;obtain⟨c',rc,vc⟩:=Aw (P:=P) hc hys w;unfold Op.eqFields;rw[an qN,cS,ra,cN,cS,rc,cN,cS];split at h
      ·rename_i he;rw[ih he va vc d,cN];simpa using ihl h
      ·rename_i he;injection h with h;subst h;rw[ih he va vc d,cN];simp
      ·cases h
     ·cases h
   ·cases h
  ·cases h
def aeN(P:ag)(W:AW)(t:af)(a b:Array ad):pB P W t (.agg a) (.agg b)=none:=by
 unfold pB;cases P.underlying t with
 |none=>rfl
 |some d=>cases d<;>rfl
def Mx{P:ag}{t:af}{x y:ad}{b:Bool}(h:Ka P t x y=some b)(W:AW):pB P W t x y=none:=by
 unfold Ka at h;split at h
 ·exact aeN P W t _ _
 ·cases h
def Qk{t:af}{x y x' y':ad}{b:Bool}(h:Ka P t x y=some b)(hx:VR σ x x')(hy:VR σ y y')(p q:au):
 (do eqGuard .eql t p q x' y';binOp .eql t x' y':Sem ad).run P w=.ok (.bool b) w/\(do eqGuard .neq t p q x' y';binOp .neq t x' y':Sem ad).run P w=.ok (.bool !b) w:=by
 unfold Ka at h;split at h
 ·rename_i xs ys;split at h
  ·cases h
  rename_i hg;obtain⟨xs',rfl,hxs⟩:=hx.DP;obtain⟨ys',rfl,hys⟩:=hy.DP;have hr:(Op.equalIn 10000 t (.agg xs') (.agg ys')).run P w=.ok b w:=ab9 (w:=w) 8 h hx hy 9992;have Ru:P.eqGuardType P.depth t=false:=by simpa using hg
  refine⟨?_,?_⟩
  ·rw[cS,run_eqGuard_agg _ _ _ _ _ _ _ Ru,cN,run_eql_struct,hr,cN]
  ·rw[cS,run_eqGuard_agg _ _ _ _ _ _ _ Ru,cN,run_neq_struct,hr,cN]
 ·cases h
def aaV(hW:bI σ W w.heap){op:BinOp}{t yt:af}{x y:au}{ρ:au->ad}{u u' v:ad}{dst:Option Tmp}{type:af}{pos:String}{after:Array Edge}{guard:Option (Nat×Bool)}
 (h:rP P W op t u u'=some v)(hx:VR σ u (ρ x))(hy:VR σ u' (ρ y)):
 ∃v',(execOp ρ {dst,op:=.binOp op t x y yt,type,pos,after,guard}).run P w=.ok (.value v') w/\VR σ v v':=by
 unfold rP at h;split at h
 ·rename_i k a k' b;split at h
  ·rename_i hk;subst hk;have ex:ρ x=.int k a:=hx.uu;have ey:ρ y=.int k b:=hy.uu;refine⟨v,?_,?_⟩
   ·have hg:∀(A B:ad),(eqGuard op t x y (.int k a) (.int k b)).run P w=.ok () w:=by intro _ _;unfold eqGuard;split<;>simp
    simp only[execOp,ex,ey,cS,hg .nilIface .nilIface,cN];unfold Gn at h;split at h<;>(try(cases h;done))<;>(injection h with h;subst h;try simp only[sF,Ag])<;>
     simp[binOp,Op.intArith,Op.intCmp,bne]<;>(try rfl)
   ·unfold Gn at h;split at h<;>(try(cases h;done))<;>(injection h with h;subst h;try simp only[sF])<;>first|exact .int _ _|exact .bool _
  ·cases h
 ·have key:∀b,pB P W t u u'=some b->(Op.equal t (ρ x) (ρ y)).run P w=.ok b w:=λb hb=>adL hW hb hx hy 9999
  have shp:∀b,pB P W t u u'=some b->(∀(op:BinOp),(eqGuard op t x y (ρ x) (ρ y)).run P w=.ok () w)/\(binOp .eql t (ρ x) (ρ y)=(do pure (.bool (<-Op.equal t (ρ x) (ρ y)))))/\(binOp .neq t (ρ x) (ρ y)=(do pure (.bool (!(<-Op.equal t (ρ x) (ρ y)))))):=by
   intro b hb;unfold pB at hb;split at hb<;>first
    |(cases hb;done)
    |(generalize ρ x=rx at *
      generalize ρ y=ry at *
      cases hx<;>cases hy<;>refine⟨λop=>?_,rfl,rfl⟩<;>(unfold eqGuard;split<;>simp))
  split at h
  ·cases he:pB P W t u u' with
   |none=>
    rw[he]at h;cases ht:Ka P t u u' with
    |none=>rw[ht]at h;cases h
    |some b=>rw[ht]at h;simp only[dA,jd]at h;subst h;have:=(Qk (w:=w) ht hx hy x y).1;exact⟨.bool b,by simp only[execOp];rw[cS,this];rfl,.bool b⟩
   |some b=>rw[he]at h;simp only[jd]at h;subst h;obtain⟨s1,s2,s3⟩:=shp b he;exact⟨.bool b,by simp[execOp,s1,s2,key b he],.bool b⟩
  ·cases he:pB P W t u u' with
   |none=>
    rw[he]at h;cases ht:Ka P t u u' with
    |none=>rw[ht]at h;cases h
    |some b=>rw[ht]at h;simp only[dA,jd]at h;subst h;have:=(Qk (w:=w) ht hx hy x y).2;exact⟨.bool (!b),by simp only[execOp];rw[cS,this];rfl,.bool _⟩
   |some b=>rw[he]at h;simp only[jd]at h;subst h;obtain⟨s1,s2,s3⟩:=shp b he;exact⟨.bool (!b),by simp[execOp,s1,s3,key b he],.bool _⟩
  ·cases h
def lO(P:ag)(σ:dz)(W:AW)(w:ar)(s:Sem Next)(v:ad)(W':AW):Prop:=
 ∃σ' nx v' w',s.run P w=.ok nx w'/\(nx=.value v'\/(nx=.skip/\v'=aj))/\VR σ' v v'/\bI σ' W' w'.heap/\fT σ W w σ' W' w'
def lO.value{s:Sem ad}{v v':ad}{nx:Sem Next}(hn:nx=(do pure (.value (<-s))))(hW:bI σ W w.heap)(h:s.run P w=.ok v' w)(hv:VR σ v v'):lO P σ W w nx v W:=
 ⟨σ,.value v',v',w,by rw[hn];simp[h],.inl rfl,hv,hW,fT.refl _ _ _⟩
def lO.ox{s:Sem ad}{v:ad}{W':AW}{nx:Sem Next}(hn:nx=(do pure (.value (<-s))))(h:∃σ' v' w',s.run P w=.ok v' w'/\VR σ' v v'/\bI σ' W' w'.heap/\fT σ W w σ' W' w'):lO P σ W w nx v W':=by obtain⟨σ',v',w',h1,h2,h3,h4⟩:=h;exact⟨σ',.value v',v',w',by rw[hn];simp[h1],.inl rfl,h2,h3,h4⟩
def lO.unit{s:Sem Unit}{W':AW}{nx:Sem Next}(hn:nx=(do s;pure .skip))(h:∃w',s.run P w=.ok () w'/\bI σ W' w'.heap/\fT σ W w σ W' w'):lO P σ W w nx aj W':=by obtain⟨w',h1,h2,h3⟩:=h;exact⟨σ,.skip,aj,w',by rw[hn];simp[h1],.inr ⟨rfl,rfl⟩,.undef,h2,h3⟩
def lO.same{v v':ad}{nx:Sem Next}(hn:nx=pure (.value v'))(hW:bI σ W w.heap)(hv:VR σ v v'):lO P σ W w nx v W:=
 ⟨σ,.value v',v',w,by rw[hn];rfl,.inl rfl,hv,hW,fT.refl _ _ _⟩
def lO.aiW{R:ai.Fr}{ρ:au->ad}{o:am}{v:ad}(hW:bI σ W w.heap)(h:ly P R o=some v)(hρ:∀x∈o.op.operands,VR σ (aF R x) (ρ x)):lO P σ W w (execOp ρ o) v W:=by obtain⟨h1,h2⟩:=Zz (P:=P) h hρ w;exact⟨σ,.value v,v,w,h1,.inl rfl,h2,hW,fT.refl _ _ _⟩
def afZ(hW:bI σ W w.heap)(t:af){cs cV:List ad}(hc:LR σ cs cV):
 ∃σ' v' w',((do pure (.pointer (some (<-newRow t cV.toArray)))):Sem ad).run P w=.ok v' w'/\VR σ' (.pointer (some ⟨W.next,0,none⟩)) v'/\bI σ' (W.add (.cells cs)) w'.heap/\fT σ W w σ' (W.add (.cells cs)) w':=by
 obtain⟨h1,h2,h3,h4⟩:=Ch (P:=P) hW t hc;have hv:=VR.ptr (σ:=cu σ W.next ⟨w.heap.size,0,cs.length⟩) ⟨W.next,0,none⟩ _ h2 rfl;exact⟨_,.pointer (some ⟨w.heap.size,0,none⟩),{w with heap:=w.heap.push (.cells cV.toArray t)},by simp[h1],by simpa using hv,h3,h4⟩
def Mw(t:af)(cs:List ad):∀ds,rD t cs≠ .ro ds:=by intro ds;unfold rD;split<;>simp
def Kl{σ:dz}{h:Array sx}{B:Nat}{t:af}{cs cV:List ad}(hc:LR σ cs cV)(hB:h[B]? =some (.cells cV.toArray t (0,0))):pA σ h ⟨B,0,cs.length⟩ (rD t cs):=by
 have hl:=hc.1;unfold rD;split
 ·refine⟨rfl,by simp,⟨by simp[maxLen],λ_=>rfl⟩,cV.toArray,hB,by simp,by simpa using hl,λi v hv=>?_⟩;obtain⟨v',a,b⟩:=hc.get hv;exact⟨v',by simpa using a,b⟩
 ·refine⟨cV.toArray,t,(0,0),hB,λ_=>rfl,by simp,by simp[hl],λi v hv=>?_⟩;obtain⟨v',a,b⟩:=hc.get hv;exact⟨v',by simpa using a,b⟩
def acU(hW:bI σ W w.heap)(t:af){cs cV:List ad}(hc:LR σ cs cV):
 ∃σ' v' w',((do pure (.pointer (some (<-newRow t cV.toArray)))):Sem ad).run P w=.ok v' w'/\VR σ' (.pointer (some ⟨W.next,0,none⟩)) v'/\bI σ' (W.add (rD t cs)) w'.heap/\fT σ W w σ' (W.add (rD t cs)) w':=by
 have hv:=VR.ptr (σ:=cu σ W.next ⟨w.heap.size,0,cs.length⟩) ⟨W.next,0,none⟩ _ dN rfl;obtain⟨h3,h4⟩:=hW.alloc (o:=rD t cs) (x:=.cells cV.toArray t) (e:=cs.length) (Kl (hc.mono (dR hW.fresh)) (by simp)) (Mw t cs);exact⟨_,.pointer (some ⟨w.heap.size,0,none⟩),{w with heap:=w.heap.push (.cells cV.toArray t)},by simp[newRow],by simpa using hv,h3,h4⟩
def Vd{R:ai.Fr}{ρ:au->ad}{x:Option au}(h:∀y,x=some y->VR σ (aF R y) (ρ y)):OR σ (x.map (aF R)) (x.map ρ):=by
 cases x with
 |none=>trivial
 |some y=>exact h y rfl
def AZ{R:ai.Fr}{ρ:au->ad}(a:Array au)(h:∀y∈a,VR σ (aF R y) (ρ y)):LR σ (a.map (aF R)).toList (a.map ρ).toList:=by
 refine⟨by simp,λi v v' x y=>?_⟩;simp only[Array.toList_map,jJ]at x y;cases hq:a.toList[i]? with
 |none=>rw[hq]at x;cases x
 |some q=>rw[hq]at x y;simp at x y;subst x;subst y;exact h q (by simpa using xV hq)
def VS(hW:bI σ W w.heap):
 ∃σ' v' w',((do pure (.map (some (<-newObj (.map #[] 0))))):Sem ad).run P w=.ok v' w'/\VR σ' (.map (some W.next)) v'/\bI σ' (W.add (.map [] 0)) w'.heap/\fT σ W w σ' (W.add (.map [] 0)) w':=by
 have h:=hW.alloc (o:=.map [] 0) (x:=.map #[] 0) (e:=1) ⟨rfl,rfl,#[],by rw[xS];simp,.nil⟩;exact⟨_,.map (some w.heap.size),{w with heap:=w.heap.push (.map #[] 0)},by simp,.map _ _ dN,h.1,h.2⟩
set_option maxHeartbeats 1000000 in
def Xd(hW:bI σ W w.heap){o:am}{R:ai.Fr}{ρ:au->ad}{v:ad}{W':AW}(h:LH P o R W=some (v,W'))(hρ:∀x∈o.op.operands,VR σ (aF R x) (ρ x)):
 lO P σ W w (execOp ρ o) v W':=by
 have Q8:∀u,ly P R o=some u->lO P σ W w (execOp ρ o) u W:=λu hu=>.aiW hW hu hρ
 have jN:∀(x:Option ad),(x.map λv=>(v,W))=some (v,W')->x=some v/\W'=W:=by
  intro x hx;cases x with
  |none=>cases hx
  |some u=>simp at hx;exact⟨by rw[hx.1],hx.2.symm⟩
 have ait:∀(x:Option AW),(x.map λW'=>(aj,W'))=some (v,W')->x=some W'/\v=aj:=by
  intro x hx;cases x with
  |none=>cases hx
  |some u=>simp at hx;exact⟨by rw[hx.2],hx.1.symm⟩
 obtain⟨dst,op,type,pos,after,guard⟩:=o;cases op<;>simp only[LH]at h<;>simp only[Op.operands]at hρ;case move x=>injection h with h;injection h with h1 h2;subst h1;subst h2;exact .same rfl hW (hρ x (by simp))
 case assign x=>injection h with h;injection h with h1 h2;subst h1;subst h2;exact .same rfl hW (hρ x (by simp))
 case pick c a b=>
  have hc:=hρ c (by simp);split at h<;>(try(cases h;done))<;>rename_i ud<;>rw[ud]at hc
  ·injection h with h;injection h with h1 h2;subst h1;subst h2;have:=hc.jY;exact⟨σ,.value (ρ a),ρ a,w,by simp[execOp,this,asBool],.inl rfl,hρ a (by simp),hW,fT.refl _ _ _⟩
  ·injection h with h;injection h with h1 h2;subst h1;subst h2;have:=hc.jY;exact⟨σ,.value (ρ b),ρ b,w,by simp[execOp,this,asBool],.inl rfl,hρ b (by simp),hW,fT.refl _ _ _⟩
 case alloc t=>
  split at h
  ·rename_i z hz;injection h with h;rw[AW.dX]at h;injection h with h1 h2;subst h1;subst h2;obtain⟨CW,EU⟩:=ji hz w;refine .ox rfl ?_;obtain⟨σ',v',w',a,b,c⟩:=acU (P:=P) hW t (cs:=z.cells.toList) (cV:=z.cells.toList) (IF EU);refine⟨σ',v',w',?_,b,c⟩;rw[<-a];simp[Instr.alloc,CW,newVar]
  ·cases h
 case box t x=>injection h with h;rw[AW.dX]at h;injection h with h1 h2;subst h1;subst h2;refine .ox rfl ?_;obtain⟨σ',v',w',a,b,c⟩:=afZ (P:=P) hW t (hρ x (by simp)).cells;refine⟨σ',v',w',?_,b,c⟩;rw[<-a];simp[Instr.box,newVar]
 case build t ps=>obtain⟨hb,rfl⟩:=jN _ h;obtain⟨v',h1,h2⟩:=Vq hb (λp hp=>hρ p.2 (by simp;exact⟨p.1,by simpa using hp⟩)) w;exact .value rfl hW h1 h2
 case buildSlice t len ps=>exact .ox rfl (H5 hW h (λp hp=>hρ p.2 (by simp;exact⟨p.1,by simpa using hp⟩)))
 case insert=>cases h
 case load t a=>obtain⟨hb,rfl⟩:=jN _ h;obtain⟨v',h1,h2⟩:=MT hW hb (hρ a (by simp));exact .value rfl hW h1 h2
 case store t a x=>obtain⟨hb,rfl⟩:=ait _ h;exact .unit rfl (UI hW hb (hρ a (by simp)) (hρ x (by simp)))
 case ready=>cases h
 case waits=>cases h
 case nilCheck x=>
  have hx:=hρ x (by simp);split at h<;>(try(cases h;done))<;>rename_i ud<;>rw[ud]at hx<;>injection h with h<;>injection h with h1 h2<;>subst h1<;>subst h2
  ·obtain⟨g,_,_,e⟩:=hx.xf;exact⟨σ,.value (ρ x),ρ x,w,by simp[execOp,e],.inl rfl,hx,hW,fT.refl _ _ _⟩
  ·obtain⟨Lo,yg,cV,hf,_,_,e⟩:=hx.mG;cases hf;exact⟨σ,.value (ρ x),ρ x,w,by simp[execOp,e],.inl rfl,hx,hW,fT.refl _ _ _⟩
  ·obtain⟨Lo,yg,cV,hf,_,_,e⟩:=hx.mG;cases hf;exact⟨σ,.value (ρ x),ρ x,w,by simp[execOp,e],.inl rfl,hx,hW,fT.refl _ _ _⟩
  ·obtain⟨u',_,e⟩:=hx.FI;exact⟨σ,.value (ρ x),ρ x,w,by simp[execOp,e],.inl rfl,hx,hW,fT.refl _ _ _⟩
 case binOp op t x y yt=>
  split at h
  ·rename_i u hb;injection h with h;injection h with h1 h2;subst h1;subst h2;obtain⟨v',h1,h2⟩:=aaV (dst:=dst) (type:=type) (pos:=pos) (after:=after) (guard:=guard) (yt:=yt) hW hb (hρ x (by simp)) (hρ y (by simp));exact⟨σ,.value v',v',w,h1,.inl rfl,h2,hW,fT.refl _ _ _⟩
  ·obtain⟨hb,rfl⟩:=jN _ h;exact Q8 _ hb
 case unOp=>obtain⟨hb,rfl⟩:=jN _ h;exact Q8 _ hb
 case convert s d x=>
  obtain⟨hb,rfl⟩:=jN _ h;unfold JI at hb;split at hb
  ·rename_i a0 n0 c0 DF;obtain⟨v',a,b⟩:=L9 hW hb (by rw[<-DF];exact hρ x (by simp));exact .value rfl hW a b
  ·exact Q8 _ hb
 case sliceToArrayPointer=>cases h
 case makeInterface t x=>
  split at h
  ·cases h
  ·rename_i d hd hu;injection h with h;injection h with h1 h2;subst h1;subst h2;refine .value rfl hW (v':=.iface t (ρ x)) ?_ (.iface _ _ _ (hρ x (by simp)));simp only[Instr.makeInterface,cS,cm hu,cN];cases d<;>first|rfl|exact absurd rfl (hd _)
  ·cases h
 case makeFunc fn first li=>
  cases fn<;>(try(simp only[]at h;cases h;done));rename_i f0;simp only at h;injection h with h;injection h with h1 h2;subst h1;subst h2;have k1:=AZ first (λy hy=>hρ y (by simp[hy]))
  have k2:=AZ li (λy hy=>hρ y (by simp[hy]));exact .value (s:=Instr.makeFunc (.func f0) (first.map ρ) (li.map ρ)) rfl hW rfl (.func _ _ _ _ _ _ (.func f0) k1.arr.1 k1.arr.2 k2.arr.1 k2.arr.2)
 case makeMap t r=>
  split at h
  ·injection h with h;rw[AW.dX]at h;injection h with h1 h2;subst h1;subst h2;refine .ox rfl ?_;obtain⟨σ',v',w',a,b,c⟩:=VS (P:=P) hW;exact⟨σ',v',w',by rw[<-a];simp[Instr.makeMap],b,c⟩
  ·rename_i hh;split at h
   ·rename_i kt e kd n hu he;injection h with h;rw[AW.dX]at h;injection h with h1 h2;subst h1;subst h2;refine .ox rfl ?_;obtain⟨σ',v',w',a,b,c⟩:=VS (P:=P) hW;have hv:=hρ hh (by simp);rw[he]at hv;exact⟨σ',v',w',by rw[<-a];simp[Instr.makeMap,cm hu,hv.uu,asInt,asIntOf],b,c⟩
   ·cases h
 case makeChan=>cases h
 case makeSlice t l c=>exact .ox rfl (IW hW h (hρ l (by simp)) (hρ c (by simp)))
 case slice t x lo hi mx=>
  split at h
  ·rename_i u hs;injection h with h;injection h with h1 h2;subst h1;subst h2;obtain⟨v',a,b⟩:=U0 hs (hρ x (by simp)) (Vd (λy hy=>hρ y (by simp[hy]))) (Vd (λy hy=>hρ y (by simp[hy]))) (Vd (λy hy=>hρ y (by simp[hy]))) w;exact .value rfl hW a b
  ·obtain⟨hb,rfl⟩:=jN _ h;exact Q8 _ hb
 case fieldAddr s x f=>
  split at h
  ·rename_i fs a hu DF;split at h
   ·rename_i fl wU;split at h
    ·rename_i n hn;injection h with h;injection h with h1 h2;subst h1;subst h2;have hx:=hρ x (by simp);rw[DF]at hx;obtain⟨g,hg,wS,e⟩:=hx.xf;refine .value rfl hW (v':=.pointer (some ⟨g.B,g.s+(a.add fl.offset).off,none⟩)) ?_ (.ptr _ g (by rw[jf];exact hg) (tN _ _ wS));simp[Instr.fieldAt,cm hu,wU,e,Instr.sureAddr,fieldPlace,bT hn,dH,uV,iq]
    ·cases h
   ·cases h
  ·cases h
 case field t x f=>
  split at h
  ·rename_i fs cs hu DF;split at h
   ·rename_i fl wU;obtain⟨hb,rfl⟩:=jN _ h;have hx:=hρ x (by simp);rw[DF]at hx;obtain⟨cV,hc,e⟩:=hx.WF;obtain⟨v',a,b⟩:=Aw (P:=P) hb hc w;exact .value rfl hW (by simp[Instr.field,cm hu,wU,e,asAgg,a]) b
   ·cases h
  ·cases h
 case indexAddr t x i=>
  have hi:=hρ i (by simp);have hx:=hρ x (by simp);split at h
  ·rename_i e a len cap n hu DF hn;obtain⟨k,rq⟩:=Bl hn hi;rw[DF]at hx;split at h
   ·rename_i z hz;split at h
    ·rename_i lA;injection h with h;injection h with h1 h2;subst h1;subst h2;rcases hx.XW with⟨g,c',hg,wS,hc,e'⟩|⟨h0,_⟩
     ·refine .value rfl hW (v':=.pointer (some ⟨g.B,g.s+(a.add (n*z)).off,none⟩)) ?_ (.ptr _ g (by rw[jf];exact hg) (tN _ _ wS));simp[Instr.indexAt,rq,e',asIntOf,cm hu,lA,bT hz,dH,uV,iq]
     ·omega
    ·cases h
   ·cases h
  ·rename_i len e a n hu DF hn;obtain⟨k,rq⟩:=Bl hn hi;rw[DF]at hx;split at h
   ·rename_i z hz;split at h
    ·rename_i lA;injection h with h;injection h with h1 h2;subst h1;subst h2;obtain⟨g,hg,wS,e'⟩:=hx.xf;refine .value rfl hW (v':=.pointer (some ⟨g.B,g.s+(a.add (n*z)).off,none⟩)) ?_ (.ptr _ g (by rw[jf];exact hg) (tN _ _ wS));simp[Instr.indexAt,rq,e',asIntOf,cm hu,Instr.sureAddr,lA,bT hz,dH,uV,iq]
    ·cases h
   ·cases h
  ·cases h
 case index t x i=>
  have hi:=hρ i (by simp);have hx:=hρ x (by simp);split at h
  ·rename_i len e cs n hu DF hn;obtain⟨k,rq⟩:=Bl hn hi;rw[DF]at hx;split at h
   ·rename_i z hz;split at h
    ·rename_i lA;obtain⟨hb,rfl⟩:=jN _ h;obtain⟨cV,hc,e'⟩:=hx.WF;obtain⟨v',a,b⟩:=Aw (P:=P) hb hc w;exact .value rfl hW (by simp[Instr.index,rq,e',asIntOf,cm hu,lA,bT hz,a]) b
    ·cases h
   ·cases h
  ·obtain⟨hb,rfl⟩:=jN _ h;exact Q8 _ hb
 case lookup t m k ok=>obtain⟨hb,rfl⟩:=jN _ h;obtain⟨v',a,b⟩:=Sb hW hb (hρ m (by simp)) (hρ k (by simp));exact .value rfl hW a b
 case mapUpdate t m k u=>obtain⟨hb,rfl⟩:=ait _ h;exact .unit rfl (Jv hW hb (hρ m (by simp)) (hρ k (by simp)) (hρ u (by simp)))
 case mapEntry=>cases h
 case entryStore=>cases h
 case range t x=>
  split at h
  ·rename_i s hu DF;injection h with h;rw[AW.dX]at h;injection h with h1 h2;subst h1;subst h2;have hx:=hρ x (by simp);rw[DF]at hx;have hal:=hW.alloc (o:=.rh s 0) (x:=.stringIter s 0) (e:=1) ⟨rfl,rfl,by rw[xS];simp⟩;have hv:=VR.ptr (σ:=cu σ W.next ⟨w.heap.size,0,1⟩) ⟨W.next,0,none⟩ _ dN rfl;exact .ox rfl ⟨_,.pointer (some ⟨w.heap.size,0,none⟩),{w with heap:=w.heap.push (.stringIter s 0)},by simp[Instr.range,cm hu,hx.CG],by simpa using hv,hal.1,hal.2⟩
  ·cases h
 case next it isS=>
  cases isS<;>simp only at h
  ·cases h
  have hx:=hρ it (by simp);split at h
  ·rename_i b sp hit;rw[hit]at hx;obtain⟨g,hg,wS,e⟩:=hx.xf;split at h
   ·rename_i s ps dT;obtain⟨g1,g2,g3⟩:=hW.obj b _ g dT hg;have hgo:(getObj g.B).run P w=.ok (.stringIter s ps) w:=by simp[getObj,Sem.run,g3]
    have e2:ρ it=.pointer (some ⟨g.B,0,none⟩):=by rw[e];simp[g1]
    split at h
    ·rename_i lA;injection h with h;injection h with h1 h2;subst h1;subst h2;have avG:g.B<w.heap.size:=(eV.1 g3).1;have hso:(setObj g.B (.stringIter s (ps+(Utf8.decode s ps).2))).run P w=.ok () {w with heap:=w.heap.setIfInBounds g.B (.stringIter s (ps+(Utf8.decode s ps).2))}:=by simp[setObj,Sem.run,g3]
     have hq:=hW.setObj (o':=.rh s (ps+(Utf8.decode s ps).2)) (x:=.stringIter s (ps+(Utf8.decode s ps).2)) dT (λ_ hx=>by cases hx) hg ⟨g1,g2⟩ (λc t fr hx=>by rw[g3]at hx;cases hx) ⟨g1,g2,by simp[avG]⟩;exact .ox rfl ⟨σ,.tuple #[.bool true,goInt ps,.int .i32 (Utf8.decode s ps).1],_,by simp[Instr.next,e2,hgo,lA,hso],VR.tuple' (by simpa[goInt]using LR.cons (.bool true) (.cons (.int _ _) (.cons (.int _ _) .nil))),hq.1,hq.2⟩
    ·rename_i lA;injection h with h;injection h with h1 h2;subst h1;subst h2;exact .value rfl hW (v':=.tuple #[.bool false]) (by simp[Instr.next,e2,hgo,lA]) (VR.tuple' (by simpa using LR.cons (.bool false) .nil))
   ·cases h
  ·cases h
 case entry=>cases h
 case typeAssert x xt t ok=>
  split at h
  ·cases h
  ·rename_i d u v0 hd hu DF;split at h
   ·rename_i hut;subst hut;injection h with h;injection h with h1 h2;subst h1;subst h2;have hx:=hρ x (by simp);rw[DF]at hx;obtain⟨u',h1,e⟩:=hx.FI;refine .value rfl hW (v':=if ok then .tuple #[u',.bool true]else u') ?_ ?_
    ·simp only[Instr.typeAssert,cS,cm hu,cN,e];cases d<;>first|(simp;done)|exact absurd rfl (hd _)
    ·cases ok
     ·exact h1
     ·exact On h1 (.bool true)
   ·cases h
  ·cases h
 case extract x i=>
  split at h
  ·rename_i vs DF;obtain⟨hb,rfl⟩:=jN _ h;have hx:=hρ x (by simp);rw[DF]at hx;obtain⟨cV,hc,e⟩:=hx.Yu;obtain⟨v',a,b⟩:=hc.get (i:=i) (v:=v) (by simpa using hb);have a':cV[i]? =some v':=by simpa using a
   exact .value rfl hW (v':=v') (by simp[Instr.extract,e,a']) b
  ·cases h
 case call=>cases h
 case go=>cases h
 case defer=>cases h
 case panic=>cases h
 case send=>cases h
 case recv=>cases h
 case select=>cases h
end
end
section
variable [ai]
abbrev Callee:=ad->List ad->AW->Option (ad×AW)
def FE(ro:Option Nat):Fence:={Fence.wide with round:=ro}
def lz(P:ag)(o:am)(b:Builtin)(argTypes:Array af)(args:List ad)(R:ai.Fr)(W:AW):Option (ad×AW):=
 match b,args with
 |.len,[.slice _ n _]=>match(argTypes[0]?).bind P.underlying with
  |some (.slice _)=>some (goInt n,W)
  |_=>none
 |.len,[.map none]=>match(argTypes[0]?).bind P.underlying with
  |some (.map _ _)=>some (goInt 0,W)
  |_=>none
 |.len,[.map (some r)]=>match(argTypes[0]?).bind P.underlying,W.get r with
  |some (.map _ _),some (.map es _)=>some (goInt es.length,W)
  |_,_=>none
 |.append,[s,x]=>D1 P W argTypes s x
 |.copy,[d,x]=>WO P W argTypes d x
 |.clear,[x]=>(Po P W argTypes x).map λW'=>(.tuple #[],W')
 |.delete,[m,k]=>(uz P W argTypes m k).map λW'=>(.tuple #[],W')
 |.unsafeSliceData,[x]=>(xv x).map λv=>(v,W)
 |.unsafeString,[p,n]=>qp P W argTypes p n
 |_,_=>(ly P R o).map λv=>(v,W)
def wF(P:ag)(t:af)(name:String):Option jU:=
 match P.info? t,P.underlying t with
 |some i,some d=>match i.methods.find? (·.name==name)with
  |some m=>match m.path.toList,m.func,d with
   |[],some (f,true),.pointer _=>if 0<P.types.size then some f else none
   |_,_,_=>none
  |none=>none
 |_,_=>none
def jB(P:ag)(call:Callee)(o:am)(R:ai.Fr)(W:AW):Option (ad×AW):=
 match o.op with
 |.call c=>match c.callee with
  |.builtin b=>lz P o b c.argTypes (c.args.toList.map (aF R)) R W
  |.value f=>call (aF R f) (c.args.toList.map (aF R)) W
  |.invoke r name=>match aF R r with
   |.iface t v=>match wF P t name with
    |some f=>call (.func (.func f) #[] #[]) (v::c.args.toList.map (aF R)) W
    |none=>none
   |_=>none
 |_=>LH P o R W
def Hx:ad->Option bg:=Value.rec (motive_1:=λ_=>Option bg) (motive_2:=λ_=>PUnit) (motive_3:=λ_=>PUnit) (λ_=>none) (λ_ _=>none) (λ_ _=>none) (λ_ _ _=>none) (λ_=>none) (λa=>a) (λ_ _ _=>none) (λ_=>none) (λ_=>none) (λ_ _ _ _ _=>none) (none) (λ_ _ _=>none) (none) (λ_ _=>none) (λ_ _=>none) (λ_ _=>.unit) .unit (λ_ _ _ _=>.unit)
def ajd:ad->Option Bool:=Value.rec (motive_1:=λ_=>Option Bool) (motive_2:=λ_=>PUnit) (motive_3:=λ_=>PUnit) (λb=>some b) (λ_ _=>none) (λ_ _=>none) (λ_ _ _=>none) (λ_=>none) (λ_=>none) (λ_ _ _=>none) (λ_=>none) (λ_=>none) (λ_ _ _ _ _=>none) (none) (λ_ _ _=>none) (none) (λ_ _=>none) (λ_ _=>none) (λ_ _=>.unit) .unit (λ_ _ _ _=>.unit)
def aoe:ad->Option (be×Int):=Value.rec (motive_1:=λ_=>Option (be×Int)) (motive_2:=λ_=>PUnit) (motive_3:=λ_=>PUnit) (λ_=>none) (λk n=>some (k,n)) (λ_ _=>none) (λ_ _ _=>none) (λ_=>none) (λ_=>none) (λ_ _ _=>none) (λ_=>none) (λ_=>none) (λ_ _ _ _ _=>none) (none) (λ_ _ _=>none) (none) (λ_ _=>none) (λ_ _=>none) (λ_ _=>.unit) .unit (λ_ _ _ _=>.unit)
def aay:ad->Option Nat:=Value.rec (motive_1:=λ_=>Option Nat) (motive_2:=λ_=>PUnit) (motive_3:=λ_=>PUnit) (λ_=>none) (λ_ n=>Int.rec (motive:=λ_=>Option Nat) (λn=>some n) (λ_=>none) n) (λ_ _=>none) (λ_ _ _=>none) (λ_=>none) (λ_=>none) (λ_ _ _=>none) (λ_=>none) (λ_=>none) (λ_ _ _ _ _=>none) (none) (λ_ _ _=>none) (none) (λ_ _=>none) (λ_ _=>none) (λ_ _=>.unit) .unit (λ_ _ _ _=>.unit)
def vSl:ad->Option (bg×Nat):=Value.rec (motive_1:=λ_=>Option (bg×Nat)) (motive_2:=λ_=>PUnit) (motive_3:=λ_=>PUnit) (λ_=>none) (λ_ _=>none) (λ_ _=>none) (λ_ _ _=>none) (λ_=>none) (λ_=>none) (λa l _=>Option.rec (motive:=λ_=>Option (bg×Nat)) none (λa=>some (a,l)) a) (λ_=>none) (λ_=>none) (λ_ _ _ _ _=>none) (none) (λ_ _ _=>none) (none) (λ_ _=>none) (λ_ _=>none) (λ_ _=>.unit) .unit (λ_ _ _ _=>.unit)
def aqa:ad->Option (Array ad):=Value.rec (motive_1:=λ_=>Option (Array ad)) (motive_2:=λ_=>PUnit) (motive_3:=λ_=>PUnit) (λ_=>none) (λ_ _=>none) (λ_ _=>none) (λ_ _ _=>none) (λ_=>none) (λ_=>none) (λ_ _ _=>none) (λ_=>none) (λ_=>none) (λ_ _ _ _ _=>none) (none) (λ_ _ _=>none) (none) (λ_ _=>none) (λv _=>some v) (λ_ _=>.unit) .unit (λ_ _ _ _=>.unit)
def aaZ(v:ad):aay v=lY v:=by cases v<;>first|rfl|(rename_i k n;cases n<;>rfl)
def VG(P:ag)(W:AW)(t:af)(a:bg):Option (ad×AW):=
 match ZG P t with
 |some false=>match aH W a.block with
  |some cs=>(ahb cs a.off).map λv=>(v,W)
  |none=>none
 |some true=>match oD P t with
  |some n=>(pH W a.block a.off n).map λl=>(.agg l.toArray,W)
  |none=>none
 |none=>none
def ab8(P:ag)(W:AW)(t:af)(v:ad):(match Hx v with|some a=>VG P W t a|none=>none)=(mh P W t v).map λv=>(v,W):=by
 cases v with
 |pointer a=>
  cases a with
  |none=>rfl
  |some a=>
   show VG P W t a=_;unfold VG mh;cases ZG P t with
   |none=>rfl
   |some b=>
    cases b with
    |false=>simp only;cases aH W a.block<;>rfl
    |true=>
     simp only;cases oD P t with
     |none=>rfl
     |some n=>simp only;cases pH W a.block a.off n<;>rfl
 |_=>rfl
def Ou(P:ag)(W:AW)(t:af)(a:bg)(v:ad):Option (ad×AW):=
 match oD P t with
 |some n=>if v.cells.size=n then(rR W a.block a.off v.cells.toList).map λW'=>(aj,W')else none
 |none=>none
def YJ(P:ag)(W:AW)(t:af)(x v:ad):(match Hx x with|some a=>Ou P W t a v|none=>none)=(Ct P W t x v).map λW'=>(aj,W'):=by
 cases x with
 |pointer a=>
  cases a with
  |none=>rfl
  |some a=>
   show Ou P W t a v=_;unfold Ou Ct;cases oD P t with
   |none=>rfl
   |some n=>simp only;split<;>rfl
 |_=>rfl
def Z5:BinOp->be->Int->Int->Option ad:=BinOp.rec (motive:=λ_=>be->Int->Int->Option ad) (λk a b=>some (CH k (GU k (a+b)))) (λk a b=>some (CH k (GU k (a-b)))) (λk a b=>some (CH k (GU k (a*b)))) (λ_ _ _=>none) (λ_ _ _=>none) (λ_ _ _=>none) (λ_ _ _=>none) (λ_ _ _=>none) (λ_ _ _=>none) (λ_ _ _=>none) (λ_ _ _=>none) (λ_ a b=>some (.bool (decide (a=b)))) (λ_ a b=>some (.bool (!decide (a=b)))) (λ_ a b=>some (.bool (decide (a<b)))) (λ_ a b=>some (.bool (decide (a<=b)))) (λ_ a b=>some (.bool (decide (b<a)))) (λ_ a b=>some (.bool (decide (b<=a))))
def aei(op:BinOp)(k:be)(a b:Int):Z5 op k a b=Gn op k a b:=by cases op<;>rfl
def aqq(P:ag)(W:AW)(op:BinOp)(t:af)(x y:ad):Option ad:=
 match aoe x with
 |some (k,a)=>match aoe y with
  |some (k',b)=>if k=k' then Z5 op k a b else none
  |none=>rP P W op t x y
 |none=>rP P W op t x y
def ah2(P:ag)(W:AW)(op:BinOp)(t:af)(x y:ad):aqq P W op t x y=rP P W op t x y:=by
 cases x with
 |int k a=>
  cases y with
  |int k' b=>show(if k=k' then Z5 op k a b else none)=_;rw[aei];rfl
  |_=>rfl
 |_=>rfl
def TG(P:ag)(s:af)(f:Nat):Option Nat:=match P.underlying s with
 |some (.struct fs)=>match fs[f]? with
  |some fl=>match oD P fl.type with
   |some (_+1)=>some fl.offset
   |_=>none
  |none=>none
 |_=>none
def aau(P:ag)(t:af):Option (Option Nat×Nat):=match P.underlying t with
 |some (.slice e)=>(oD P e).map λz=>(none,z)
 |some (.array n e)=>(oD P e).map λz=>(some n,z)
 |_=>none
def ahV{X:Type}(v:ad)(a b:X):(match ajd v with|some true=>some a|some false=>some b|none=>none)=(match v with|.bool true=>some a|.bool false=>some b|_=>none):=by
 cases v with
 |bool c=>cases c<;>rfl
 |_=>rfl
def UF(W:AW)(v:ad)(i:Nat):(match aqa v with|some vs=>(vs[i]?).map λv=>(v,W)|none=>none)=(match v with|.tuple vs=>(vs[i]?).map λv=>(v,W)|_=>none):=by cases v<;>rfl
def OA(P:ag)(W:AW)(s:af)(v:ad)(f:Nat):
 (match Hx v with
 |some a=>(match TG P s f with
  |some k=>some (Value.pointer (some (a.add k)),W)
  |none=>none)
 |none=>none)=(match P.underlying s,v with
 |some (.struct fs),.pointer (some a)=>match fs[f]? with
  |some fl=>match oD P fl.type with
   |some (_+1)=>some (.pointer (some (a.add fl.offset)),W)
   |_=>none
  |none=>none
 |_,_=>none):=by
 unfold TG;generalize P.underlying s=u
 have CX:∀(o:Option TypeDesc) (v:ad),Hx v=none->(match o,v with
  |some (.struct fs),.pointer (some a)=>match fs[f]? with
   |some fl=>match oD P fl.type with
    |some (_+1)=>some (Value.pointer (some (a.add fl.offset)),W)
    |_=>none
   |none=>none
  |_,_=>none)=none:=by
  intro o v hv;split
  ·cases hv
  ·rfl
 cases hv:Hx v with
 |none=>exact(CX u v hv).symm
 |some a=>
  obtain rfl:v=.pointer (some a):=by
   cases v with
   |pointer b=>cases b with|none=>cases hv|some b=>injection hv with hv;rw[hv]
   |_=>cases hv
  cases u with
  |none=>rfl
  |some d=>
   cases d with
   |struct fs=>
    simp only;cases fs[f]? with
    |none=>rfl
    |some fl=>
     simp only;cases oD P fl.type with
     |none=>rfl
     |some n=>cases n<;>rfl
   |_=>rfl
def NM(P:ag)(W:AW)(t:af)(v i:ad):
 (match aau P t with
 |some (none,z)=>(match vSl v with
  |some (a,len)=>(match aay i with
   |some n=>(match Nat.blt n len with
    |true=>some (Value.pointer (some (a.add (n*z))),W)
    |false=>none)
   |none=>none)
  |none=>none)
 |some (some len,z)=>(match Hx v with
  |some a=>(match aay i with
   |some n=>(match Nat.blt n len with
    |true=>some (.pointer (some (a.add (n*z))),W)
    |false=>none)
   |none=>none)
  |none=>none)
 |none=>none)=(match P.underlying t,v,lY i with
 |some (.slice e),.slice (some a) len _,some n=>match oD P e with
  |some z=>if n<len then some (.pointer (some (a.add (n*z))),W)else none
  |none=>none
 |some (.array len e),.pointer (some a),some n=>match oD P e with
  |some z=>if n<len then some (.pointer (some (a.add (n*z))),W)else none
  |none=>none
 |_,_,_=>none):=by
 rw[aaZ];have key:∀(n len:Nat) (u:Option (ad×AW)),(match Nat.blt n len with|true=>u|false=>none)=if n<len then u else none:=by
  intro n len u;by_cases h:n<len
  ·have h1:Nat.blt n len=true:=by rw[jG];exact h
   rw[an h,h1]
  ·rw[ap h];cases hb:Nat.blt n len with
   |true=>exact absurd (by rw[jG]at hb;exact hb) h
   |false=>rfl
 simp only[key];unfold aau;generalize lY i=k;generalize P.underlying t=u;cases u with
 |none=>rfl
 |some d=>
  cases d with
  |slice e=>
   cases hz:oD P e with
   |none=>cases v with
    |slice a l c=>cases a<;>cases k<;>simp[hz]
    |_=>simp[hz]
   |some z=>cases v with
    |slice a l c=>cases a<;>cases k<;>simp[hz,vSl]
    |_=>simp[hz,vSl]
  |array n e=>
   cases hz:oD P e with
   |none=>cases v with
    |pointer a=>cases a<;>cases k<;>simp[hz]
    |_=>simp[hz]
   |some z=>cases v with
    |pointer a=>cases a<;>cases k<;>simp[hz,Hx]
    |_=>simp[hz,Hx]
  |_=>rfl
def anR(x:au)(P:ag)(call:Callee)(o:am)(R:ai.Fr)(W:AW):Option (ad×AW):=
 some (aF R x,W)
def ahy(x:au)(P:ag)(call:Callee)(o:am)(R:ai.Fr)(W:AW):Option (ad×AW):=
 some (aF R x,W)
def ap3(c:au)(a:au)(b:au)(P:ag)(call:Callee)(o:am)(R:ai.Fr)(W:AW):Option (ad×AW):=
 match ajd (aF R c)with
  |some true=>some (aF R a,W)
  |some false=>some (aF R b,W)
  |none=>none
def amt(t:af)(P:ag)(call:Callee)(o:am)(R:ai.Fr)(W:AW):Option (ad×AW):=
 match kN P t with
  |some z=>some (W.new (rD t z.cells.toList) λb W'=>(Value.pointer (some ⟨b,0,none⟩),W'))
  |none=>none
def asQ(t:af)(x:au)(P:ag)(call:Callee)(o:am)(R:ai.Fr)(W:AW):Option (ad×AW):=
 some (W.new (.cells (aF R x).cells.toList) λb W'=>(Value.pointer (some ⟨b,0,none⟩),W'))
def aky(t:af)(ps:Array (Nat×au))(P:ag)(call:Callee)(o:am)(R:ai.Fr)(W:AW):Option (ad×AW):=
 (CQ P R t ps).map λv=>(v,W)
def Sh(t:af)(n:Nat)(ps:Array (Nat×au))(P:ag)(call:Callee)(o:am)(R:ai.Fr)(W:AW):Option (ad×AW):=
 nY P R W t n ps
def ahm(_t:af)(_m:au)(_k:au)(_v:au)(P:ag)(call:Callee)(o:am)(R:ai.Fr)(W:AW):Option (ad×AW):=
 jB P call o R W
def arf(t:af)(a:au)(P:ag)(call:Callee)(o:am)(R:ai.Fr)(W:AW):Option (ad×AW):=
 match Hx (aF R a)with
  |some a=>VG P W t a
  |none=>none
def ajH(t:af)(a:au)(x:au)(P:ag)(call:Callee)(o:am)(R:ai.Fr)(W:AW):Option (ad×AW):=
 match Hx (aF R a)with
  |some a=>Ou P W t a (aF R x)
  |none=>none
def akQ(_g:Nat)(P:ag)(call:Callee)(o:am)(R:ai.Fr)(W:AW):Option (ad×AW):=
 jB P call o R W
def ajy(_g:Nat)(P:ag)(call:Callee)(o:am)(R:ai.Fr)(W:AW):Option (ad×AW):=
 jB P call o R W
def Ym(_x:au)(P:ag)(call:Callee)(o:am)(R:ai.Fr)(W:AW):Option (ad×AW):=
 jB P call o R W
def Ts(op:BinOp)(t:af)(x:au)(y:au)(yt:af)(P:ag)(call:Callee)(o:am)(R:ai.Fr)(W:AW):Option (ad×AW):=
 match aqq P W op t (aF R x) (aF R y)with
  |some v=>some (v,W)
  |none=>(ly P R o).map λv=>(v,W)
def aqe(op:UnOp)(t:af)(x:au)(P:ag)(call:Callee)(o:am)(R:ai.Fr)(W:AW):Option (ad×AW):=
 (ly P R o).map λv=>(v,W)
def aa0(s:af)(d:af)(x:au)(P:ag)(call:Callee)(o:am)(R:ai.Fr)(W:AW):Option (ad×AW):=
 (JI P W s d (aF R x) (ly P R o)).map λv=>(v,W)
def zy(_d:af)(_x:au)(P:ag)(call:Callee)(o:am)(R:ai.Fr)(W:AW):Option (ad×AW):=
 jB P call o R W
def I1(_t:af)(_x:au)(P:ag)(call:Callee)(o:am)(R:ai.Fr)(W:AW):Option (ad×AW):=
 jB P call o R W
def Zm(_fn:Fn)(_first:Array au)(_captured:Array au)(P:ag)(call:Callee)(o:am)(R:ai.Fr)(W:AW):Option (ad×AW):=
 jB P call o R W
def aaO(_t:af)(_r:Option au)(P:ag)(call:Callee)(o:am)(R:ai.Fr)(W:AW):Option (ad×AW):=
 jB P call o R W
def YG(_t:af)(_s:au)(P:ag)(call:Callee)(o:am)(R:ai.Fr)(W:AW):Option (ad×AW):=
 jB P call o R W
def UK(t:af)(l:au)(c:au)(P:ag)(call:Callee)(o:am)(R:ai.Fr)(W:AW):Option (ad×AW):=
 pM P W t (aF R l) (aF R c)
def al0(t:af)(x:au)(lo:Option au)(hi:Option au)(mx:Option au)(P:ag)(call:Callee)(o:am)(R:ai.Fr)(W:AW):Option (ad×AW):=
 match nH P t (aF R x) (lo.map (aF R)) (hi.map (aF R)) (mx.map (aF R))with
  |some v=>some (v,W)
  |none=>(ly P R o).map λv=>(v,W)
def T0(s:af)(x:au)(f:Nat)(P:ag)(call:Callee)(o:am)(R:ai.Fr)(W:AW):Option (ad×AW):=
 match Hx (aF R x)with
  |some a=>(match TG P s f with
   |some k=>some (.pointer (some (a.add k)),W)
   |none=>none)
  |none=>none
def alm(t:af)(x:au)(f:Nat)(P:ag)(call:Callee)(o:am)(R:ai.Fr)(W:AW):Option (ad×AW):=
 match P.underlying t,aF R x with
  |some (.struct fs),.agg cs=>match fs[f]? with
   |some fl=>(Df P fl.type cs fl.offset).map λv=>(v,W)
   |none=>none
  |_,_=>none
def T4(t:af)(x:au)(i:au)(P:ag)(call:Callee)(o:am)(R:ai.Fr)(W:AW):Option (ad×AW):=
 match aau P t with
  |some (none,z)=>(match vSl (aF R x)with
   |some (a,len)=>(match aay (aF R i)with
    |some n=>(match Nat.blt n len with
     |true=>some (.pointer (some (a.add (n*z))),W)
     |false=>none)
    |none=>none)
   |none=>none)
  |some (some len,z)=>(match Hx (aF R x)with
   |some a=>(match aay (aF R i)with
    |some n=>(match Nat.blt n len with
     |true=>some (.pointer (some (a.add (n*z))),W)
     |false=>none)
    |none=>none)
   |none=>none)
  |none=>none
def amO(_t:af)(_x:au)(_i:au)(P:ag)(call:Callee)(o:am)(R:ai.Fr)(W:AW):Option (ad×AW):=
 jB P call o R W
def agr(t:af)(m:au)(k:au)(ok:Bool)(P:ag)(call:Callee)(o:am)(R:ai.Fr)(W:AW):Option (ad×AW):=
 (oB P W t (aF R m) (aF R k) ok).map λv=>(v,W)
def TX(t:af)(m:au)(k:au)(v:au)(P:ag)(call:Callee)(o:am)(R:ai.Fr)(W:AW):Option (ad×AW):=
 (jH P W t (aF R m) (aF R k) (aF R v)).map λW'=>(aj,W')
def YV(_t:af)(_m:au)(_k:au)(P:ag)(call:Callee)(o:am)(R:ai.Fr)(W:AW):Option (ad×AW):=
 jB P call o R W
def Rr(_t:af)(_m:au)(_s:au)(_v:au)(P:ag)(call:Callee)(o:am)(R:ai.Fr)(W:AW):Option (ad×AW):=
 jB P call o R W
def ali(_t:af)(_x:au)(P:ag)(call:Callee)(o:am)(R:ai.Fr)(W:AW):Option (ad×AW):=
 jB P call o R W
def ap7(_it:au)(_s:Bool)(P:ag)(call:Callee)(o:am)(R:ai.Fr)(W:AW):Option (ad×AW):=
 jB P call o R W
def akb(_it:au)(P:ag)(call:Callee)(o:am)(R:ai.Fr)(W:AW):Option (ad×AW):=
 jB P call o R W
def Qz(_x:au)(_t:af)(_a:af)(_ok:Bool)(P:ag)(call:Callee)(o:am)(R:ai.Fr)(W:AW):Option (ad×AW):=
 jB P call o R W
def Z2(x:au)(i:Nat)(P:ag)(call:Callee)(o:am)(R:ai.Fr)(W:AW):Option (ad×AW):=
 match aqa (aF R x)with
  |some vs=>(vs[i]?).map λv=>(v,W)
  |none=>none
def aoM(c:Call)(P:ag)(call:Callee)(o:am)(R:ai.Fr)(W:AW):Option (ad×AW):=
 match c.callee with
  |.builtin b=>lz P o b c.argTypes (c.args.toList.map (aF R)) R W
  |.value f=>call (aF R f) (c.args.toList.map (aF R)) W
  |.invoke r name=>match aF R r with
   |.iface t v=>match wF P t name with
    |some f=>call (.func (.func f) #[] #[]) (v::c.args.toList.map (aF R)) W
    |none=>none
   |_=>none
def hGo(_c:Call)(P:ag)(call:Callee)(o:am)(R:ai.Fr)(W:AW):Option (ad×AW):=
 jB P call o R W
def al5(_c:Call)(P:ag)(call:Callee)(o:am)(R:ai.Fr)(W:AW):Option (ad×AW):=
 jB P call o R W
def amw(_x:au)(P:ag)(call:Callee)(o:am)(R:ai.Fr)(W:AW):Option (ad×AW):=
 jB P call o R W
def arc(_c:au)(_x:au)(P:ag)(call:Callee)(o:am)(R:ai.Fr)(W:AW):Option (ad×AW):=
 jB P call o R W
def aoP(_t:af)(_c:au)(_ok:Bool)(P:ag)(call:Callee)(o:am)(R:ai.Fr)(W:AW):Option (ad×AW):=
 jB P call o R W
def ahj(_cs:Array SelectCase)(_bl:Bool)(P:ag)(call:Callee)(o:am)(R:ai.Fr)(W:AW):Option (ad×AW):=
 jB P call o R W
def awr:Op->ag->Callee->am->ai.Fr->AW->Option (ad×AW):=
 Op.rec (motive:=λ_=>ag->Callee->am->ai.Fr->AW->Option (ad×AW)) anR ahy ap3 amt asQ aky Sh ahm arf ajH akQ ajy Ym Ts aqe aa0 zy I1 Zm aaO YG UK al0 T0 alm T4 amO agr TX YV Rr ali ap7 akb Qz Z2 aoM hGo al5 amw arc aoP ahj
def vA(P:ag)(call:Callee)(o:am)(R:ai.Fr)(W:AW):Option (ad×AW):=awr o.op P call o R W
def AC(P:ag)(call:Callee)(o:am)(R:ai.Fr)(W:AW):vA P call o R W=jB P call o R W:=by
 obtain⟨dst,op,type,pos,after,guard⟩:=o;cases op with
 |pick c a b=>exact ahV (aF R c) _ _
 |load t a=>exact ab8 P W t (aF R a)
 |store t a x=>exact YJ P W t (aF R a) (aF R x)
 |binOp op t x y yt=>show Ts op t x y yt P call ⟨dst,.binOp op t x y yt,type,pos,after,guard⟩ R W=_;unfold Ts;rw[ah2];rfl
 |extract x i=>exact UF W (aF R x) i
 |fieldAddr s x f=>exact OA P W s (aF R x) f
 |indexAddr t x i=>exact NM P W t (aF R x) (aF R i)
 |_=>rfl
def BT(P:ag)(f':ad)(cZ:List ad)(w:ar)(R:ad->ar->Prop):Prop:=
 match f' with
 |.func (.func i) fs cs=>(callFunc i (fs++cZ.toArray++cs)).run P w=.ok (.enter i (fs++cZ.toArray++cs)) w/\
  CallsIn (FE none) 0 P i (fs++cZ.toArray++cs) w (λe w'=>∃v,e=.returned v/\R v w')
 |.func (.yield l) fs _=>∃f tmps aC4 bd,(Instr.yield l (fs++cZ.toArray)).run P w=.ok (.round l f tmps aC4 bd) w/\
  RoundIn (FE none) 0 P l f tmps aC4 bd w (λe w'=>∃v,e=.returned v/\R v w')
 |_=>False
def cl(P:ag)(ng:List Nat)(call:Callee):Prop:=
 ∀f args W v W',call f args W=some (v,W')->∀σ w f' cZ,bI σ W w.heap->BC σ ng->VR σ f f'->LR σ args cZ->
  BT P f' cZ w (λv' w'=>∃σ',VR σ' v v'/\bI σ' W' w'.heap/\fT σ W w σ' W' w')
section
variable {P:ag} {σ:dz} {W:AW} {w:ar}
def Oj(hW:bI σ W w.heap){b:Builtin}{R:ai.Fr}{ρ:au->ad}{v:ad}{W':AW}{dst:Option Tmp}{type:af}{pos:String}{after:Array Edge}{guard:Option (Nat×Bool)}{args:Array au}{argTypes:Array af}
 (h:lz P {dst,op:=.call {callee:=.builtin b,args,argTypes},type,pos,after,guard} b argTypes (args.toList.map (aF R)) R W=some (v,W'))(hρ:∀x∈args,VR σ (aF R x) (ρ x)):
 lO P σ W w (execOp ρ {dst,op:=.call {callee:=.builtin b,args,argTypes},type,pos,after,guard}) v W':=by
 have jN:∀(x:Option ad),(x.map λv=>(v,W))=some (v,W')->x=some v/\W'=W:=by
  intro x hx;cases x with
  |none=>cases hx
  |some u=>simp at hx;exact⟨by rw[hx.1],hx.2.symm⟩
 have ai3:∀(x:Option AW),(x.map λW'=>(Value.tuple #[],W'))=some (v,W')->x=some W'/\v=.tuple #[]:=by
  intro x hx;cases x with
  |none=>cases hx
  |some u=>simp at hx;exact⟨by rw[hx.2],hx.1.symm⟩
 have IC:execOp ρ {dst,op:=.call {callee:=.builtin b,args,argTypes},type,pos,after,guard}=builtin b argTypes type (args.map λ|.const _=>true|_=>false) (args.map ρ):=by simp[execOp,resolve,invoke];rfl
 have da:LR σ (args.toList.map (aF R)) (args.map ρ).toList:=by have:=AZ args hρ;simpa using this
 unfold lz at h;split at h
 ·rename_i A n c Br;rw[Br]at da;obtain⟨x',l',e1,hx,hl⟩:=da.of_cons;have:=hl.of_nil;subst this;have e2:args.map ρ=#[x']:=by rw[<-jL (xs:=args.map ρ),e1]
  split at h
  ·rename_i e hu;injection h with h;injection h with h1 h2;subst h1;subst h2;rw[IC,e2];cases ha:argTypes[0]? with
   |none=>rw[ha]at hu;cases hu
   |some t=>rw[ha]at hu;simp only[bJ]at hu;refine .value (s:=Builtin.len_ argTypes type #[x']) rfl hW (v':=goInt n) ?_ (.int _ _);cases hx<;>simp[Builtin.len_,ha,cm hu]
  ·cases h
 ·rename_i Br;rw[Br]at da;obtain⟨x',l',e1,hx,hl⟩:=da.of_cons;have:=hl.of_nil;subst this;have e2:args.map ρ=#[x']:=by rw[<-jL (xs:=args.map ρ),e1]
  split at h
  ·rename_i k e hu;injection h with h;injection h with h1 h2;subst h1;subst h2;rw[IC,e2];cases ha:argTypes[0]? with
   |none=>rw[ha]at hu;cases hu
   |some t=>rw[ha]at hu;simp only[bJ]at hu;refine .value (s:=Builtin.len_ argTypes type #[x']) rfl hW (v':=goInt 0) ?_ (.int _ _);cases hx;simp[Builtin.len_,ha,cm hu]
  ·cases h
 ·rename_i r Br;rw[Br]at da;obtain⟨x',l',e1,hx,hl⟩:=da.of_cons;have:=hl.of_nil;subst this;have e2:args.map ρ=#[x']:=by rw[<-jL (xs:=args.map ρ),e1]
  split at h
  ·rename_i k e es c hu hr;injection h with h;injection h with h1 h2;subst h1;subst h2;rw[IC,e2];cases ha:argTypes[0]? with
   |none=>rw[ha]at hu;cases hu
   |some t=>
    rw[ha]at hu;simp only[bJ]at hu;cases hx with
    |map _ g hg=>
     obtain⟨_,_,iW,g3,g4⟩:=Iq hW hr hg;refine .value (s:=Builtin.len_ argTypes type #[.map (some g.B)]) rfl hW (v':=goInt es.length) ?_ (.int _ _);have dv:iW.size=es.length:=by have:=g4.1;simp at this;omega
     simp[Builtin.len_,ha,cm hu,run_getObj_map g3,dv]
  ·cases h
 ·rename_i s x Br;rw[Br]at da;obtain⟨s',l',e1,hs,hl⟩:=da.of_cons;obtain⟨x',l'',e3,hx,CK⟩:=hl.of_cons;have:=CK.of_nil;subst this;subst e3;have e2:args.map ρ=#[s',x']:=by rw[<-jL (xs:=args.map ρ),e1]
  rw[IC,e2];exact .ox (s:=Builtin.append_ argTypes type #[s',x']) rfl (OT hW h hs hx)
 ·rename_i s x Br;rw[Br]at da;obtain⟨s',l',e1,hs,hl⟩:=da.of_cons;obtain⟨x',l'',e3,hx,CK⟩:=hl.of_cons;have:=CK.of_nil;subst this;subst e3;have e2:args.map ρ=#[s',x']:=by rw[<-jL (xs:=args.map ρ),e1]
  rw[IC,e2];obtain⟨v',w',a,b,c,d⟩:=XM (ty:=type) hW h hs hx;exact .ox (s:=Builtin.copy_ argTypes type #[s',x']) rfl ⟨σ,v',w',a,b,c,d⟩
 ·rename_i x Br;rw[Br]at da;obtain⟨x',l',e1,hx,hl⟩:=da.of_cons;have:=hl.of_nil;subst this;have e2:args.map ρ=#[x']:=by rw[<-jL (xs:=args.map ρ),e1]
  rw[IC,e2];obtain⟨hc,rfl⟩:=ai3 _ h;obtain⟨w',a,b,c⟩:=Ty (ty:=type) hW hc hx;exact .ox (s:=Builtin.clear_ argTypes type #[x']) rfl ⟨σ,.tuple #[],w',a,.undef,b,c⟩
 ·rename_i s x Br;rw[Br]at da;obtain⟨s',l',e1,hs,hl⟩:=da.of_cons;obtain⟨x',l'',e3,hx,CK⟩:=hl.of_cons;have:=CK.of_nil;subst this;subst e3;have e2:args.map ρ=#[s',x']:=by rw[<-jL (xs:=args.map ρ),e1]
  rw[IC,e2];obtain⟨hc,rfl⟩:=ai3 _ h;obtain⟨w',a,b,c⟩:=Qi (ty:=type) hW hc hs hx;exact .ox (s:=Builtin.delete_ argTypes type #[s',x']) rfl ⟨σ,.tuple #[],w',a,.undef,b,c⟩
 ·rename_i x Br;rw[Br]at da;obtain⟨x',l',e1,hx,hl⟩:=da.of_cons;have:=hl.of_nil;subst this;have e2:args.map ρ=#[x']:=by rw[<-jL (xs:=args.map ρ),e1]
  rw[IC,e2];obtain⟨hc,rfl⟩:=jN _ h;obtain⟨v',a,b⟩:=Jg (P:=P) (w:=w) (ts:=argTypes) (ty:=type) hc hx;exact .ox (s:=Builtin.unsafeSliceData_ argTypes type #[x']) rfl ⟨σ,v',w,a,b,hW,fT.refl _ _ _⟩
 ·rename_i s x Br;rw[Br]at da;obtain⟨s',l',e1,hs,hl⟩:=da.of_cons;obtain⟨x',l'',e3,hx,CK⟩:=hl.of_cons;have:=CK.of_nil;subst this;subst e3;have e2:args.map ρ=#[s',x']:=by rw[<-jL (xs:=args.map ρ),e1]
  rw[IC,e2];exact .ox (s:=Builtin.unsafeString_ argTypes type #[s',x']) rfl (Ef hW h hs hx)
 ·obtain⟨hb,rfl⟩:=jN _ h;exact .aiW hW hb (λx hx=>by simp only[Op.operands,Call.operands]at hx;exact hρ x (by simpa using hx))
def TP{t:af}{name:String}{f:jU}(h:wF P t name=some f)(v:ad)(w:ar):(method (P.types.size+Made.depth) t v name).run P w=.ok (f,v) w:=by
 unfold wF at h;split at h
 ·rename_i i d hi hd;split at h
  ·rename_i m hm;split at h
   ·rename_i g e hp hf;split at h
    ·rename_i h0;injection h with h;subst h;obtain⟨n,hn⟩:∃n,P.types.size+Made.depth=n+1:=⟨P.types.size+Made.depth-1,by omega⟩;rw[hn];simp[method,typeInfo,hi,hm,hp,follow,hf,receiverAt,cm hd,Place.get]
    ·cases h
   ·cases h
  ·cases h
 ·cases h
def Ke(ro:Option Nat):(FE ro).depth=none:=rfl
def Kn{ro ro':Option Nat}{n:Nat}{f:jU}{args:Array ad}{w:ar}{R:Ending->ar->Prop}(h:CallsIn (FE ro) n P f args w R):CallsIn (FE ro') n P f args w R:=h
def TO{ro ro':Option Nat}{n l:Nat}{f:jU}{tmps:Array ad}{aC4 bd:bU}{w:ar}{R:Ending->ar->Prop}(h:RoundIn (FE ro) n P l f tmps aC4 bd w R):RoundIn (FE ro') n P l f tmps aC4 bd w R:=h
def Mv{ro:Option Nat}{o:am}{a:bw}{v:ad}{W':AW}{next:bw->ar->Prop}{Q:dx->bw->ar->Prop}(GN:∀c,o.op≠ .defer c)(h:lO P σ W w (execOp a.eval o) v W')
 (hn:∀σ' v' w',VR σ' v v'->bI σ' W' w'.heap->fT σ W w σ' W' w'->next (a.put o.dst v') w'):o.wpIn (FE ro) 0 P a w next Q:=by
 refine⟨λf _=>trivial,?_⟩;rw[Oper.semAt_eq _ _ _ GN];obtain⟨σ',nx,v',w',hr,hx,h1,h2,h3⟩:=h;rw[hr];rcases hx with rfl|⟨rfl,rfl⟩
 ·exact hn σ' v' w' h1 h2 h3
 ·exact hn σ' aj w' h1 h2 h3
def Kc{ro:Option Nat}{o:am}{a:bw}{v:ad}{W':AW}{next:bw->ar->Prop}{Q:dx->bw->ar->Prop}{f':ad}{cZ:List ad}(GN:∀c,o.op≠ .defer c)
 (hf:∀i fs cs,f'=.func (.func i) fs cs->(execOp a.eval o).run P w=(callFunc i (fs++cZ.toArray++cs)).run P w)
 (hy:∀l fs cs,f'=.func (.yield l) fs cs->(execOp a.eval o).run P w=(Instr.yield l (fs++cZ.toArray)).run P w)
 (h:BT P f' cZ w (λv' w'=>∃σ',VR σ' v v'/\bI σ' W' w'.heap/\fT σ W w σ' W' w'))
 (hn:∀σ' v' w',VR σ' v v'->bI σ' W' w'.heap->fT σ W w σ' W' w'->next (a.put o.dst v') w'):o.wpIn (FE ro) 0 P a w next Q:=by
 refine⟨λf _=>trivial,?_⟩;rw[Oper.semAt_eq _ _ _ GN];unfold BT at h;split at h
 ·rename_i i fs cs;obtain⟨h1,h2⟩:=h;rw[hf i fs cs rfl,h1];refine⟨λhd=>by rw[Ke]at hd;simp at hd,?_⟩;refine oV (Kn h2) ?_;rintro e w' ⟨u,rfl,σ',k1,k2,k3⟩;exact hn σ' u w' k1 k2 k3
 ·rename_i l fs cs;obtain⟨f,tmps,aC4,bd,h1,h2⟩:=h;rw[hy l fs cs rfl,h1];refine⟨λhd=>by rw[Ke]at hd;simp at hd,?_⟩;refine RoundIn.mono (TO h2) ?_;rintro e w' ⟨u,rfl,σ',k1,k2,k3⟩;exact hn σ' u w' k1 k2 k3
 ·exact h.elim
def NS{ng:List Nat}{call:Callee}(hc:cl P ng call)(hW:bI σ W w.heap)(hG:BC σ ng){ro:Option Nat}{o:am}{R:ai.Fr}{a:bw}{v:ad}{W':AW}{next:bw->ar->Prop}{Q:dx->bw->ar->Prop}
 (h:vA P call o R W=some (v,W'))(hρ:∀x∈o.op.operands,VR σ (aF R x) (a.eval x))
 (hn:∀σ' v' w',VR σ' v v'->bI σ' W' w'.heap->fT σ W w σ' W' w'->next (a.put o.dst v') w'):o.wpIn (FE ro) 0 P a w next Q:=by
 rw[AC]at h;unfold jB at h;split at h
 ·rename_i c vd;obtain⟨dst,op,type,pos,after,guard⟩:=o;simp only at vd;subst vd;obtain⟨callee,args,argTypes⟩:=c;have da:∀x∈args,VR σ (aF R x) (a.eval x):=λx hx=>hρ x (by simp[Op.operands,Call.operands,hx])
  have hl:LR σ (args.toList.map (aF R)) (args.map a.eval).toList:=by simpa using AZ args da
  split at h
  ·rename_i b hb;simp only at hb h;subst hb;exact Mv (λ_ hx=>by cases hx) (Oj hW h da) hn
  ·rename_i f hb;simp only at hb h;subst hb;have hf:=hρ f (by simp[Op.operands,Call.operands]);refine Kc (λ_ hx=>by cases hx) ?_ ?_ (hc _ _ _ _ _ h σ w _ _ hW hG hf hl) hn
   ·intro i fs cs e;rw[jL];simp[execOp,resolve,e,Deferred.ofValue,invoke]
   ·intro l fs cs e;rw[jL];simp[execOp,resolve,e,Deferred.ofValue,invoke]
  ·rename_i r name hb;simp only at hb h;subst hb;have hr:=hρ r (by simp[Op.operands,Call.operands]);split at h
   ·rename_i t u Qh;rw[Qh]at hr;obtain⟨u',hu,e⟩:=hr.FI;split at h
    ·rename_i f hm;refine Kc (f':=.func (.func f) #[] #[]) (cZ:=u'::(args.map a.eval).toList) (λ_ hx=>by cases hx) ?_ ?_ (hc _ _ _ _ _ h σ w _ _ hW hG (.func _ _ _ _ _ _ (.func f) rfl (λi v v' x=>by simp at x) rfl (λi v v' x=>by simp at x)) (.cons hu hl)) hn
     ·intro i fs cs e';injection e' with e1 e2 e3;injection e1 with e1;subst e1;subst e2;subst e3;have hx:(#[a.eval r]++args.map a.eval).extract 1 (args.size+1)=args.map a.eval:=by apply qn.1;simp[Nx];exact oz (by simp)
      have h0:(#[a.eval r]++args.map a.eval)[0]? =some (.iface t u'):=by rw[DZ];simp[e]
      have vZ:(#[a.eval r]++args.map a.eval).size=args.size+1:=by simp;omega
      have hgo:(invoke (.fn (.method name) #[]) (#[a.eval r]++args.map a.eval)).run P w=(callFunc f (#[u']++args.map a.eval)).run P w:=by rw[show invoke (.fn (.method name) #[]) (#[a.eval r]++args.map a.eval)=(match(#[a.eval r]++args.map a.eval)[0]? with|some recv=>callMethod recv name ((#[a.eval r]++args.map a.eval).extract 1 (#[a.eval r]++args.map a.eval).size)|none=>stuck "call: a method without a receiver")from by unfold invoke;split<;>simp_all];rw[h0];simp only[vZ,hx,callMethod,cS,run_program,cN,TP hm u' w]
      have e3:(#[]:Array ad)++(u'::(args.map a.eval).toList).toArray++#[]=#[u']++args.map a.eval:=by apply qn.1;simp
      rw[e3,<-hgo];simp[execOp,resolve]
     ·intro l fs cs e';injection e' with e1 e2 e3;cases e1
    ·cases h
   ·cases h
 ·rename_i hnc;refine Mv ?_ (Xd hW h hρ) hn;intro c hx;unfold LH at h;rw[hx]at h;cases h
end
end
section
variable [ai]
def Grow(W W':AW):Prop:=∀b o,W.get b=some o->W'.get b=some o
def Grow.refl(W:AW):Grow W W:=λ_ _ h=>h
def Grow.add{W:AW}(hf:W.get W.next=none)(o:dI):Grow W (W.add o):=λb o' h=>by
 have:W.next≠b:=λe=>by subst e;rw[hf]at h;cases h
 rw[AW.aE _ _ this];exact h
def MK(o:am)(R R':ai.Fr):Prop:=∀x∈o.op.operands,aF R' x=aF R x
def P1{P:ag}{o:am}{R R':ai.Fr}(h:MK o R R'):ly P R' o=ly P R o:=by
 unfold ly;have e1:o.op.operands.toList.all (λx=>bL (aF R' x))=o.op.operands.toList.all (λx=>bL (aF R x)):=by rw[uJ];simp only[db,Array.mem_toList_iff];exact⟨λk x hx=>by rw[<-h x hx];exact k x hx,λk x hx=>by rw[h x hx];exact k x hx⟩
 rw[e1];cases hn:AP o.op with
 |false=>rfl
 |true=>rw[execOp_congr o (λcs b hs=>by rw[hs]at hn;cases hn) (λx hx=>h x hx)]
def JP{P:ag}{W W':AW}{t:af}{x y:ad}(hx:bL x=true):pB P W' t x y=pB P W t x y:=by
 unfold pB;split;case h_3=>simp[bL,eH,cC]at hx
 all_goals first
  |rfl
  |(simp only[*];done)
  |skip
 all_goals(split<;>first|rfl|(simp_all;done)|skip)
def MJ{P:ag}{W W':AW}(hg:Grow W W'){t:af}{x y:ad}{b:Bool}(h:pB P W t x y=some b):pB P W' t x y=some b:=by
 unfold pB at h|-;split at h<;>try exact h
 split at h<;>try(cases h;done)
 split at h<;>try(cases h;done)
 rename_i ca cb h1 h2;rw[hg _ _ h1,hg _ _ h2];exact h
def DD{W W':AW}(hg:Grow W W'){b:Nat}{cs:List ad}(h:aH W b=some cs):aH W' b=some cs:=by
 unfold aH at h|-;split at h
 ·rename_i cV h1;rw[hg _ _ h1];exact h
 ·rename_i cV h1;rw[hg _ _ h1];exact h
 ·rename_i t' cV h1;rw[hg _ _ h1];exact h
 ·cases h
def J8{W W':AW}(hg:Grow W W'){b off n:Nat}{l:List ad}(h:pH W b off n=some l):pH W' b off n=some l:=by
 rw[kh]at h|-;split at h
 ·rename_i cs hc;rw[DD hg hc];exact h
 ·cases h
def KL{W W':AW}(hg:Grow W W'){x:ad}{n:Nat}{l:List ad}(h:cq W x n=some l):cq W' x n=some l:=by
 unfold cq at h|-;split at h
 ·exact h
 ·split at h
  ·rename_i h0;rw[an h0];exact h
  ·rename_i h0;rw[ap h0];split at h
   ·cases h
   ·rename_i h1;rw[ap h1];exact J8 hg h
 ·cases h
def UV{P:ag}{W W':AW}(hg:Grow W W'){s d:af}{x v:ad}{alt:Option ad}(h:JI P W s d x alt=some v):JI P W' s d x alt=some v:=by
 unfold JI at h|-;split at h
 ·rename_i a n c;show wo P W' s d (.slice (some a) n c)=some v;unfold wo at h|-;dsimp only at h|-;split at h
  ·rename_i e hs hd;split at h
   ·rename_i he;split at h
    ·rename_i cs sW;rw[KL hg sW];exact h
    ·cases h
   ·cases h
  ·cases h
 ·exact h
def Tx{P:ag}{W W':AW}(hg:Grow W W'){t:af}{x v:ad}(h:mh P W t x=some v):mh P W' t x=some v:=by
 unfold mh at h|-;split at h
 ·rename_i a;split at h
  ·rename_i ha;split at h
   ·rename_i cs hc;simp only[DD hg hc];exact h
   ·cases h
  ·rename_i ha;split at h
   ·rename_i n hn;cases hr:pH W a.block a.off n with
    |none=>rw[hr]at h;cases h
    |some l=>rw[hr]at h;rw[J8 hg hr];exact h
   ·cases h
  ·cases h
 ·cases h
def Pz{P:ag}{W W':AW}(hg:Grow W W'){t:af}{m k v:ad}{ok:Bool}(h:oB P W t m k ok=some v):oB P W' t m k ok=some v:=by
 unfold oB at h|-;split at h
 ·exact h
 ·rename_i kt e r hu;split at h
  ·rename_i es c hr;simp only[hg _ _ hr];exact h
  ·cases h
 ·cases h
def Rn{R R':ai.Fr}{ps:Array (Nat×au)}(h:∀p∈ps.toList,aF R' p.2=aF R p.2):parts R' ps=parts R ps:=by unfold parts;exact List.map_congr_left λp hp=>by rw[h p hp]
set_option maxHeartbeats 1000000 in
def AS{P:ag}{call:Callee}{o:am}{R:ai.Fr}{W W1:AW}{v:ad}(hk:kb o<=1)(h:vA P call o R W=some (v,W1)):
 W1=W/\∀R' W',MK o R R'->(kb o=0\/Grow W W')->vA P call o R' W'=some (v,W'):=by
 have jN:∀(x:Option ad),(x.map λv=>(v,W))=some (v,W1)->x=some v/\W1=W:=by
  intro x hx;cases x with
  |none=>cases hx
  |some u=>simp at hx;exact⟨by rw[hx.1],hx.2.symm⟩
 have hpc:∀R',MK o R R'->ly P R' o=ly P R o:=λR' ha=>P1 ha
 obtain⟨dst,op,type,pos,after,guard⟩:=o;cases op<;>simp only[kb]at hk<;>(try(exfalso;omega))<;>simp only[AC,jB,LH]at h|- <;>simp only[MK,Op.operands]at hpc|-;case move x=>injection h with h;injection h with h1 h2;subst h1;subst h2;exact⟨rfl,λR' W' ha _=>by rw[ha x (by simp)]⟩
 case assign x=>injection h with h;injection h with h1 h2;subst h1;subst h2;exact⟨rfl,λR' W' ha _=>by rw[ha x (by simp)]⟩
 case pick c a b=>
  split at h<;>(try(cases h;done))<;>rename_i ud<;>injection h with h<;>injection h with h1 h2<;>subst h1<;>subst h2<;>
   exact⟨rfl,λR' W' ha _=>by rw[ha c (by simp),ha a (by simp),ha b (by simp),ud]⟩
 case build t ps=>
  obtain⟨hb,rfl⟩:=jN _ h;refine⟨rfl,λR' W' ha _=>?_⟩;have:CQ P R' t ps=CQ P R t ps:=by unfold CQ;rw[Rn λp hp=>ha p.2 (by simp;exact⟨p.1,by simpa using hp⟩)]
  rw[this,hb];rfl
 case nilCheck x=>
  split at h<;>(try(cases h;done))<;>rename_i ud<;>injection h with h<;>injection h with h1 h2<;>subst h1<;>subst h2<;>
   exact⟨rfl,λR' W' ha _=>by rw[ha x (by simp),ud]⟩
 case unOp op t x=>obtain⟨hb,rfl⟩:=jN _ h;exact⟨rfl,λR' W' ha _=>by rw[hpc R' (λy hy=>ha y hy),hb];rfl⟩
 case convert s d x=>obtain⟨hb,rfl⟩:=jN _ h;refine⟨rfl,λR' W' ha hg=>?_⟩;have F1:Grow W1 W':=hg.resolve_left (by simp[kb]);rw[ha x (by simp),hpc R' (λy hy=>ha y hy),UV F1 hb];rfl
 case makeInterface t x=>
  split at h
  ·cases h
  ·rename_i d hd hu;injection h with h;injection h with h1 h2;subst h1;subst h2;exact⟨rfl,λR' W' ha _=>by rw[ha x (by simp)]⟩
  ·cases h
 case slice t x lo hi mx=>
  have key:∀R',(∀y∈#[x]++lo.toArray++hi.toArray++mx.toArray,aF R' y=aF R y)->nH P t (aF R' x) (lo.map (aF R')) (hi.map (aF R')) (mx.map (aF R'))=nH P t (aF R x) (lo.map (aF R)) (hi.map (aF R)) (mx.map (aF R)):=by
   intro R' ha;have e1:aF R' x=aF R x:=ha x (by simp);have e2:lo.map (aF R')=lo.map (aF R):=by
    cases lo with
    |none=>rfl
    |some y=>simp only[dA];rw[ha y (by simp)]
   have e3:hi.map (aF R')=hi.map (aF R):=by
    cases hi with
    |none=>rfl
    |some y=>simp only[dA];rw[ha y (by simp)]
   have e4:mx.map (aF R')=mx.map (aF R):=by
    cases mx with
    |none=>rfl
    |some y=>simp only[dA];rw[ha y (by simp)]
   rw[e1,e2,e3,e4]
  split at h
  ·rename_i u hs;injection h with h;injection h with h1 h2;subst h1;subst h2;exact⟨rfl,λR' W' ha _=>by rw[key R' (λy hy=>ha y (by simpa using hy)),hs]⟩
  ·rename_i hs;obtain⟨hb,rfl⟩:=jN _ h;exact⟨rfl,λR' W' ha _=>by rw[key R' (λy hy=>ha y (by simpa using hy)),hs,hpc R' (λy hy=>ha y hy),hb];rfl⟩
 case fieldAddr s x f=>
  split at h
  ·rename_i fs a hu DF;split at h
   ·rename_i fl wU;split at h
    ·rename_i n hn;injection h with h;injection h with h1 h2;subst h1;subst h2;exact⟨rfl,λR' W' ha _=>by rw[ha x (by simp)];simp[hu,DF,wU,hn]⟩
    ·cases h
   ·cases h
  ·cases h
 case field t x f=>
  split at h
  ·rename_i fs cs hu DF;split at h
   ·rename_i fl wU;obtain⟨hb,rfl⟩:=jN _ h;exact⟨rfl,λR' W' ha _=>by rw[ha x (by simp)];simp[hu,DF,wU,hb]⟩
   ·cases h
  ·cases h
 case indexAddr t x i=>
  have:W1=W:=by split at h<;>(try(cases h;done))<;>split at h<;>(try(cases h;done))<;>split at h<;>(try(cases h;done))<;>(injection h with h;injection h with h1 h2;exact h2.symm)
  subst this;refine⟨rfl,λR' W' ha _=>?_⟩;rw[ha x (by simp),ha i (by simp)];split at h<;>(try(cases h;done))<;>rename_i z hz<;>split at h<;>(try(cases h;done))<;>split at h<;>(try(cases h;done))<;>(injection h with h;injection h with h1 h2;simp[*])
 case index t x i=>
  split at h
  ·rename_i len e cs n hu DF hi0;split at h
   ·rename_i z hz;split at h
    ·rename_i lA;obtain⟨hb,rfl⟩:=jN _ h;exact⟨rfl,λR' W' ha _=>by rw[ha x (by simp),ha i (by simp)];simp[hu,DF,hi0,hz,lA,hb]⟩
    ·cases h
   ·cases h
  ·rename_i CX;obtain⟨hb,rfl⟩:=jN _ h;refine⟨rfl,λR' W' ha _=>?_⟩;rw[ha x (by simp),ha i (by simp)];split
   ·rename_i len e cs n hu DF hi0;exact absurd hi0 (by intro hi0;exact CX _ _ _ _ hu DF hi0)
   ·rw[hpc R' (λy hy=>ha y hy),hb];rfl
 case extract x i=>
  split at h
  ·rename_i vs DF;obtain⟨hb,rfl⟩:=jN _ h;exact⟨rfl,λR' W' ha _=>by rw[ha x (by simp),DF];simp[hb]⟩
  ·cases h
 case typeAssert x s t ok=>
  split at h
  ·cases h
  ·rename_i CX u v0 hu DF;split at h
   ·rename_i hut;injection h with h;injection h with h1 h2;subst h1;subst h2;exact⟨rfl,λR' W' ha _=>by rw[ha x (by simp)];simp[hu,DF,hut]⟩
   ·cases h
  ·cases h
 case load t a=>obtain⟨hb,rfl⟩:=jN _ h;refine⟨rfl,λR' W' ha hg=>?_⟩;have F1:Grow W1 W':=hg.resolve_left (by simp[kb]);rw[ha a (by simp),Tx F1 hb];rfl
 case lookup t m k ok=>obtain⟨hb,rfl⟩:=jN _ h;refine⟨rfl,λR' W' ha hg=>?_⟩;have F1:Grow W1 W':=hg.resolve_left (by simp[kb]);rw[ha m (by simp),ha k (by simp),Pz F1 hb];rfl
 case makeFunc fn first li=>
  cases fn<;>(try(simp only[]at hk;exfalso;omega));rename_i f0;simp only at h|-;injection h with h;injection h with h1 h2;subst h1;subst h2;refine⟨rfl,λR' W' ha _=>?_⟩;have e1:first.map (aF R')=first.map (aF R):=Array.map_congr_left λy hy=>ha y (by simp[hy])
  have e2:li.map (aF R')=li.map (aF R):=Array.map_congr_left λy hy=>ha y (by simp[hy])
  rw[e1,e2]
 case binOp op t x y yt=>
  by_cases vd:op=.eql\/op=.neq
  ·have fp:∀W',(kb (⟨dst,.binOp op t x y yt,type,pos,after,guard⟩:am)=0\/Grow W W')->Grow W W':=λW' hg=>hg.resolve_left (by rcases vd with rfl|rfl<;>simp[kb])
   split at h
   ·rename_i u hb;injection h with h;injection h with h1 h2;subst h1;subst h2;refine⟨rfl,λR' W' ha hg=>?_⟩;have F1:=fp W' hg;have:rP P W' op t (aF R x) (aF R y)=some u:=by
     unfold rP at hb|-;split at hb
     ·exact hb
     ·split at hb
      ·cases he:pB P W t (aF R x) (aF R y)with
       |none=>
        rw[he]at hb;cases ht:Ka P t (aF R x) (aF R y)with
        |none=>rw[ht]at hb;cases hb
        |some b=>rw[Mx ht W',<-ht];rw[ht]at hb|-;exact hb
       |some b=>rw[he]at hb;simp only[MJ F1 he];exact hb
      ·cases he:pB P W t (aF R x) (aF R y)with
       |none=>
        rw[he]at hb;cases ht:Ka P t (aF R x) (aF R y)with
        |none=>rw[ht]at hb;cases hb
        |some b=>rw[Mx ht W',<-ht];rw[ht]at hb|-;exact hb
       |some b=>rw[he]at hb;simp only[MJ F1 he];exact hb
      ·cases hb
    rw[ha x (by simp),ha y (by simp),this]
   ·rename_i hb;obtain⟨hp,rfl⟩:=jN _ h;refine⟨rfl,λR' W' ha hg=>?_⟩;have qk:bL (aF R x)=true:=by
     unfold ly at hp;split at hp
     ·rename_i hc;simp only[bA,db,Array.mem_toList_iff]at hc;exact hc.2 x (by simp[Op.operands])
     ·cases hp
    have:rP P W' op t (aF R x) (aF R y)=none:=by
     rw[<-hb];unfold rP;split
     ·rfl
     ·split
      ·rw[JP qk]
      ·rw[JP qk]
      ·rfl
    rw[ha x (by simp),ha y (by simp),this,hpc R' (λy hy=>ha y hy),hp];rfl
  ·have wM:∀W',rP P W' op t (aF R x) (aF R y)=rP P W op t (aF R x) (aF R y):=by
    intro W';unfold rP;split
    ·rfl
    ·cases op<;>simp at vd|-
   split at h
   ·rename_i u hb;injection h with h;injection h with h1 h2;subst h1;subst h2;exact⟨rfl,λR' W' ha hg=>by rw[ha x (by simp),ha y (by simp),wM W',hb]⟩
   ·rename_i hb;obtain⟨hp,rfl⟩:=jN _ h;exact⟨rfl,λR' W' ha hg=>by rw[ha x (by simp),ha y (by simp),wM W',hb,hpc R' (λy hy=>ha y hy),hp];rfl⟩
 case call c=>
  obtain⟨callee,args,argTypes⟩:=c;cases callee with
  |value f=>simp only at hk;exfalso;omega
  |invoke r name=>simp only at hk;exfalso;omega
  |builtin b=>
   cases b<;>(try(simp only at hk;exfalso;omega));simp only at h|-;have da:∀R',(∀y∈(Call.operands {callee:=.builtin .len,args,argTypes}),aF R' y=aF R y)->args.toList.map (aF R')=args.toList.map (aF R):=λR' ha=>List.map_congr_left λy hy=>ha y (by simp only[Call.operands];simpa using hy)
   unfold lz at h;split at h
   ·rename_i n c hl;split at h
    ·rename_i e hu;injection h with h;injection h with h1 h2;subst h1;subst h2;exact⟨rfl,λR' W' ha hg=>by unfold lz;rw[da R' ha,hl];simp only[hu]⟩
    ·cases h
   ·rename_i hl;split at h
    ·rename_i k e hu;injection h with h;injection h with h1 h2;subst h1;subst h2;exact⟨rfl,λR' W' ha hg=>by unfold lz;rw[da R' ha,hl];simp only[hu]⟩
    ·cases h
   ·rename_i r hl;split at h
    ·rename_i k e es c hu hr;injection h with h;injection h with h1 h2;subst h1;subst h2;refine⟨rfl,λR' W' ha hg=>?_⟩;have F1:Grow W W':=hg.resolve_left (by simp[kb]);unfold lz;rw[da R' ha,hl];simp only[hu,F1 _ _ hr]
    ·cases h
   ·rename_i hb hl;cases hb
   ·rename_i hb hl;cases hb
   ·rename_i hb hl;cases hb
   ·rename_i hb hl;cases hb
   ·rename_i hb hl;cases hb
   ·rename_i hb hl;cases hb
   ·rename_i h1 h2 h3 _ _ _ _ _ _;obtain⟨hp,rfl⟩:=jN _ h;refine⟨rfl,λR' W' ha hg=>?_⟩;unfold lz;rw[da R' ha];split
    ·rename_i hl;exact absurd hl (h1 _ _ _ rfl)
    ·rename_i hl;exact absurd hl (h2 rfl)
    ·rename_i hl;exact absurd hl (h3 _ rfl)
    ·rename_i hb hl;cases hb
    ·rename_i hb hl;cases hb
    ·rename_i hb hl;cases hb
    ·rename_i hb hl;cases hb
    ·rename_i hb hl;cases hb
    ·rename_i hb hl;cases hb
    ·rw[hpc R' (λy hy=>ha y hy),hp];rfl
end
section
variable [ai]
def xQ{P:ag}{σ:dz}{b:Nat}(hb:σ b=none)(w:ar)(t:af){cs cV:List ad}(hc:LR σ cs cV):
 (newRow t cV.toArray).run P w=.ok ⟨w.heap.size,0,none⟩ {w with heap:=w.heap.push (.cells cV.toArray t)}/\
 pA (cu σ b ⟨w.heap.size,0,cs.length⟩) (w.heap.push (.cells cV.toArray t)) ⟨w.heap.size,0,cs.length⟩ (.cells cs):=by
 refine⟨by simp[newRow],⟨cV.toArray,t,(0,0),by simp,λ_=>rfl,by simp,by simp[hc.1],λi v hv=>?_⟩⟩;obtain⟨v',a,b⟩:=hc.get hv;exact⟨v',by simpa using a,b.mono (dR hb)⟩
def Lays(P:ag)(R:ai.Fr)(o:am)(obj:dI)(mk:Nat->ad):Prop:=
 ∀(σ:dz) (ρ:au->ad) (w:ar) (b:Nat),(∀x∈o.op.operands,VR σ (aF R x) (ρ x))->σ b=none->
  ∃v' x e,(execOp ρ o).run P w=.ok (.value v') {w with heap:=w.heap.push x}/\VR (cu σ b ⟨w.heap.size,0,e⟩) (mk b) v'/\pA (cu σ b ⟨w.heap.size,0,e⟩) (w.heap.push x) ⟨w.heap.size,0,e⟩ obj
def Lays.agree{P:ag}{R R':ai.Fr}{o:am}{obj:dI}{mk:Nat->ad}(h:Lays P R o obj mk)(ha:MK o R R'):Lays P R' o obj mk:=
 λσ ρ w b hρ hb=>h σ ρ w b (λx hx=>by rw[<-ha x hx];exact hρ x hx) hb
def aey{P:ag}{R:ai.Fr}{o:am}{t:af}{cs:List ad}(h:∀(σ:dz) (ρ:au->ad) (w:ar),(∀x∈o.op.operands,VR σ (aF R x) (ρ x))->
 ∃cV,LR σ cs cV/\(execOp ρ o).run P w=((do pure (.value (.pointer (some (<-newRow t cV.toArray))))):Sem Next).run P w):
 Lays P R o (.cells cs) (λb=>.pointer (some ⟨b,0,none⟩)):=by
 intro σ ρ w b hρ hb;obtain⟨cV,hc,hr⟩:=h σ ρ w hρ;obtain⟨h1,h2⟩:=xQ (P:=P) hb w t hc;refine⟨.pointer (some ⟨w.heap.size,0,none⟩),.cells cV.toArray t,cs.length,by rw[hr];simp only[cS,h1,cN,iu],?_,h2⟩;have:=VR.ptr (σ:=cu σ b ⟨w.heap.size,0,cs.length⟩) ⟨b,0,none⟩ _ dN rfl;simpa using this
def Yd{P:ag}{R:ai.Fr}{o:am}{t:af}{cs:List ad}(h:∀(σ:dz) (ρ:au->ad) (w:ar),(∀x∈o.op.operands,VR σ (aF R x) (ρ x))->
 ∃cV,LR σ cs cV/\(execOp ρ o).run P w=((do pure (.value (.pointer (some (<-newRow t cV.toArray))))):Sem Next).run P w):
 Lays P R o (rD t cs) (λb=>.pointer (some ⟨b,0,none⟩)):=by
 intro σ ρ w b hρ hb;obtain⟨cV,hc,hr⟩:=h σ ρ w hρ;obtain⟨h1,_⟩:=xQ (P:=P) hb w t hc;refine⟨.pointer (some ⟨w.heap.size,0,none⟩),.cells cV.toArray t,cs.length,by rw[hr];simp only[cS,h1,cN,iu],?_,Kl (hc.mono (dR hb)) (by simp)⟩;have:=VR.ptr (σ:=cu σ b ⟨w.heap.size,0,cs.length⟩) ⟨b,0,none⟩ _ dN rfl;simpa using this
set_option maxHeartbeats 1000000 in
def adR{P:ag}{call:Callee}{o:am}{R:ai.Fr}{W W1:AW}{v:ad}(hk:kb o=2)(h:vA P call o R W=some (v,W1)):
 ∃obj mk,(∀cs,obj≠ .ro cs)/\v=mk W.next/\W1=W.add obj/\Lays P R o obj mk:=by
 obtain⟨dst,op,type,pos,after,guard⟩:=o;cases op<;>simp only[kb]at hk<;>(try(exfalso;omega))<;>simp only[AC,jB,LH]at h;case alloc t=>
  split at h
  ·rename_i z hz;injection h with h;rw[AW.dX]at h;injection h with h1 h2;refine⟨rD t z.cells.toList,λb=>.pointer (some ⟨b,0,none⟩),Mw t _,h1.symm,h2.symm,Yd (t:=t) λσ ρ w hρ=>?_⟩;obtain⟨CW,EU⟩:=ji hz w;refine⟨z.cells.toList,IF EU,?_⟩;simp[execOp,Instr.alloc,CW,newVar]
  ·cases h
 case box t x=>injection h with h;rw[AW.dX]at h;injection h with h1 h2;refine⟨.cells (aF R x).cells.toList,λb=>.pointer (some ⟨b,0,none⟩),λ_=>by simp,h1.symm,h2.symm,aey (t:=t) λσ ρ w hρ=>?_⟩;refine⟨(ρ x).cells.toList,(hρ x (by simp[Op.operands])).cells,?_⟩;simp[execOp,Instr.box,newVar]
 case buildSlice t len ps=>
  replace h:=yj h;unfold sz at h;split at h
  ·rename_i e hu;split at h
   ·rename_i n z hn hz;split at h
    ·rename_i hc;obtain⟨hc1,hc2,hc3⟩:=hc;split at h
     ·rename_i c hf;injection h with h;rw[AW.dX]at h;injection h with h1 h2;refine⟨.cells c.toList,λb=>.slice (some ⟨b,0,none⟩) len len,λ_=>by simp,h1.symm,h2.symm,?_⟩;intro σ ρ w b hρ hb;have hp:=Fe (σ:=σ) (R:=R) (ρ:=ρ) ps (λp hp=>hρ p.2 (by simp[Op.operands];exact⟨p.1,by simpa using hp⟩));obtain⟨CW,EU⟩:=ji hz w;obtain⟨pQ,h1,h2⟩:=EC _ _ _ _ _ _ hp (LR.qA (σ:=σ) (λ_=>fM) hc3) hf;obtain⟨k1,k2⟩:=xQ (P:=P) hb w e (cs:=c.toList) (cV:=pQ.toList) h2;refine⟨.slice (some ⟨w.heap.size,0,none⟩) len len,.cells pQ.toList.toArray e,c.toList.length,?_,?_,k2⟩
      ·have ad2:¬len*n>2^ 24:=by omega
       simp only[jL]at k1;have:(Instr.buildSlice t len (ps.map λ(i,x)=>(i,ρ x))).run P w=.ok (.slice (some ⟨w.heap.size,0,none⟩) len len) {w with heap:=w.heap.push (.cells pQ e)}:=by
        by_cases h0:len*n=0
        ·rw[xg h0]at h1;simp only[Instr.buildSlice,cS,cm hu,cN,bT hn,ap ad2,iu,an h0];rw[show(Array.map (λx=>(#[]:Array ad)[x % (#[]:Array ad).size]!) (Array.range (len*n)))=#[]by rw[h0];simp,h1];simp[k1]
        ·rw[AD h0]at h1;simp only[Instr.buildSlice,cS,cm hu,cN,bT hn,ap ad2,iu,ap h0,CW];rw[show(Array.map (λx=>z.cells[x % z.cells.size]!) (Array.range (len*n)))=NR z (len*n)from rfl,h1];simp[k1]
       simp only[execOp,cS,this,cN,iu,jL]
      ·have:=VR.slice (σ:=cu σ b ⟨w.heap.size,0,c.toList.length⟩) ⟨b,0,none⟩ len len len _ dN rfl (.known len hc2);simpa using this
     ·cases h
    ·cases h
   ·cases h
  ·cases h
 case makeSlice t l c=>
  unfold pM at h;split at h
  ·rename_i e hu;split at h
   ·rename_i n z bytes kl l0 kc c0 hn hz hbt hel hec;split at h
    ·rename_i wx;obtain⟨c1,c2,c3,c4⟩:=wx;injection h with h;rw[AW.dX]at h;injection h with h1 h2;refine⟨.cells (kI z (c0*n)).toList,λb=>.slice (some ⟨b,0,none⟩) l0 c0,λ_=>by simp,h1.symm,h2.symm,?_⟩;intro σ ρ w b hρ hb;have hl:=hρ l (by simp[Op.operands]);have hc:=hρ c (by simp[Op.operands]);rw[hel]at hl;rw[hec]at hc;have Cw:=hl.uu;have yT:=hc.uu;obtain⟨CW,EU⟩:=ji hz w;have hi:∃i,P.info? e=some i/\i.bytes=bytes:=by
      cases hi:P.info? e with
      |none=>rw[hi]at hbt;cases hbt
      |some i=>rw[hi]at hbt;simp at hbt;exact⟨i,rfl,hbt⟩
     obtain⟨i,hi,hib⟩:=hi;have SC:LR σ (kI z (c0*n)).toList (kI z (c0*n)).toList:=LR.qA (λ_=>fM) c4;obtain⟨k1,k2⟩:=xQ (P:=P) hb w e SC;refine⟨.slice (some ⟨w.heap.size,0,none⟩) l0 c0,.cells (kI z (c0*n)).toList.toArray e,_,?_,?_,k2⟩
     ·have:(Instr.makeSlice t (ρ l) (ρ c)).run P w=.ok (.slice (some ⟨w.heap.size,0,none⟩) l0 c0) {w with heap:=w.heap.push (.cells (kI z (c0*n)).toList.toArray e)}:=by
       rw[Cw,yT];have hwl:IntKind.i64.wrap (Int.ofNat l0)=(l0:Int):=D6 (by omega);have hwc:IntKind.i64.wrap (Int.ofNat c0)=(c0:Int):=D6 c2;have Kx:(typeInfo e).run P w=.ok i w:=by simp[typeInfo,hi]
       have aq2:(bytes:Int)*(c0:Int)<=281474976710656:=by
        have:((c0*bytes:Nat):Int)<=281474976710656:=by omega
        rw[Int.natCast_mul,Int.mul_comm]at this;exact this
       simp only[jL]at k1;have T9:¬(((decide ((c0:Int)<0)||decide ((i.bytes:Int)*(c0:Int)>2^ 48))||decide ((l0:Int)<0)||decide ((l0:Int)>(c0:Int)))=true):=by rw[hib];simp;omega
       simp only[Instr.makeSlice,cS,cm hu,cN,asInt,asIntOf,iu,Kx,hwl,hwc];rw[ap (by simpa using T9)];by_cases h0:c0*n=0
       ·rw[xg h0]at k1|-;simp only[cS,run_askRoom,cN,vj,bT hn,an h0,iu];rw[show(Array.map (λx=>(#[]:Array ad)[x % (#[]:Array ad).size]!) (Array.range (c0*n)))=#[]by rw[h0];simp,k1];simp
       ·rw[AD h0]at k1|-;simp only[cS,run_askRoom,cN,vj,bT hn,ap h0,CW,iu];rw[show(Array.map (λx=>z.cells[x % z.cells.size]!) (Array.range (c0*n)))=NR z (c0*n)from rfl,k1];simp
      simp only[execOp,cS,this,cN,iu]
     ·have:=VR.slice (σ:=cu σ b ⟨w.heap.size,0,(kI z (c0*n)).toList.length⟩) ⟨b,0,none⟩ l0 c0 c0 _ dN rfl (.known c0 (by unfold eG;omega));simpa using this
    ·cases h
   ·cases h
  ·cases h
 case binOp op t x y yt=>split at hk<;>omega
 case makeFunc fn a b=>cases fn<;>simp only[]at hk<;>omega
 case call c=>obtain⟨callee,args,argTypes⟩:=c;cases callee<;>simp only at hk<;>(try omega);rename_i b;cases b<;>simp only at hk<;>omega
section
variable {σ:dz} {W:AW} {w:ar}
def bI.ghost(h:bI σ W w.heap)(o:dI):bI σ (W.add o) w.heap:=by
 have fp:∀{c:Nat} {g:zY},σ c=some g->c≠W.next:=λhc e=>by have:=(h.qL _ _ hc).1;omega
 refine⟨?_,?_,?_,?_⟩
 ·intro c hc;have yT:W.next+1<=c:=hc;rw[AW.aE _ _ (by omega)];exact h.free c (by omega)
 ·intro c g hc;have:=h.qL c g hc;simp only[AW.av];omega
 ·intro c o2 g hc hg;rw[AW.aE _ _ (bc (fp hg))]at hc;exact h.obj c o2 g hc hg
 ·intro b1 b2 o1 o2 g1 g2 S3 h1 h2 k1 k2 hr;rw[AW.aE _ _ (bc (fp k1))]at h1;rw[AW.aE _ _ (bc (fp k2))]at h2;exact h.vF _ _ _ _ _ _ S3 h1 h2 k1 k2 hr
def bI.bind(h:bI σ W w.heap){b e:Nat}{o:dI}{x:sx}(hb:W.get b=some o)(ET:σ b=none)
 (Bw:pA (cu σ b ⟨w.heap.size,0,e⟩) (w.heap.push x) ⟨w.heap.size,0,e⟩ o):
 bI (cu σ b ⟨w.heap.size,0,e⟩) W (w.heap.push x):=by
 have hs:Sub σ (cu σ b ⟨w.heap.size,0,e⟩):=dR ET;have gH:∀B,B<w.heap.size->(w.heap.push x)[B]? =w.heap[B]? :=λB hB=>by rw[xS];rw[bM]
 have tL:∀c g,cu σ b ⟨w.heap.size,0,e⟩ c=some g->(c=b/\g=⟨w.heap.size,0,e⟩)\/(c≠b/\σ c=some g):=λc g hc=>by
  unfold cu at hc;split at hc
  ·rename_i hx;injection hc with hc;exact .inl ⟨hx,hc.symm⟩
  ·rename_i hx;exact .inr ⟨hx,hc⟩
 have hbn:b<W.next:=by
  rcases qG b W.next with h1|h1
  ·exact h1
  ·rw[h.free b h1]at hb;cases hb
 refine⟨h.free,?_,?_,?_⟩
 ·intro c g hc;rcases tL c g hc with⟨rfl,rfl⟩|⟨_,h2⟩
  ·exact⟨hbn,by simp⟩
  ·have:=h.qL c g h2;simp;omega
 ·intro c o2 g hc hk;rcases tL c g hk with⟨rfl,rfl⟩|⟨h1,h2⟩
  ·rw[hb]at hc;injection hc with hc;subst hc;exact Bw
  ·exact((h.obj c o2 g hc h2).mono hs).same (gH _ (h.qL c g h2).2)
 ·intro b1 b2 o1 o2 g1 g2 S3 h1 h2 k1 k2 hr;rcases tL b1 g1 k1 with⟨rfl,rfl⟩|⟨x1,y1⟩
  ·rcases tL b2 g2 k2 with⟨rfl,rfl⟩|⟨x2,y2⟩
   ·exact absurd rfl S3
   ·have:=(h.qL _ _ y2).2;exact .inl (by simp only[ne_eq];omega)
  ·rcases tL b2 g2 k2 with⟨rfl,rfl⟩|⟨x2,y2⟩
   ·have:=(h.qL _ _ y1).2;exact .inl (by simp only[ne_eq];omega)
   ·exact h.vF _ _ _ _ _ _ S3 h1 h2 y1 y2 hr
def fT.Ya{σ0:dz}{W0:AW}{w0:ar}(h:fT σ0 W0 w0 σ W w)(hw:W.get W.next=none)(o:dI):fT σ0 W0 w0 σ (W.add o) w:=
 ⟨h.sub,λb cs x=>by
   have h1:=h.ro b cs x;have:W.next≠b:=λe=>by subst e;rw[hw]at h1;cases h1
   rw[AW.aE _ _ this];exact h1,
   h.size,h.os,h.tape,h.output,h.keep,λb o2 h1 h2=>by
    obtain⟨a1,a2⟩:=h.ghost b o2 h1 h2;have:W.next≠b:=λe=>by subst e;rw[hw]at a1;cases a1
    exact⟨by rw[AW.aE _ _ this];exact a1,a2⟩,h.grow⟩
def fT.bind{σ0:dz}{W0:AW}{w0:ar}(h:fT σ0 W0 w0 σ W w){b e:Nat}(ET:σ b=none)(h0:W0.get b=none){x:sx}{o:dI}(Bw:pA (cu σ b ⟨w.heap.size,0,e⟩) (w.heap.push x) ⟨w.heap.size,0,e⟩ o)(uK:∀cs,o≠ .ro cs):
 fT σ0 W0 w0 (cu σ b ⟨w.heap.size,0,e⟩) W {w with heap:=w.heap.push x}:=by
 have hs:Sub σ (cu σ b ⟨w.heap.size,0,e⟩):=dR ET;refine⟨h.sub.trans hs,h.ro,by have:=h.size;simp;omega,h.os,h.tape,h.output,?_,?_,?_⟩
 ·intro B hB hm;rw[<-h.keep B hB hm];have:=h.size;show(w.heap.push x)[B]? =_;rw[xS,bM]
 ·intro c o2 h1 h2;obtain⟨a1,a2⟩:=h.ghost c o2 h1 h2;have:c≠b:=λe=>by subst e;rw[h0]at h1;cases h1
  exact⟨a1,by unfold cu;rw[ap this];exact a2⟩
 ·intro c g hk hB;unfold cu at hk;split at hk
  ·injection hk with hk;subst hk;have:=h.size;simp at hB;omega
  ·exact h.grow c g hk hB
end
end
section
variable [ai]
def W7{d:Option Tmp}{l:List Tmp}:QR d l=true<->∃t,d=some t/\t∈l:=by
 cases d with
 |none=>simp[QR]
 |some d=>simp[QR,x8]
def wA{d:Option Tmp}{l:List Tmp}(h:QR d l=false){t:Tmp}(ht:d=some t):t∉l:=λhm=>by have:=W7.2 ⟨t,ht,hm⟩;rw[h]at this;cases this
def jT(ops:Array am)(R:ai.Fr)(o:am):Bool:=
 match o.guard with
 |none=>true
 |some (j,w)=>match(ops[j]?).bind (·.dst)with
  |some t=>(match dy R t with|.bool b=>b==w|_=>false)
  |none=>false
def SH{ops:Array am}{o:am}{t:Tmp}(h:Operand.tmp t∈o.op.operands):t∈o.looksAt ops:=by unfold Oper.looksAt;refine lH.2 (.inl (List.mem_filterMap.2 ⟨.tmp t,by simpa using h,rfl⟩))
def GO{ops:Array am}{o:am}{j:Nat}{w:Bool}{t:Tmp}(h:o.guard=some (j,w))(ht:(ops[j]?).bind (·.dst)=some t):t∈o.looksAt ops:=by unfold Oper.looksAt;refine lH.2 (.inr ?_);rw[h];simp only;rw[ht];simp
def Q7{R R':ai.Fr}{x:au}(h:∀t,x=.tmp t->dy R' t=dy R t):aF R' x=aF R x:=by
 cases x with
 |tmp t=>exact h t rfl
 |_=>rfl
def Eh{ops:Array am}{o:am}{R R':ai.Fr}(h:∀t∈o.looksAt ops,dy R' t=dy R t):MK o R R'/\jT ops R' o=jT ops R o:=by
 refine⟨λx hx=>Q7 λt ht=>h t (SH (by rw[<-ht];exact hx)),?_⟩;unfold jT;split
 ·rfl
 ·rename_i j w hg;split
  ·rename_i t ht;rw[h t (GO hg ht)]
  ·rfl
def VR.YP{σ:dz}{v:ad}{b:Bool}(h:VR σ v (.bool b)):v=.bool b:=by cases h;rfl
def FM{ops:Array am}{o:am}{σ:dz}{R:ai.Fr}{a:bw}(h:∀t∈o.looksAt ops,VR σ (dy R t) (a.tmps.getD t aj)):
 Region.wanted o (yielded ops a.tmps)=jT ops R o:=by
 unfold Region.wanted jT;cases hg:o.guard with
 |none=>rfl
 |some jw=>
  obtain⟨j,w⟩:=jw;simp only;unfold yielded;cases ht:(ops[j]?).bind (·.dst)with
  |none=>rfl
  |some t=>
   have hv:=h t (GO hg ht);simp only[bJ];cases hq:a.tmps[t]? with
   |none=>
    have he:a.tmps.getD t aj=aj:=by simp[hq]
    rw[he]at hv;have:∀b,dy R t≠ .bool b:=λb hb=>by rw[hb]at hv;have:=hv.jY;simp[aj]at this
    simp only;first
     |rfl
     |(split
       ·rename_i b hb;exact absurd hb (this b)
       ·rfl)
   |some u=>
    have he:a.tmps.getD t aj=u:=by simp[hq]
    rw[he]at hv;cases hr:dy R t with
    |bool b=>rw[hr]at hv;have:=hv.jY;subst this;simp
    |_=>
     simp only;split
     ·rename_i b hb;injection hb with hb;subst hb;have:=hv.YP;rw[hr]at this;cases this
     ·rfl
def nN(P:ag)(call:Callee)(ops:Array am)(o:am)(R:ai.Fr)(W:AW):Option (ai.Fr×AW):=
 if jT ops R o then
  match vA P call o R W with
  |some (v,W')=>some (iU R o.dst v,W')
  |none=>none
 else some (iU R o.dst aj,W)
def tI(P:ag)(call:Callee)(ops:Array am):List am->ai.Fr->AW->Option (ai.Fr×AW)
 |[],R,W=>some (R,W)
 |o::l,R,W=>match nN P call ops o R W with
  |some (R',W')=>tI P call ops l R' W'
  |none=>none
def ED(a b:ByteArray):Bool:=decide (a.data.toList=b.data.toList)
def Fq(a b:bg):Bool:=Nat.beq a.block b.block&&Nat.beq a.off b.off&&a.spot.isNone&&b.spot.isNone
def zG:ad->ad->Bool
 |.bool a,.bool b=>a==b
 |.int k a,.int j b=>decide (k=j)&&decide (a=b)
 |.string a,.string b=>ED a b
 |.pointer none,.pointer none=>true
 |.pointer (some a),.pointer (some b)=>Fq a b
 |.slice none l c,.slice none l' c'=>Nat.beq l l'&&Nat.beq c c'
 |.slice (some a) l c,.slice (some b) l' c'=>Fq a b&&Nat.beq l l'&&Nat.beq c c'
 |.map none,.map none=>true
 |.map (some a),.map (some b)=>Nat.beq a b
 |.nilFunc,.nilFunc=>true
 |.nilIface,.nilIface=>true
 |.func (.func f) a b,.func (.func g) c d=>Nat.beq f g&&a.isEmpty&&b.isEmpty&&c.isEmpty&&d.isEmpty
 |_,_=>false
def Y5:List ad->List ad->Bool
 |[],[]=>true
 |a::l,b::m=>zG a b&&Y5 l m
 |_,_=>false
def iD:ad->ad->Bool
 |.agg a,.agg b=>Y5 a.toList b.toList
 |.tuple a,.tuple b=>Y5 a.toList b.toList
 |.iface t a,.iface u b=>Nat.beq t u&&zG a b
 |a,b=>zG a b
def J3{a b:ByteArray}(h:ED a b=true):a=b:=by have:=DI h;cases a;cases b;simp only[ByteArray.mk.injEq];exact qn.1 this
def My{a b:bg}(h:Fq a b=true):a=b:=by simp only[Fq,bA,fq]at h;obtain⟨⟨⟨h1,h2⟩,h3⟩,h4⟩:=h;obtain⟨b1,o1,s1⟩:=a;obtain⟨b2,o2,s2⟩:=b;cases s1<;>cases s2<;>simp_all
def UR{a b:ad}(h:zG a b=true):a=b:=by
 unfold zG at h;split at h<;>first
  |rfl
  |(simp at h;done)
  |(simp only[bA,fq,uW,ip]at h;simp[h];done)
  |(rw[J3 h];done)
  |(rw[My h];done)
  |(simp only[bA,fq]at h;obtain⟨⟨h1,h2⟩,h3⟩:=h;rw[My h1,h2,h3];done)
  |(simp only[bA,fq,Au]at h;obtain⟨⟨⟨⟨h1,h2⟩,h3⟩,h4⟩,h5⟩:=h;subst h1 h2 h3 h4 h5;rfl)
def aeC{a b:List ad}(h:Y5 a b=true):a=b:=by
 induction a generalizing b with
 |nil=>cases b with|nil=>rfl|cons x l=>cases h
 |cons x l ih=>
  cases b with
  |nil=>cases h
  |cons y m=>simp only[Y5,bA]at h;rw[UR h.1,ih h.2]
def ac5{a b:ad}(h:iD a b=true):a=b:=by
 unfold iD at h;split at h
 ·rw[qn.1 (aeC h)]
 ·rw[qn.1 (aeC h)]
 ·simp only[bA,fq]at h;rw[h.1,UR h.2]
 ·exact UR h
def uP(P:ag)(call:Callee)(ops:Array am)(R:ai.Fr)(W:AW)(j:Nat):Bool:=
 match ops[j]? with
 |none=>false
 |some o=>if jT ops R o then
  match vA P call o R W with
  |some (v,_)=>(match o.dst with|some t=>iD v (dy R t)|none=>true)
  |none=>false
  else true
def mO(P:ag)(call:Callee)(ops:Array am):List (Nat×List Nat)->ai.Fr->AW->Option (ai.Fr×AW)
 |[],R,W=>some (R,W)
 |(i,re)::l,R,W=>match ops[i]? with
  |none=>none
  |some o=>match nN P call ops o R W with
   |some (R',W')=>if re.all (uP P call ops R' W')then mO P call ops l R' W' else none
   |none=>none
def Vn{P:ag}{call:Callee}{ops:Array am}:∀(l:List Nat) (R:ai.Fr) (W:AW),(∀i∈l,i<ops.size)->
 mO P call ops (l.map λi=>(i,[])) R W=tI P call ops (l.filterMap λi=>ops[i]?) R W:=by
 intro l;induction l with
 |nil=>intro R W _;rfl
 |cons i l ih=>
  intro R W h;have hi:i<ops.size:=h i (by simp);have hg:ops[i]? =some ops[i]:=jK hi;simp only[lj,mO,hg,List.filterMap_cons,tI];split
  ·rename_i R' W' hs;simp only[xy,bi];exact ih R' W' λj hj=>h j (by simp[hj])
  ·rfl
def oS{R:ai.Fr}{d:Option Tmp}{v:ad}{t:Tmp}(h:d≠some t):dy (iU R d v) t=dy R t:=by
 cases d with
 |none=>rfl
 |some d=>exact xT R v (λe=>h (by rw[e]))
def Av{R:ai.Fr}{d:Option Tmp}{v:ad}{t:Tmp}(h:d=some t):dy (iU R d v) t=v:=by subst h;exact Be R t v
def jD{a:bw}{d:Option Tmp}{v:ad}{t:Tmp}(h:d≠some t):(a.put d v).tmps.getD t aj=a.tmps.getD t aj:=by
 cases d with
 |none=>rfl
 |some d=>
  have:d≠t:=λe=>h (by rw[e])
  simp[Act.put,E1 this]
def tP{a:bw}{d:Option Tmp}{v:ad}{t:Tmp}(h:d=some t)(ht:t<a.tmps.size):(a.put d v).tmps.getD t aj=v:=by subst h;simp[Act.put,ht]
def K2{a:bw}{d:Option Tmp}{v:ad}:(a.put d v).tmps.size=a.tmps.size:=by cases d<;>simp[Act.put]
end
section
variable [ai]
def WB{a b:Nat}(h:Nat.beq a b=false):a≠b:=λe=>by rw[e,uC]at h;cases h
def aac{A:List Nat}{o:am}{j:Nat}(h:Nat.testBit (Ae A o) j=true):
 ∃e∈o.after,Region.binds .any e=true/\(j=e.on\/Nat.testBit (A.getD e.on 0) j=true):=by
 have key:∀l:List Edge,Nat.testBit (l.foldr (λe m=>if Region.binds .any e then Nat.lor (Nat.lor (2^ e.on) (A.getD e.on 0)) m else m) 0) j=true->
  ∃e∈l,Region.binds .any e=true/\(j=e.on\/Nat.testBit (A.getD e.on 0) j=true):=by
  intro l;induction l with
  |nil=>intro h;simp at h
  |cons e l ih=>
   intro h;simp only[List.foldr_cons]at h;split at h
   ·rename_i hb;have h':Nat.testBit ((2^ e.on|||A.getD e.on 0)|||(l.foldr (λe m=>if Region.binds .any e then Nat.lor (Nat.lor (2^ e.on) (A.getD e.on 0)) m else m) 0)) j=true:=h;rw[Nat.testBit_or,Nat.testBit_or,oA,oA]at h';rcases h' with(h1|h1)|h1
    ·rw[Nat.testBit_two_pow]at h1;exact⟨e,by simp,hb,.inl (DI h1).symm⟩
    ·exact⟨e,by simp,hb,.inr h1⟩
    ·obtain⟨e',a,b⟩:=ih h1;exact⟨e',by simp[a],b⟩
   ·obtain⟨e',a,b⟩:=ih h;exact⟨e',by simp[a],b⟩
 obtain⟨e,a,b⟩:=key o.after.toList h;exact⟨e,by simpa using a,b⟩
structure am1 (ops:Array am) (A:List Nat) (pre:List J5) (i:Nat) (re:List Nat) (kn:List (Nat×List Nat)) (o:am) (e:Bool):Prop where
 op:ops[i]? =some o
 early:e=true->kb o<3/\QR o.dst (o.looksAt ops)=false/\∀d∈pre,QR o.dst (mT ops d.o)=false
 new:∀d∈pre,d.i≠i
 top:∀ed∈o.after,Region.binds .any ed=true->∃d∈pre,d.i=ed.on
 held:∀d∈pre,d.early=true->Nat.testBit (A.getD i 0) d.i=true\/(QR d.o.dst (o.looksAt ops)=false/\(e=true\/(QR o.dst (mT ops d.o)=false/\(kb d.o=0\/kb d.o=2\/d.i∈re))))
 last:e=true\/∀k∈kn,∃ok,ops[k.1]? =some ok/\∃ed∈ok.after,Region.binds .any ed=true/\∀d∈pre,d.i≠ed.on
 go:FG ops A (⟨i,o,e⟩::pre) kn=true
def Hg{ops:Array am}{A:List Nat}{pre:List J5}{i:Nat}{re:List Nat}{kn:List (Nat×List Nat)}(h:FG ops A pre ((i,re)::kn)=true):
 ∃o e,am1 ops A pre i re kn o e:=by
 unfold FG at h;split at h
 ·cases h
 ·rename_i o ho;simp only[bA]at h;obtain⟨⟨⟨⟨h1,h2⟩,h3⟩,h4⟩,h5⟩:=h;refine⟨o,_,⟨ho,?_,?_,?_,?_,?_,h5⟩⟩
  ·intro he;simp only[bA,db,ur]at he;obtain⟨⟨a,b⟩,c⟩:=he;exact⟨by simpa[jG]using a,b,c⟩
  ·intro d hd;rw[db]at h1;have:=h1 d hd;exact WB (by simpa only[ur]using this)
  ·intro ed hed hb;rw[db]at h2;have:=h2 ed (by simpa using hed);rw[hb]at this;simpa using this
  ·intro d hd hde;rw[db]at h3;have:=h3 d hd;rw[hde]at this;simp only[Bool.not_true,Bool.false_or,oA,bA,ur,fq,x8,or_assoc]at this;simpa only[bA,ur,or_assoc]using this
  ·rw[oA]at h4;refine h4.imp id λh4=>?_
   intro k hk;rw[db]at h4;have:=h4 k hk;split at this
   ·rename_i ok mQ;rw[xk]at this;obtain⟨ed,hed,hq⟩:=this;simp only[bA,db,ur]at hq;refine⟨ok,mQ,ed,by simpa using hed,hq.1,λd hd=>?_⟩;have:=hq.2 d hd;exact WB this
   ·cases this
section
variable {P:ag} {call:Callee} {ops:Array am} {A:List Nat} {nt:Nat} {ng:List Nat} {σ0:dz} {W0:AW} {w0:ar} {ds:List eh}
def ZC(P:ag)(call:Callee)(ops:Array am)(W0:AW)(bd:Nat->Option Nat)(σ:dz)(R:ai.Fr)(W:AW)(d:J5):Prop:=
 (jT ops R d.o=false/\bd d.i=none/\∀t,d.o.dst=some t->dy R t=aj)\/
 (jT ops R d.o=true/\bd d.i=none/\kb d.o<=1/\∃v,vA P call d.o R W=some (v,W)/\∀t,d.o.dst=some t->dy R t=v)\/
 (jT ops R d.o=true/\∃obj mk x,Lays P R d.o obj mk/\(∀t,d.o.dst=some t->dy R t=mk x)/\W.get x=some obj/\W0.get x=none/\σ x=none/\bd d.i=some x/\∀cs,obj≠ .ro cs)
def zL{o:am}{t:Tmp}(h:t∈o.looksAt ops):t∈mT ops o:=by unfold mT;simp[h]
def sK{o:am}{t:Tmp}(h:o.dst=some t):t∈mT ops o:=by unfold mT;simp[h]
def ZC.mono{bd Zn:Nat->Option Nat}{σ σ':dz}{R R':ai.Fr}{W W':AW}{d:J5}(h:ZC P call ops W0 bd σ R W d)
 (hb:Zn d.i=bd d.i)(hR:∀t∈mT ops d.o,dy R' t=dy R t)(hg:Grow W W')(hσ:∀x o,W.get x=some o->σ x=none->σ' x=none):
 ZC P call ops W0 Zn σ' R' W' d:=by
 obtain⟨ha,hw⟩:=Eh (ops:=ops) (o:=d.o) λt ht=>hR t (zL ht)
 rcases h with⟨h1,h2,h3⟩|⟨h1,h2,h3,v,h4,h5⟩|⟨h1,obj,mk,x,h2,h3,h4,h5,h6,h7⟩
 ·exact .inl ⟨by rw[hw];exact h1,by rw[hb];exact h2,λt ht=>by rw[hR t (sK ht)];exact h3 t ht⟩
 ·exact .inr (.inl ⟨by rw[hw];exact h1,by rw[hb];exact h2,h3,v,(AS h3 h4).2 R' W' ha (.inr hg),λt ht=>by rw[hR t (sK ht)];exact h5 t ht⟩)
 ·exact .inr (.inr ⟨by rw[hw];exact h1,obj,mk,x,h2.agree ha,λt ht=>by rw[hR t (sK ht)];exact h3 t ht,hg _ _ h4,h5,hσ _ _ h4 h6,by rw[hb];exact h7⟩)
structure J (P:ag) (call:Callee) (ops:Array am) (A:List Nat) (nt:Nat) (ng:List Nat) (σ0:dz) (W0:AW) (w0:ar) (ds:List eh)
 (pre:List J5) (listed:Array Bool) (bd:Nat->Option Nat) (σ:dz) (R:ai.Fr) (W:AW) (a:bw) (w:ar):Prop where
 Fg:bI σ W w.heap
 Ve:BC σ ng
 ext:fT σ0 W0 w0 σ W w
 S8:a.tmps.size=nt
 dfs:a.defers=ds
 BM:listed.size=ops.size
 X3:∀t,t<nt->(∀d∈pre,listed.getD d.i true=false->d.o.dst≠some t)->VR σ (dy R t) (a.tmps.getD t aj)
 sub:∀i,i<ops.size->listed.getD i true=true->∃d∈pre,d.i=i
 op:∀d∈pre,ops[d.i]? =some d.o
 early:∀d∈pre,d.early=false->listed.getD d.i true=true
 kind:∀d∈pre,d.early=true->kb d.o<3
 down:∀i j,i<ops.size->listed.getD i true=true->Nat.testBit (A.getD i 0) j=true->listed.getD j true=true
 Xc:∀d∈pre,∀d'∈pre,d'.early=true->QR d'.o.dst (d.o.looksAt ops)=true->Nat.testBit (A.getD d.i 0) d'.i=true/\d.i≠d'.i
 qU:∀d∈pre,listed.getD d.i true=false->ZC P call ops W0 bd σ R W d
 inj:∀d∈pre,∀d'∈pre,listed.getD d.i true=false->listed.getD d'.i true=false->∀x,bd d.i=some x->bd d'.i=some x->d.i=d'.i
def J.advance{pre:List J5}{listed:Array Bool}{bd:Nat->Option Nat}{σ:dz}{R R':ai.Fr}{W W':AW}{a:bw}{w:ar}{i:Nat}{re:List Nat}{kn:List (Nat×List Nat)}{o:am}
 (hJ:J P call ops A nt ng σ0 W0 w0 ds pre listed bd σ R W a w)(hh:am1 ops A pre i re kn o true)(hs:nN P call ops o R W=some (R',W')):
 ∃Zn,J P call ops A nt ng σ0 W0 w0 ds (⟨i,o,true⟩::pre) listed Zn σ R' W' a w:=by
 obtain⟨hk3,aie,OU⟩:=hh.early rfl;have hi:i<ops.size:=(eV.1 hh.op).1;have Vz:listed.getD i true=false:=by
  cases hq:listed.getD i true with
  |false=>rfl
  |true=>obtain⟨d,hd,e⟩:=hJ.sub i hi hq;exact absurd e (hh.new d hd)
 have Sk:W.get W.next=none:=hJ.Fg.free _ (aQ _);have build:∀(Zn:Nat->Option Nat) (u:ad),R'=iU R o.dst u->bI σ W' w.heap->fT σ0 W0 w0 σ W' w->Grow W W'->(∀k,k≠i->Zn k=bd k)->
  ZC P call ops W0 Zn σ R' W' ⟨i,o,true⟩->(∀x,Zn i=some x->W.get x=none)->J P call ops A nt ng σ0 W0 w0 ds (⟨i,o,true⟩::pre) listed Zn σ R' W' a w:=by
  intro Zn u hR' hwr QW hg hbd Xk hbx;have FW:∀d∈pre,∀t∈mT ops d.o,dy R' t=dy R t:=λd hd t ht=>by rw[hR'];exact oS λe=>wA (OU d hd) e ht
  have gH:∀d∈pre,listed.getD d.i true=false->ZC P call ops W0 Zn σ R' W' d:=λd hd hl=>(hJ.qU d hd hl).mono (hbd _ (hh.new d hd)) (FW d hd) hg (λ_ _ _ h=>h)
  have hpx:∀d∈pre,listed.getD d.i true=false->∀x,bd d.i=some x->∃ob,W.get x=some ob:=by
   intro d hd hl x hx;rcases hJ.qU d hd hl with⟨_,h2,_⟩|⟨_,h2,_⟩|⟨_,obj,mk,y,_,_,h4,_,_,h7⟩
   ·rw[h2]at hx;cases hx
   ·rw[h2]at hx;cases hx
   ·rw[h7.1]at hx;injection hx with hx;subst hx;exact⟨obj,h4⟩
  refine⟨hwr,hJ.Ve,QW,hJ.S8,hJ.dfs,hJ.BM,?_,?_,?_,?_,?_,hJ.down,?_,?_,?_⟩
  ·intro t ht CX;have h1:o.dst≠some t:=CX ⟨i,o,true⟩ (by simp) Vz;rw[hR',oS h1];exact hJ.X3 t ht λd hd=>CX d (by simp[hd])
  ·intro k hk hl;obtain⟨d,hd,e⟩:=hJ.sub k hk hl;exact⟨d,by simp[hd],e⟩
  ·intro d hd;rcases eI.1 hd with rfl|hd
   ·exact hh.op
   ·exact hJ.op d hd
  ·intro d hd he;rcases eI.1 hd with rfl|hd
   ·cases he
   ·exact hJ.early d hd he
  ·intro d hd he;rcases eI.1 hd with rfl|hd
   ·exact hk3
   ·exact hJ.kind d hd he
  ·intro d hd d' kg he nP;rcases eI.1 hd with rfl|hd
   ·rcases eI.1 kg with rfl|kg
    ·simp only at nP;rw[aie]at nP;cases nP
    ·rcases hh.held d' kg he with h1|⟨h1,_⟩
     ·exact⟨h1,λe=>hh.new d' kg e.symm⟩
     ·simp only at nP;rw[h1]at nP;cases nP
   ·rcases eI.1 kg with rfl|kg
    ·exfalso;have h1:=OU d hd;obtain⟨t,ht,hm⟩:=W7.1 nP;exact wA h1 ht (zL hm)
    ·exact hJ.Xc d hd d' kg he nP
  ·intro d hd hl;rcases eI.1 hd with rfl|hd
   ·exact Xk
   ·exact gH d hd hl
  ·intro d hd d' kg hl Cw x hx hx';rcases eI.1 hd with rfl|hd
   ·rcases eI.1 kg with rfl|kg
    ·rfl
    ·rw[hbd _ (hh.new d' kg)]at hx';obtain⟨ob,h1⟩:=hpx d' kg Cw x hx';rw[hbx x hx]at h1;cases h1
   ·rcases eI.1 kg with rfl|kg
    ·rw[hbd _ (hh.new d hd)]at hx;obtain⟨ob,h1⟩:=hpx d hd hl x hx;rw[hbx x hx']at h1;cases h1
    ·rw[hbd _ (hh.new d hd)]at hx;rw[hbd _ (hh.new d' kg)]at hx';exact hJ.inj d hd d' kg hl Cw x hx hx'
 have Z1:∀u,(∀t∈o.looksAt ops,dy (iU R o.dst u) t=dy R t):=λu t ht=>oS λe=>wA aie e ht
 unfold nN at hs;split at hs
 ·rename_i hw;split at hs
  ·rename_i v W1 vd;injection hs with hs;injection hs with H3 Cd;subst H3;subst Cd;obtain⟨ha,hwa⟩:=Eh (Z1 v);by_cases hk1:kb o<=1
   ·obtain⟨hW1,hk⟩:=AS hk1 vd;subst hW1;refine⟨λk=>if k=i then none else bd k,build _ v rfl hJ.Fg hJ.ext (.refl _) (λk hk=>by simp[hk]) (.inr (.inl ⟨by rw[hwa];exact hw,by simp,hk1,v,hk _ _ ha (.inr (.refl _)),λt ht=>Av ht⟩)) (λx hx=>by simp at hx)⟩
   ·have Xq:kb o=2:=by omega
    obtain⟨obj,mk,uK,rfl,rfl,hl⟩:=adR Xq vd;have att:W0.get W.next=none:=by
     cases hq:W0.get W.next with
     |none=>rfl
     |some ob=>
      cases hq2:σ0 W.next with
      |none=>rw[(hJ.ext.ghost _ _ hq hq2).1]at Sk;cases Sk
      |some g=>have:=(hJ.Fg.qL _ _ (hJ.ext.sub _ _ hq2)).1;omega
    refine⟨λk=>if k=i then some W.next else bd k,build _ _ rfl (hJ.Fg.ghost obj) (hJ.ext.Ya Sk obj) (.add Sk obj) (λk hk=>by simp[hk])
     (.inr (.inr ⟨by rw[hwa];exact hw,obj,mk,W.next,hl.agree ha,λt ht=>Av ht,AW.aI _ _,att,hJ.Fg.fresh,by simp,uK⟩)) (λx hx=>by simp at hx;subst hx;exact Sk)⟩
  ·cases hs
 ·rename_i hw;injection hs with hs;injection hs with H3 Cd;subst H3;subst Cd;obtain⟨ha,hwa⟩:=Eh (Z1 aj);refine⟨λk=>if k=i then none else bd k,build _ aj rfl hJ.Fg hJ.ext (.refl _) (λk hk=>by simp[hk]) (.inl ⟨by rw[hwa];simpa using hw,by simp,λt ht=>Av ht⟩) (λx hx=>by simp at hx)⟩
end
end
section
variable [ai]
def dM{l:Array Bool}{i:Nat}(h:i<l.size)(d:Bool):(l.setIfInBounds i true).getD i d=true:=by simp[h]
def br{l:Array Bool}{i j:Nat}(h:i≠j)(d:Bool):(l.setIfInBounds i true).getD j d=l.getD j d:=by simp[E1 h]
def Pc{l:Array Bool}{i:Nat}(h:l.getD i false=true):l.getD i true=true/\i<l.size:=by
 by_cases hi:i<l.size
 ·simp[hi]at h|-;exact h
 ·simp[hi]at h
def P6{ops:Array am}{nt:Nat}{ng:List Nat}(mQ:∀(i:Nat) (o:am),ops[i]? =some o->oH nt ng o=true){i:Nat}{o:am}(ho:ops[i]? =some o){t:Tmp}(ht:t∈o.looksAt ops):t<nt:=by
 unfold Oper.looksAt at ht;rcases lH.1 ht with h|h
 ·obtain⟨x,hx,e⟩:=List.mem_filterMap.1 h;have:=mQ i o ho;simp only[oH,bA,db]at this;have h2:=this.1 x hx;cases x with
  |tmp u=>simp only[jd]at e;subst e;simpa[sM,jG]using h2
  |_=>cases e
 ·split at h
  ·rename_i g b hg;cases hq:(ops[g]?).bind (·.dst)with
   |none=>rw[hq]at h;simp at h
   |some u=>
    rw[hq]at h;simp at h;subst h;cases hg:ops[g]? with
    |none=>rw[hg]at hq;cases hq
    |some og=>rw[hg]at hq;simp only[bJ]at hq;have:=mQ g og hg;simp only[oH,hq,bA]at this;simpa[jG]using this.2
  ·simp at h
def xX{ops:Array am}{nt:Nat}{ng:List Nat}{σ:dz}{R:ai.Fr}{a:bw}(hG:BC σ ng){o:am}(mQ:oH nt ng o=true)
 (h:∀t∈o.looksAt ops,VR σ (dy R t) (a.tmps.getD t aj)):∀x∈o.op.operands,VR σ (aF R x) (a.eval x):=by
 intro x hx;simp only[oH,bA,db]at mQ;have hk:=mQ.1 x (by simpa using hx);cases x with
 |tmp t=>exact h t (SH hx)
 |const v=>exact jM hk
 |global g=>obtain⟨e,he⟩:=hG g (x8.1 hk);have:=VR.ptr (σ:=σ) ⟨g,0,none⟩ _ he rfl;simpa[aF,Act.eval]using this
 |func f=>exact .func _ _ _ _ _ _ (.func f) rfl (λi v v' h=>by simp at h) rfl (λi v v' h=>by simp at h)
def adT{o:am}(h:kb o<3):∀c,o.op≠ .defer c:=λc e=>by unfold kb at h;rw[e]at h;simp at h
section
variable {P:ag} {call:Callee} {ops:Array am} {A:List Nat} {nt:Nat} {ng:List Nat} {σ0:dz} {W0:AW} {w0:ar} {ds:List eh}
def J.anc{pre:List J5}{listed:Array Bool}{bd:Nat->Option Nat}{σ:dz}{R:ai.Fr}{W:AW}{a:bw}{w:ar}
 (hJ:J P call ops A nt ng σ0 W0 w0 ds pre listed bd σ R W a w)(hA:∀(i:Nat) (o:am),ops[i]? =some o->A.getD i 0=Ae A o)
 {i:Nat}{o:am}(ho:ops[i]? =some o)(hr:∀e∈o.after,Region.binds .any e=true->listed.getD e.on false=true){j:Nat}(hj:Nat.testBit (A.getD i 0) j=true):
 listed.getD j true=true:=by
 rw[hA i o ho]at hj;obtain⟨e,he,hb,h|h⟩:=aac hj
 ·rw[h];exact(Pc (hr e he hb)).1
 ·have:=Pc (hr e he hb);exact hJ.down e.on j (by rw[<-hJ.BM];exact this.2) this.1 h
def J.mark{pre:List J5}{listed:Array Bool}{bd:Nat->Option Nat}{σ σ':dz}{R:ai.Fr}{W:AW}{a:bw}{w w':ar}
 (hJ:J P call ops A nt ng σ0 W0 w0 ds pre listed bd σ R W a w){d:J5}(hd:d∈pre)(v':ad)(hs:Sub σ σ')(hw:bI σ' W w'.heap)(he:fT σ0 W0 w0 σ' W w')
 (hv:∀t,d.o.dst=some t->VR σ' (dy R t) v')(hx:∀d'∈pre,d'.i≠d.i->listed.getD d'.i true=false->∀x,bd d'.i=some x->σ x=none->(∃o,W.get x=some o)->σ' x=none)
 (N5:∀j,Nat.testBit (A.getD d.i 0) j=true->listed.getD j true=true):
 J P call ops A nt ng σ0 W0 w0 ds pre (listed.setIfInBounds d.i true) bd σ' R W (a.put d.o.dst v') w':=by
 have hi:d.i<listed.size:=by rw[hJ.BM];exact(eV.1 (hJ.op d hd)).1
 have Cb:∀k,listed.getD k true=true->(listed.setIfInBounds d.i true).getD k true=true:=λk hk=>by
  by_cases e:d.i=k
  ·subst e;exact dM hi _
  ·rw[br e];exact hk
 have G5:∀k,(listed.setIfInBounds d.i true).getD k true=false->k≠d.i/\listed.getD k true=false:=λk hk=>by
  by_cases e:d.i=k
  ·subst e;rw[dM hi]at hk;cases hk
  ·rw[br e]at hk;exact⟨bc e,hk⟩
 refine⟨hw,hJ.Ve.mono hs,he,by rw[K2];exact hJ.S8,by rw[tC];exact hJ.dfs,by simp[hJ.BM],?_,?_,hJ.op,?_,hJ.kind,?_,hJ.Xc,?_,?_⟩
 ·intro t ht CX;by_cases hdt:d.o.dst=some t
  ·rw[tP hdt (by rw[hJ.S8];exact ht)];exact hv t hdt
  ·rw[jD hdt];refine(hJ.X3 t ht λd' kg hl=>?_).mono hs;by_cases e:d'.i=d.i
   ·have h1:=hJ.op d' kg;have h2:=hJ.op d hd;rw[e,h2]at h1;injection h1 with h1;rw[<-h1];exact hdt
   ·exact CX d' kg (by rw[br (bc e)];exact hl)
 ·intro k hk hl;by_cases e:d.i=k
  ·exact⟨d,hd,e⟩
  ·rw[br e]at hl;exact hJ.sub k hk hl
 ·intro d' kg h;exact Cb _ (hJ.early d' kg h)
 ·intro k j hk hl hb;by_cases e:d.i=k
  ·subst e;exact Cb _ (N5 j hb)
  ·rw[br e]at hl;exact Cb _ (hJ.down k j hk hl hb)
 ·intro d' kg hl;obtain⟨h1,h2⟩:=G5 _ hl;rcases hJ.qU d' kg h2 with k|k|⟨k1,obj,mk,x,k2,k3,k4,k5,k6,k7⟩
  ·exact .inl k
  ·exact .inr (.inl k)
  ·exact .inr (.inr ⟨k1,obj,mk,x,k2,k3,k4,k5,hx d' kg h1 h2 x k7.1 k6 ⟨_,k4⟩,k7⟩)
 ·intro d1 h1 d2 h2 l1 l2;exact hJ.inj d1 h1 d2 h2 (G5 _ l1).2 (G5 _ l2).2
def J.looks{pre:List J5}{listed:Array Bool}{bd:Nat->Option Nat}{σ:dz}{R:ai.Fr}{W:AW}{a:bw}{w:ar}
 (hJ:J P call ops A nt ng σ0 W0 w0 ds pre listed bd σ R W a w)(mQ:∀(i:Nat) (o:am),ops[i]? =some o->oH nt ng o=true){i:Nat}{o:am}(ho:ops[i]? =some o)
 (hp:∀d∈pre,listed.getD d.i true=false->QR d.o.dst (o.looksAt ops)=false):∀t∈o.looksAt ops,VR σ (dy R t) (a.tmps.getD t aj):=
 λt ht=>hJ.X3 t (P6 mQ ho ht) λd hd hl e=>wA (hp d hd hl) e ht
def J.xz{pre:List J5}{listed:Array Bool}{bd:Nat->Option Nat}{σ:dz}{R:ai.Fr}{W:AW}{a:bw}{w:ar}
 (hJ:J P call ops A nt ng σ0 W0 w0 ds pre listed bd σ R W a w){d:J5}(hd:d∈pre)(hl:listed.getD d.i true=false):d.early=true:=by
 cases he:d.early with
 |true=>rfl
 |false=>rw[hJ.early d hd he]at hl;cases hl
def J.aoy(hc:cl P ng call)(mQ:∀(i:Nat) (o:am),ops[i]? =some o->oH nt ng o=true)(hA:∀(i:Nat) (o:am),ops[i]? =some o->A.getD i 0=Ae A o)
 {pre:List J5}{listed:Array Bool}{bd:Nat->Option Nat}{σ:dz}{R:ai.Fr}{W:AW}{a:bw}{w:ar}
 (hJ:J P call ops A nt ng σ0 W0 w0 ds pre listed bd σ R W a w){d:J5}(hd:d∈pre)(hl:listed.getD d.i true=false)
 (hr:∀e∈d.o.after,Region.binds .any e=true->listed.getD e.on false=true){ro:Option Nat}{K:bw->ar->Prop}{Q:dx->bw->ar->Prop}
 (hK:∀σ' a' w',J P call ops A nt ng σ0 W0 w0 ds pre (listed.setIfInBounds d.i true) bd σ' R W a' w'->K a' w'):wpOpIn (FE ro) 0 P ops Q d.i K a w:=by
 have ho:=hJ.op d hd;have N5:∀j,Nat.testBit (A.getD d.i 0) j=true->listed.getD j true=true:=λj hj=>hJ.anc hA ho hr hj
 have Hb:=hJ.looks mQ ho (λd' kg Cw=>by
  cases hq:QR d'.o.dst (d.o.looksAt ops)with
  |false=>rfl
  |true=>have:=N5 _ (hJ.Xc d hd d' kg (hJ.xz kg Cw) hq).1;rw[Cw]at this;cases this);have hρ:=xX hJ.Ve (mQ _ _ ho) Hb;have hwe:=FM Hb;have hk3:=hJ.kind d hd (hJ.xz hd hl);have GN:=adT hk3;unfold wpOpIn;rw[ho];simp only[hwe];rcases hJ.qU d hd hl with⟨h1,h2,h3⟩|⟨h1,h2,h3,v,h4,h5⟩|⟨h1,obj,mk,x,h2,h3,h4,h5,h6,h7⟩
 ·rw[h1,ap (by simp)];refine⟨λf _=>trivial,hK σ _ w (hJ.mark hd aj (.refl _) hJ.Fg hJ.ext (λt ht=>by rw[h3 t ht];exact .undef) (λ_ _ _ _ _ _ h _=>h) N5)⟩
 ·rw[h1,an rfl];refine NS hc hJ.Fg hJ.Ve h4 hρ λσ' v' w' hv hw he=>?_
  exact hK σ' _ w' (hJ.mark hd v' he.sub hw (hJ.ext.trans he) (λt ht=>by rw[h5 t ht];exact hv) (λd' _ _ _ x _ h6 ⟨ob,hx⟩=>(he.ghost _ _ hx h6).2) N5)
 ·rw[h1,an rfl];obtain⟨v',xo,e,r1,r2,r3⟩:=h2 σ a.eval w x hρ h6;refine⟨λf _=>trivial,?_⟩;rw[Oper.semAt_eq _ _ _ GN,r1];refine hK (cu σ x ⟨w.heap.size,0,e⟩) _ _ (hJ.mark hd v' (dR h6) (hJ.Fg.bind h4 h6 r3) (hJ.ext.bind h6 h5 r3 h7.2) (λt ht=>by rw[h3 t ht];exact r2) ?_ N5);intro d' kg fp Cw y hy hσ _;have:y≠x:=λe=>by subst e;exact fp (hJ.inj d' kg d hd Cw hl y hy h7.1)
  unfold cu;rw[ap this];exact hσ
def J.force(hc:cl P ng call)(mQ:∀(i:Nat) (o:am),ops[i]? =some o->oH nt ng o=true)(hA:∀(i:Nat) (o:am),ops[i]? =some o->A.getD i 0=Ae A o)
 {pre:List J5}{listed:Array Bool}{bd:Nat->Option Nat}{σ:dz}{R R':ai.Fr}{W W':AW}{a:bw}{w:ar}{i:Nat}{re:List Nat}{kn:List (Nat×List Nat)}{o:am}
 (hJ:J P call ops A nt ng σ0 W0 w0 ds pre listed bd σ R W a w)(hh:am1 ops A pre i re kn o false)(hs:nN P call ops o R W=some (R',W'))(Qh:re.all (uP P call ops R' W')=true)
 (hr:∀e∈o.after,Region.binds .any e=true->listed.getD e.on false=true){ro:Option Nat}{K:bw->ar->Prop}{Q:dx->bw->ar->Prop}
 (hK:∀σ' a' w',J P call ops A nt ng σ0 W0 w0 ds (⟨i,o,false⟩::pre) (listed.setIfInBounds i true) bd σ' R' W' a' w'->K a' w'):wpOpIn (FE ro) 0 P ops Q i K a w:=by
 have ho:=hh.op;have hi:i<listed.size:=by rw[hJ.BM];exact(eV.1 ho).1
 have N5:∀j,Nat.testBit (A.getD i 0) j=true->listed.getD j true=true:=λj hj=>hJ.anc hA ho hr hj
 have Xk:∀d∈pre,listed.getD d.i true=false->QR d.o.dst (o.looksAt ops)=false/\QR o.dst (mT ops d.o)=false/\(kb d.o=0\/kb d.o=2\/d.i∈re):=by
  intro d hd hl;rcases hh.held d hd (hJ.xz hd hl)with h1|⟨h1,h2⟩
  ·rw[N5 _ h1]at hl;cases hl
  ·rcases h2 with h2|⟨h2,h3⟩
   ·cases h2
   ·exact⟨h1,h2,h3⟩
 have Hb:=hJ.looks mQ ho (λd hd hl=>(Xk d hd hl).1);have hρ:=xX hJ.Ve (mQ _ _ ho) Hb;have hwe:=FM Hb;have G5:∀k,(listed.setIfInBounds i true).getD k true=false->k≠i/\listed.getD k true=false:=λk hk=>by
  by_cases e:i=k
  ·subst e;rw[dM hi]at hk;cases hk
  ·rw[br e]at hk;exact⟨bc e,hk⟩
 have Cb:∀k,listed.getD k true=true->(listed.setIfInBounds i true).getD k true=true:=λk hk=>by
  by_cases e:i=k
  ·subst e;exact dM hi _
  ·rw[br e];exact hk
 have build:∀(σ':dz) (u u':ad) (w':ar),R'=iU R o.dst u->VR σ' u u'->bI σ' W' w'.heap->fT σ W w σ' W' w'->
  J P call ops A nt ng σ0 W0 w0 ds (⟨i,o,false⟩::pre) (listed.setIfInBounds i true) bd σ' R' W' (a.put o.dst u') w':=by
  intro σ' u u' w' hR' hu hw he;refine⟨hw,hJ.Ve.mono he.sub,hJ.ext.trans he,by rw[K2];exact hJ.S8,by rw[tC];exact hJ.dfs,by simp[hJ.BM],?_,?_,?_,?_,?_,?_,?_,?_,?_⟩
  ·intro t ht CX;by_cases hdt:o.dst=some t
   ·rw[tP hdt (by rw[hJ.S8];exact ht),hR',Av hdt];exact hu
   ·rw[jD hdt,hR',oS hdt];refine(hJ.X3 t ht λd' kg hl=>?_).mono he.sub;exact CX d' (by simp[kg]) (by rw[br (bc (hh.new d' kg))];exact hl)
  ·intro k hk hl;by_cases e:i=k
   ·exact⟨⟨i,o,false⟩,by simp,e⟩
   ·rw[br e]at hl;obtain⟨d,hd,e⟩:=hJ.sub k hk hl;exact⟨d,by simp[hd],e⟩
  ·intro d hd;rcases eI.1 hd with rfl|hd
   ·exact ho
   ·exact hJ.op d hd
  ·intro d hd h;rcases eI.1 hd with rfl|hd
   ·exact dM hi _
   ·exact Cb _ (hJ.early d hd h)
  ·intro d hd h;rcases eI.1 hd with rfl|hd
   ·cases h
   ·exact hJ.kind d hd h
  ·intro k j hk hl hb;by_cases e:i=k
   ·subst e;exact Cb _ (N5 j hb)
   ·rw[br e]at hl;exact Cb _ (hJ.down k j hk hl hb)
  ·intro d hd d' kg hde nP;rcases eI.1 kg with rfl|kg
   ·cases hde
   ·rcases eI.1 hd with rfl|hd
    ·rcases hh.held d' kg hde with h1|⟨h1,_⟩
     ·exact⟨h1,λe=>hh.new d' kg e.symm⟩
     ·simp only at nP;rw[h1]at nP;cases nP
    ·exact hJ.Xc d hd d' kg hde nP
  ·intro d hd hl;rcases eI.1 hd with rfl|hd
   ·rw[dM hi]at hl;cases hl
   ·have Cw:=(G5 _ hl).2;obtain⟨g1,g2,g3⟩:=Xk d hd Cw;have FW:∀t∈mT ops d.o,dy R' t=dy R t:=λt ht=>by rw[hR'];exact oS λe=>wA g2 e ht
    obtain⟨ha,hwd⟩:=Eh (ops:=ops) (o:=d.o) λt ht=>FW t (zL ht)
    rcases hJ.qU d hd Cw with⟨h1,h2,h3⟩|⟨h1,h2,h3,v,h4,h5⟩|⟨h1,obj,mk,x,h2,h3,h4,h5,h6,h7⟩
    ·exact .inl ⟨by rw[hwd];exact h1,h2,λt ht=>by rw[FW t (sK ht)];exact h3 t ht⟩
    ·refine .inr (.inl ⟨by rw[hwd];exact h1,h2,h3,?_⟩);rcases g3 with g3|g3|g3
     ·exact⟨v,(AS h3 h4).2 R' W' ha (.inl g3),λt ht=>by rw[FW t (sK ht)];exact h5 t ht⟩
     ·omega
     ·have Z1:=db.1 Qh d.i g3;unfold uP at Z1;rw[hJ.op d hd]at Z1;simp only[hwd,h1,bi]at Z1;split at Z1
      ·rename_i u W2 vd;have:=(AS h3 vd).1;subst this;refine⟨u,vd,λt ht=>?_⟩;rw[ht]at Z1;exact(ac5 Z1).symm
      ·cases Z1
    ·obtain⟨k1,k2⟩:=he.ghost _ _ h4 h6;exact .inr (.inr ⟨by rw[hwd];exact h1,obj,mk,x,h2.agree ha,λt ht=>by rw[FW t (sK ht)];exact h3 t ht,k1,h5,k2,h7⟩)
  ·intro d1 h1 d2 h2 l1 l2 x hx1 hx2;rcases eI.1 h1 with rfl|h1
   ·rw[dM hi]at l1;cases l1
   ·rcases eI.1 h2 with rfl|h2
    ·rw[dM hi]at l2;cases l2
    ·exact hJ.inj d1 h1 d2 h2 (G5 _ l1).2 (G5 _ l2).2 x hx1 hx2
 unfold wpOpIn;rw[ho];simp only[hwe];unfold nN at hs;split at hs
 ·rename_i hw;rw[an hw];split at hs
  ·rename_i v W1 vd;injection hs with hs;injection hs with H3 Cd;subst H3;subst Cd;exact NS hc hJ.Fg hJ.Ve vd hρ λσ' v' w' hv hw' he=>hK σ' _ w' (build σ' v v' w' rfl hv hw' he)
  ·cases hs
 ·rename_i hw;rw[ap hw];injection hs with hs;injection hs with H3 Cd;subst H3;subst Cd;exact⟨λf _=>trivial,hK σ _ w (build σ aj aj w rfl .undef hJ.Fg (.refl _ _ _))⟩
end
end
section
variable [ai]
def unl(n:Nat)(l:Array Bool):Nat:=(List.range n).countP λi=> !l.getD i true
def MI{α:Type}{p q:α->Bool}{x:α}:∀{l:List α},x∈l->p x=true->q x=false->(∀y,q y=true->p y=true)->l.countP q<l.countP p:=by
 intro l;induction l with
 |nil=>intro h;cases h
 |cons y l ih=>
  intro h hp hq hi;have aM:l.countP q<=l.countP p:=List.countP_mono_left λz _ hz=>hi z hz
  rcases eI.1 h with rfl|h
  ·rw[List.countP_cons,List.countP_cons,hp,hq];simp;omega
  ·have:=ih h hp hq hi;rw[List.countP_cons,List.countP_cons];cases hqy:q y with
   |true=>rw[hi y hqy];simp;omega
   |false=>cases p y<;>simp<;>omega
def Iv{n i:Nat}{l:Array Bool}(hi:i<n)(hs:i<l.size)(h:l.getD i true=false):unl n (l.setIfInBounds i true)<unl n l:=by
 refine MI (x:=i) (by simpa using hi) (by rw[h];rfl) (by rw[dM hs];rfl) λy hy=>?_
 by_cases e:i=y
 ·subst e;rw[dM hs]at hy;cases hy
 ·rw[br e]at hy;exact hy
def QP{n:Nat}{l:Array Bool}(h:unl n l=0){i:Nat}(hi:i<n):l.getD i true=true:=by unfold unl at h;rw[List.countP_eq_zero]at h;have:=h i (by simpa using hi);simpa using this
section
variable {P:ag} {call:Callee} {ops:Array am} {A:List Nat} {nt:Nat} {ng:List Nat} {σ0:dz} {W0:AW} {w0:ar} {ds:List eh}
inductive Hh (ops:Array am):List J5->Prop where
 |nil:Hh ops []
 |cons (d:J5) (pre:List J5) (h:Hh ops pre) (ht:∀e∈d.o.after,Region.binds .any e=true->∃d'∈pre,d'.i=e.on) (ho:ops[d.i]? =some d.o):Hh ops (d::pre)
def Hh.ready{listed:Array Bool}(vZ:listed.size=ops.size):∀{pre:List J5},Hh ops pre->(∃d∈pre,listed.getD d.i true=false)->Region.ready .any ops listed≠[]:=by
 intro pre h;induction h with
 |nil=>rintro⟨d,hd,_⟩;cases hd
 |cons d pre h ht ho ih=>
  rintro⟨d',kg,hl⟩ hr;by_cases IC:∃d∈pre,listed.getD d.i true=false
  ·exact ih IC hr
  ·rcases eI.1 kg with rfl|kg
   ·have:d'.i∈Region.ready .any ops listed:=sm.2 ⟨hl,d'.o,ho,λe he hb=>by
     obtain⟨d2,h2,e2⟩:=ht e he hb;have CK:listed.getD d2.i true=true:=by
      cases hq:listed.getD d2.i true with
      |true=>rfl
      |false=>exact absurd ⟨d2,h2,hq⟩ IC
     have hir:d2.i<ops.size:=by
      have:∀{pre},Hh ops pre->∀d∈pre,d.i<ops.size:=by
       intro pre h;induction h with
       |nil=>intro d hd;cases hd
       |cons d pre h ht ho ih=>
        intro d' kg;rcases eI.1 kg with rfl|kg
        ·exact(eV.1 ho).1
        ·exact ih d' kg
      exact this h d2 h2
     rw[<-e2];simp only[zw]at CK|-;rw[jK (by omega)]at CK|-;exact CK⟩;rw[hr]at this;cases this
   ·exact IC ⟨d',kg,hl⟩
def aaT(hc:cl P ng call)(mQ:∀(i:Nat) (o:am),ops[i]? =some o->oH nt ng o=true)(hA:∀(i:Nat) (o:am),ops[i]? =some o->A.getD i 0=Ae A o)
 {ro:Option Nat}{Q:dx->bw->ar->Prop}{Rf:ai.Fr}{Wf:AW}
 (hQ:∀σ' a' w',fz nt σ' Rf a'.tmps->a'.defers=ds->bI σ' Wf w'.heap->fT σ0 W0 w0 σ' Wf w'->Q .normal a' w'):
 ∀(Ex:Nat) (suf:List (Nat×List Nat)) (pre:List J5) (listed:Array Bool) (bd:Nat->Option Nat) (σ:dz) (R:ai.Fr) (W:AW) (a:bw) (w:ar),
  J P call ops A nt ng σ0 W0 w0 ds pre listed bd σ R W a w->Hh ops pre->FG ops A pre suf=true->mO P call ops suf R W=some (Rf,Wf)->
  (∀i,i<ops.size->(∃d∈pre,d.i=i)\/∃k∈suf,k.1=i)->unl ops.size listed<=Ex->wpAnyIn (FE ro) 0 P .any ops Q Ex listed a w:=by
 intro Ex;induction Ex with
 |zero=>
  intro suf pre listed bd σ R W a w hJ ol hgo qk N2 hun;have yC:∀i,i<ops.size->listed.getD i true=true:=λi hi=>QP (by omega) hi
  have alk:Region.ready .any ops listed=[]:=by rw[List.eq_nil_iff_forall_not_mem];intro i hi;obtain⟨h1,o,ho,_⟩:=sm.1 hi;rw[yC i (eV.1 ho).1]at h1;cases h1
  refine⟨alk,?_⟩;cases suf with
  |nil=>injection qk with qk;injection qk with h1 h2;subst h1;subst h2;refine hQ σ a w ⟨hJ.S8,λt ht=>hJ.X3 t ht λd hd hl=>?_⟩ hJ.dfs hJ.Fg hJ.ext;rw[yC d.i (eV.1 (hJ.op d hd)).1]at hl;cases hl
  |cons k kn=>obtain⟨i,re⟩:=k;obtain⟨o,e,hh⟩:=Hg hgo;have hi:=(eV.1 hh.op).1;obtain⟨d,hd,e⟩:=hJ.sub i hi (yC i hi);exact absurd e (hh.new d hd)
 |succ Ex ih=>
  intro suf;induction suf with
  |nil=>
   intro pre listed bd σ R W a w hJ ol hgo qk N2 hun;refine⟨λhr=>?_,λi hi=>?_⟩
   ·have CX:∀d∈pre,listed.getD d.i true=true:=λd hd=>by
     cases hq:listed.getD d.i true with
     |true=>rfl
     |false=>exact absurd hr (ol.ready hJ.BM ⟨d,hd,hq⟩)
    injection qk with qk;injection qk with h1 h2;subst h1;subst h2;exact hQ σ a w ⟨hJ.S8,λt ht=>hJ.X3 t ht λd hd hl=>by rw[CX d hd]at hl;cases hl⟩ hJ.dfs hJ.Fg hJ.ext
   ·obtain⟨h1,o,ho,h2⟩:=sm.1 hi;have lA:=(eV.1 ho).1;rcases N2 i lA with⟨d,hd,e⟩|⟨k,hk,_⟩
    ·subst e;have Wx:=hJ.op d hd;rw[ho]at Wx;injection Wx with Wx;subst Wx;refine hJ.aoy hc mQ hA hd h1 h2 λσ' a' w' hJ'=>?_
     exact ih [] pre _ bd σ' R W a' w' hJ' ol hgo qk N2 (by have:=Iv lA (by rw[hJ.BM];exact lA) h1;omega)
    ·cases hk
  |cons k kn ihs=>
   intro pre listed bd σ R W a w hJ ol hgo qk N2 hun;obtain⟨i,re⟩:=k;obtain⟨o,e,hh⟩:=Hg hgo;have hi:=(eV.1 hh.op).1;simp only[mO,hh.op]at qk;split at qk;case h_2=>cases qk
   rename_i R' W' hs;split at qk;case isFalse=>cases qk
   rename_i Qh;have ajf:∀j,j<ops.size->(∃d∈(⟨i,o,e⟩::pre:List J5),d.i=j)\/∃k∈kn,k.1=j:=by
    intro j hj;rcases N2 j hj with⟨d,hd,h1⟩|⟨k,hk,h1⟩
    ·exact .inl ⟨d,by simp[hd],h1⟩
    ·rcases eI.1 hk with rfl|hk
     ·exact .inl ⟨⟨i,o,e⟩,by simp,h1⟩
     ·exact .inr ⟨k,hk,h1⟩
   have aim:Hh ops (⟨i,o,e⟩::pre):=.cons _ _ ol hh.top hh.op;cases e with
   |true=>obtain⟨Zn,hJ'⟩:=hJ.advance hh hs;exact ihs _ listed Zn σ R' W' a w hJ' aim hh.go qk ajf hun
   |false=>
    refine⟨λhr=>?_,λj hj=>?_⟩
    ·exfalso;by_cases IC:∃d∈pre,listed.getD d.i true=false
     ·exact ol.ready hJ.BM IC hr
     ·have hl:listed.getD i true=false:=by
       cases hq:listed.getD i true with
       |false=>rfl
       |true=>obtain⟨d,hd,e⟩:=hJ.sub i hi hq;exact absurd e (hh.new d hd)
      have:i∈Region.ready .any ops listed:=sm.2 ⟨hl,o,hh.op,λed he hb=>by
       obtain⟨d2,h2,e2⟩:=hh.top ed he hb;have CK:listed.getD d2.i true=true:=by
        cases hq:listed.getD d2.i true with
        |true=>rfl
        |false=>exact absurd ⟨d2,h2,hq⟩ IC
       have hir:d2.i<listed.size:=by rw[hJ.BM];exact(eV.1 (hJ.op d2 h2)).1
       rw[<-e2];simp only[zw]at CK|-;rw[jK hir]at CK|-;exact CK⟩;rw[hr]at this;cases this
    ·obtain⟨h1,oj,ho,h2⟩:=sm.1 hj;have lA:=(eV.1 ho).1;rcases N2 j lA with⟨d,hd,e⟩|⟨k,hk,e⟩
     ·subst e;have Wx:=hJ.op d hd;rw[ho]at Wx;injection Wx with Wx;subst Wx;refine hJ.aoy hc mQ hA hd h1 h2 λσ' a' w' hJ'=>?_
      refine ih ((i,re)::kn) pre _ bd σ' R W a' w' hJ' ol hgo ?_ N2 (by have:=Iv lA (by rw[hJ.BM];exact lA) h1;omega);simp only[mO,hh.op,hs,Qh,bi];exact qk
     ·rcases eI.1 hk with rfl|hk
      ·simp only at e;subst e;have Wx:=hh.op;rw[ho]at Wx;injection Wx with Wx;subst Wx;refine hJ.force hc mQ hA hh hs Qh h2 λσ' a' w' hJ'=>?_
       exact ih kn _ _ bd σ' R' W' a' w' hJ' aim hh.go qk ajf (by have:=Iv lA (by rw[hJ.BM];exact lA) h1;omega)
      ·exfalso;rcases hh.last with h|h
       ·cases h
       ·obtain⟨ok,SG,ed,hed,hb,CX⟩:=h k hk;rw[e,ho]at SG;injection SG with SG;subst SG;have h3:=Pc (h2 ed hed hb);obtain⟨d,hd,e⟩:=hJ.sub ed.on (by rw[<-hJ.BM];exact h3.2) h3.1;exact CX d hd e
def Qy{P:ag}(hm:P.follows .mixedOrders=true){ng:List Nat}{nt:Nat}{call:Callee}(hc:cl P ng call){id:Nat}{ops:Array am}{pl:List (Nat×List Nat)}
 (mQ:ops.toList.all (oH nt ng)=true)(hp:NJ ops pl=true){σ:dz}{R Rf:ai.Fr}{W Wf:AW}{a:bw}{w:ar}(hW:bI σ W w.heap)(hG:BC σ ng)(hR:fz nt σ R a.tmps)
 (h:mO P call ops pl R W=some (Rf,Wf)){ro:Option Nat}{Q:dx->bw->ar->Prop}
 (hQ:∀σ' a' w',fz nt σ' Rf a'.tmps->a'.defers=a.defers->bI σ' Wf w'.heap->fT σ W w σ' Wf w'->Q .normal a' w'):
 (Code.region id ops true).wpIn (FE ro) 0 P Q a w:=by
 refine wpIn_region_any hm ?_;unfold NJ at hp;simp only[bA,db,pX]at hp;obtain⟨h1,h2⟩:=hp;have sI:∀i o,ops[i]? =some o->(abn ops.toList []).getD i 0=Ae (abn ops.toList []) o/\∃k∈pl,k.1=i:=by intro i o ho;have:=h1 i (eV.1 ho).1;rw[ho]at this;simp only[bA,fq,xk]at this;exact this.1
 have SG:∀(i:Nat) (o:am),ops[i]? =some o->oH nt ng o=true:=λi o ho=>db.1 mQ o (by have:=Array.mem_of_getElem? ho;simpa using this)
 have vZ:∀i,i<ops.size->(Array.replicate ops.size false).getD i true=false:=λi hi=>by simp[hi]
 have N2:∀i,i<ops.size->(∃d∈([]:List J5),d.i=i)\/∃k∈pl,k.1=i:=λi hi=> .inr (sI i ops[i] (jK hi)).2
 refine aaT (A:=abn ops.toList []) (W0:=W) (σ0:=σ) (w0:=w) (ds:=a.defers) hc SG (λi o ho=>(sI i o ho).1) hQ ops.size pl [] _ (λ_=>none) σ R W a _ ?_ .nil h2 h N2 ?_
 ·refine⟨hW,hG,.drawn _ _ _ _,hR.1,rfl,by simp,λt ht _=>hR.2 t ht,?_,?_,?_,?_,?_,?_,?_,?_⟩
  ·intro i hi hl;rw[vZ i hi]at hl;cases hl
  ·intro d hd;cases hd
  ·intro d hd;cases hd
  ·intro d hd;cases hd
  ·intro i j hi hl;rw[vZ i hi]at hl;cases hl
  ·intro d hd;cases hd
  ·intro d hd;cases hd
  ·intro d hd;cases hd
 ·unfold unl;have:=List.countP_le_length (p:=λi=> !(Array.replicate ops.size false).getD i true) (l:=List.range ops.size);simpa using this
end
end
end Go.Eng
