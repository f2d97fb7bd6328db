/- A part: the engine and its laws. -/
import Derived.RangeFuncLeaves
import Derived.OrdersIn
import Derived.KernelRfl
import Derived.Laws.Cells
import Derived.Laws.CopyRow
import Derived.ChangeKeysEq
import Derived.ArgAppend
import Derived.Laws.Append
import Derived.Lib.AppendStr
import Derived.Lib.UnsafeStr
import Derived.Laws.BytesArg
import Derived.LaidEqlPtr
import Derived.Laws.StructEq
set_option linter.unusedVariables false
set_option linter.unusedSectionVars false
set_option linter.defProp false
noncomputable section
open Go renaming Act->bw,Addr->bg,Code->bV,Deferred->eA,Exit->dr,FuncId->jD,IntKind->be,MapEntry->bE,Obj->rU,Oper->am,Operand->au,Program->ah,TypeId->ag,Value->ad,World->ar,undef->ak
namespace Go
def cd{p:Prop}[Decidable p](h:p:=by omega):decide p=true:=decide_eq_true h
def bS{p:Prop}[Decidable p](h:¬p:=by omega):decide p=false:=decide_eq_false h
def kH.{u}{c:Prop}{h:Decidable c}(q:c:=by omega){α:Sort u}{t e:α}:(ite c t e)=t:=if_pos q
def bL.{u}{c:Prop}{h:Decidable c}(q:¬c:=by omega){α:Sort u}{t e:α}:(ite c t e)=e:=if_neg q
abbrev Value.ae(n:Int):ad:=.int .i64 n
abbrev Lit.ae(n:Int):Lit:=.int .i64 n
def aJ:=@decide_eq_false
def aC:=@And.intro
def aK:=@decide_eq_true
def aj:=@trivial
def aI:=@Nat.zero_add
def aq.{u}:=@if_neg.{u}
def bJ.{u}:=@List.getElem?_eq_getElem.{u}
def an.{u}:=@if_pos.{u}
def aR:=@Nat.le_refl
def bM.{u,v}:=@Option.bind_some.{u,v}
def bA:=@Bool.and_eq_true
def da.{u}:=@List.getElem?_eq_some_iff.{u}
def cD.{u}:=@List.length_append.{u}
def aT.{u}:=@Eq.trans.{u}
def eS.{u}:=@Array.getElem?_eq_some_iff.{u}
def cK:=@Go.Result.andThen_ok
def cg:=@Go.run_underlying
def cG.{u}:=@List.getElem_mem.{u}
def cP.{u}:=@List.length_cons.{u}
def cO.{u}:=@List.take_length.{u}
def cR.{u}:=@List.length_take.{u}
def iY.{u}:=@List.take_succ_eq_append_getElem.{u}
def dd.{u}:=@List.all_eq_true.{u}
def bh.{u}:=@Ne.symm.{u}
def bi.{u}:=@if_true.{u}
def dq.{u,v}:=@Option.map_some.{u,v}
def fb:=@Nat.lt_of_lt_of_le
def cQ:=@Go.Sem.run_bind
def jN.{u}:=@Array.getElem?_eq_getElem.{u}
def dz.{u}:=@List.all_cons.{u}
def fN.{u,v}:=@List.flatMap_cons.{u,v}
def fj.{u,v}:=@List.length_map.{u,v}
def fp.{u}:=@List.append_nil.{u}
def gY:=@Bool.false_eq_true
def kn.{u}:=@List.getElem?_eq_none.{u}
def jO.{u}:=@Array.toArray_toList.{u}
def b9.{u}:=@if_false.{u}
def jo.{u,v}:=@List.flatMap_append.{u,v}
def mi.{u}:=@List.length_eq_zero_iff.{u}
def pi.{u}:=@List.getD_eq_getElem?_getD.{u}
def eU.{u}:=@List.mem_cons.{u}
def dW:=@Nat.le_trans
def iK.{u}:=@List.append_assoc.{u}
def iA:=@decide_eq_true_eq
def mh.{u}:=@List.length_replicate.{u}
def iW.{u}:=@Option.some.injEq.{u}
def eQ:=@Nat.add_zero
def fM:=@Bool.and_self
def mo:=@Nat.mul_le_mul_right
def ki.{u}:=@List.mem_singleton.{u}
def ou.{u}:=@List.take_of_length_le.{u}
def ri.{u}:=@List.drop_eq_getElem_cons.{u}
def gK:=@Bool.true_and
def sU.{u}:=@List.getElem?_append_right.{u}
def jG.{u}:=@List.nil_append.{u}
def lY.{u}:=@List.getElem?_take.{u}
def ly.{u,v}:=@List.getElem?_map.{u,v}
def gV:=@Nat.add_assoc
def jB.{u}:=@List.drop_zero.{u}
def pm:=@Go.Lib.strCells_length
def fo:=@Nat.beq_eq
def mr.{u}:=@List.length_drop.{u}
def ij:=@Go.Sem.run_pure
def zq.{u}:=@List.eq_nil_of_length_eq_zero.{u}
def oi.{u}:=@List.ext_getElem?.{u}
def pb.{u}:=@List.cons_append.{u}
def vt.{u}:=@Array.toList_eq_nil_iff.{u}
def eV.{u}:=@cond_true.{u}
def mj.{u}:=@List.mem_append.{u}
def AB.{u}:=@Array.getD_eq_getD_getElem?.{u}
def oL.{u}:=@Option.getD_some.{u}
def qZ.{u}:=@List.getElem?_drop.{u}
def pj:=@Bool.false_and
def gp.{u}:=@cond_false.{u}
def iI:=@Nat.mul_one
def pd:=@Bool.or_eq_true
def ii.{u,v}:=@congrArg.{u,v}
def mc.{u,v}:=@List.map_cons.{u,v}
def F1.{u}:=@Array.getElem?_setIfInBounds_ne.{u}
def jE:=@Nat.add_mul
def wX.{u}:=@List.take_append_drop.{u}
def oz:=@Bool.and_true
def kv:=@Nat.one_mul
def AG.{u}:=@Array.getElem?_eq_none.{u}
def vg.{u}:=@Option.isSome_none.{u}
def mB.{u,v}:=@List.mem_map.{u,v}
def vl:=@Bool.true_eq_false
def vz.{u}:=@List.filter_append.{u}
def y6.{u}:=@List.getElem?_set_self.{u}
def pL:=@List.mem_range
def qX.{u,v}:=@List.map_append.{u,v}
def qW:=@List.range_succ
def x8.{u}:=@Array.getElem?_push.{u}
def Ai.{u}:=@Array.getElem?_modify.{u}
def vq:=@Int.toNat_natCast
def FI.{u}:=@List.getElem?_cons_zero.{u}
def za.{u}:=@List.mem_of_getElem?.{u}
def tj.{u}:=@List.take_zero.{u}
def Ah.{u}:=@List.getElem?_set_ne.{u}
def tF.{u}:=@List.mem_filter.{u}
def p8.{u}:=@List.length_nil.{u}
def oN:=@Nat.min_eq_left
def qk.{u}:=@Array.toList_inj.{u}
def wR.{u}:=@List.drop_of_length_le.{u}
def Br.{u}:=@List.mem_take_iff_getElem.{u}
def uU.{u}:=@List.replicate_succ.{u}
def xR.{u}:=@Array.getElem?_toList.{u}
def xO.{u}:=@Classical.choose_spec.{u}
def xB.{u}:=@List.length_filter_le.{u}
def Bw.{u}:=@List.take_append_getElem.{u}
def xi.{u}:=@List.getElem?_append.{u}
def Ef.{u}:=@List.getElem?_cons_succ.{u}
def uk.{u}:=@List.getElem?_set.{u}
def xr.{u}:=@List.size_toArray.{u}
def jH:=@Nat.blt_eq
def uW:=@Bool.not_eq_true'
def mY.{u,v}:=@List.map_nil.{u,v}
def uY:=@Bool.eq_false_iff
def Ew.{u}:=@Option.isNone_iff_eq_none.{u}
def A5:=@Nat.eq_of_beq_eq_true
def AK.{u}:=@List.getElem_set_self.{u}
def pf:=@Go.CallsIn.mono
def Dh.{u}:=@List.eraseIdx_cons_succ.{u}
def IH.{u}:=@Array.getElem?_setIfInBounds.{u}
def uI.{u,v}:=@List.foldl_cons.{u,v}
def um:=@Bool.eq_iff_iff
def BF.{u}:=@List.length_pos_iff.{u}
def By.{u}:=@List.getElem_of_mem.{u}
def qf:=@Nat.lt_or_ge
def Ez.{u}:=@List.filter_eq_nil_iff.{u}
def xA.{u}:=@List.any_eq_true.{u}
def A7.{u}:=@Option.isSome_some.{u}
def Dj.{u}:=@Array.getElem?_append.{u}
def EW.{u}:=@List.length_singleton.{u}
def OK.{u}:=@List.set_eq_take_append_cons_drop.{u}
def IN.{u}:=@List.getElem?_append_left.{u}
def Iw.{u}:=@List.mem_drop_iff_getElem.{u}
def xU.{u}:=@List.length_set.{u}
def wV:=@Nat.le_max_left
def p9:=@Nat.mul_pos
def Bq.{u}:=@Array.isEmpty_iff.{u}
def qg:=@Nat.zero_le
def kE:=@and_self
def Bt.{u}:=@List.nodup_append.{u}
def Bn.{u,v}:=@List.foldl_append.{u,v}
def DT.{u}:=@List.mem_of_mem_take.{u}
def EK:=@Go.World.grownBy_alloc
def Ds.{u}:=@List.getElem_set_ne.{u}
def Bv:=@Nat.le_max_right
def xj.{u}:=@List.take_left.{u}
def xW.{u}:=@List.drop_left.{u}
def xF.{u}:=@List.drop_drop.{u}
def IZ:=@Nat.add_sub_cancel_left
def Ba.{u,v}:=@List.flatMap_nil.{u,v}
def rQ:=@Int.le_refl
def uV:=@Nat.zero_mul
def wU.{u}:=@List.all_nil.{u}
def uC:=@Nat.beq_refl
def uj:=@Go.callsIn_wide
def ui:=@Int.add_zero
def AO.{u}:=@Option.some.inj.{u}
def xl.{u,v}:=@List.map_take.{u,v}
def DS:=@of_decide_eq_true
def Ei:=@List.length_range
def Oq.{u}:=@Array.toList_setIfInBounds.{u}
def Pn:=@Int.fdiv_eq_ediv_of_nonneg
def xH:=@Nat.sub_zero
def Eu.{u}:=@List.drop_length.{u}
def P0.{u}:=@List.extract_eq_take_drop.{u}
def PY.{u}:=@List.mem_of_find?_eq_some.{u}
def Ol.{u}:=@List.take_succ_cons.{u}
def IT.{u}:=@List.toList_toArray.{u}
def IQ.{u}:=@List.dropWhile_cons.{u}
def I1.{u}:=@List.findIdx_append.{u}
def I6.{u}:=@List.mergeSort_perm.{u}
def IG:=@Go.run_loadCells_list
def Iu:=@Go.grownCap_le_maxLen
def uw.{u}:=@beq_iff_eq.{u}
def PP.{u}:=@List.set_cons_zero.{u}
def ON.{u}:=@List.set_cons_succ.{u}
def IX.{u}:=@List.prefix_append.{u}
def wY:=@Go.setRow_heap
def rO:=@Go.mem_ready
def IU:=@Go.run_storeCells_at
def Bb:=@Nat.sub_self
def AN:=@Bool.true_or
def Ec:=@Bool.and_false
def IM.{u}:=@List.any_eq_false.{u}
def Iz:=@Decidable.not_not
def DL.{u,v}:=@Prod.mk.injEq.{u,v}
def ph.{u}:=@dif_pos.{u}
def uO:=@true_and
end Go
namespace Go.Eng
open Go
inductive T (α:Type) where
 |lf:T α
 |nd (l:T α) (v:Option α) (r:T α):T α
def Hr(EI:Nat):Nat->List Bool:=
 Nat.rec (motive:=λ_=>Nat->List Bool) (λ_=>[])
  (λ_ ih n=>Nat.rec (motive:=λ_=>List Bool) [] (λm _=>(Nat.beq (Nat.mod m 2) 0)::ih (Nat.div m 2)) n) EI
def path(n:Nat):List Bool:=Hr n n
def T.get{α:Type}(p:List Bool):T α->Option α:=
 List.rec (motive:=λ_=>T α->Option α) (λt=>T.rec (motive:=λ_=>Option α) none (λ_ v _ _ _=>v) t)
  (λb _ ih t=>T.rec (motive:=λ_=>Option α) none (λl _ r _ _=>Bool.rec (motive:=λ_=>Option α) (ih r) (ih l) b) t) p
def T.set{α:Type}(x:Option α)(p:List Bool):T α->T α:=
 List.rec (motive:=λ_=>T α->T α) (λt=>T.rec (motive:=λ_=>T α) (.nd .lf x .lf) (λl _ r _ _=>.nd l x r) t)
  (λb _ ih t=>T.rec (motive:=λ_=>T α) (Bool.rec (motive:=λ_=>T α) (.nd .lf none (ih .lf)) (.nd (ih .lf) none .lf) b)
    (λl v r _ _=>Bool.rec (motive:=λ_=>T α) (.nd l v (ih r)) (.nd (ih l) v r) b) t) p
def Ze:∀(f g n m:Nat),n<=f->m<=g->Hr f n=Hr g m->n=m:=by
 intro f;induction f with
 |zero=>
  intro g n m hn hm h;have Ws:n=0:=by omega
  subst Ws;cases m with
  |zero=>rfl
  |succ m=>
   cases g with
   |zero=>omega
   |succ g=>exact absurd h (by simp[Hr])
 |succ f ih=>
  intro g n m hn hm h;cases n with
  |zero=>
   cases m with
   |zero=>rfl
   |succ m=>
    cases g with
    |zero=>omega
    |succ g=>exact absurd h (by simp[Hr])
  |succ n=>
   cases m with
   |zero=>cases g<;>exact absurd h (by simp[Hr])
   |succ m=>
    cases g with
    |zero=>omega
    |succ g=>
     have h':(Nat.beq (Nat.mod n 2) 0)::Hr f (Nat.div n 2)=(Nat.beq (Nat.mod m 2) 0)::Hr g (Nat.div m 2):=h;injection h' with h1 h2;have e1:Nat.div n 2=n/2:=rfl;have e2:Nat.div m 2=m/2:=rfl;have e3:Nat.mod n 2=n % 2:=rfl;have e4:Nat.mod m 2=m % 2:=rfl;have h3:=ih g (n/2) (m/2) (by omega) (by omega) (by rw[<-e1,<-e2];exact h2);rw[e3,e4]at h1;have h4:(n % 2=0)<->(m % 2=0):=by rw[<-fo,<-fo,h1]
     omega
def aeq{n m:Nat}(h:path n=path m):n=m:=Ze _ _ _ _ (aR _) (aR _) h
def AL{n m:Nat}(h:n≠m):path n≠path m:=λe=>h (aeq e)
def T.oQ{α:Type}(x:Option α):∀(p:List Bool) (t:T α),T.get p (T.set x p t)=x:=by
 intro p;induction p with
 |nil=>intro t;cases t<;>rfl
 |cons b p ih=>intro t;cases t<;>cases b<;>exact ih _
def T.E3{α:Type}(p:List Bool):T.get p (.lf:T α)=none:=by cases p<;>rfl
def T.iE{α:Type}(x:Option α):∀(p q:List Bool) (t:T α),p≠q->T.get q (T.set x p t)=T.get q t:=by
 intro p;induction p with
 |nil=>
  intro q t h;cases q with
  |nil=>exact absurd rfl h
  |cons b q=>cases t<;>cases b<;>first|rfl|exact(T.E3 q)
 |cons b p ih=>
  intro q t h;cases q with
  |nil=>cases t<;>cases b<;>rfl
  |cons c q=>
   have ht:b=c->p≠q:=λe1 e2=>h (by rw[e1,e2])
   cases t<;>cases b<;>cases c<;>
    first
     |rfl
     |exact T.E3 q
     |exact(ih q .lf (ht rfl)).trans (T.E3 q)
     |exact ih q _ (ht rfl)
def T.set_set{α:Type}(x y:Option α):∀(p:List Bool) (t:T α),T.set y p (T.set x p t)=T.set y p t:=by
 intro p;induction p with
 |nil=>intro t;cases t<;>rfl
 |cons b p ih=>
  intro t;cases t with
  |lf=>
   cases b
   ·exact ii (T.nd .lf none) (ih .lf)
   ·exact ii (λl=>T.nd l none .lf) (ih .lf)
  |nd l v r=>
   cases b
   ·exact ii (T.nd l v) (ih r)
   ·exact ii (λl=>T.nd l v r) (ih l)
class ai where
 D:Nat->Array am->Option (List (Nat×List Nat))
 ng:List Nat
 ex:ag->Bool
 Fr:Type
 KM:Fr->Nat->ad
 acT:Fr->Nat->ad->Fr
 blank:Fr
 oQ:∀R t v,KM (acT R t v) t=v
 iE:∀R t u v,t≠u->KM (acT R t v) u=KM R u
 Gs:∀t,KM blank t=ak
def ahA{α:Type}(l:List α):Nat->Option α:=
 List.rec (motive:=λ_=>Nat->Option α) (λ_=>none) (λv _ ih n=>Nat.rec (motive:=λ_=>Option α) (some v) (λm _=>ih m) n) l
def O1{α:Type}(l:List α):∀n,ahA l n=l[n]? :=by
 induction l with
 |nil=>intro n;rfl
 |cons v l ih=>intro n;cases n with|zero=>rfl|succ n=>exact(ih n).trans (by simp)
section
variable [ai]
inductive dH where
 |cells (cs:List ad)
 |ro (cs:List ad)
 |map (es:List bE) (nP:Nat)
 |loop (state:LoopState) (pending:Option bV) (tmps:ai.Fr) (ntmps:Nat) (params:Array Tmp) (assign body:bV)
 |qJ (s:ByteArray) (pos:Nat)
 |tc (t:ag) (cs:List ad)
structure AW where
 heap:T dH
 next:Nat
def AW.get(W:AW)(b:Nat):Option dH:=T.get (path b) W.heap
def AW.put(W:AW)(b:Nat)(o:dH):AW:=⟨T.set (some o) (path b) W.heap,W.next⟩
def AW.kill(W:AW)(b:Nat):AW:=⟨T.set none (path b) W.heap,W.next⟩
def AW.new{X:Type}(W:AW)(o:dH)(k:Nat->AW->X):X:=
 AW.rec (motive:=λ_=>X) (λh n=>Nat.rec (motive:=λ_=>X) (k 0 ⟨T.set (some o) (path 0) h,1⟩)
  (λm _=>k (Nat.succ m) ⟨T.set (some o) (path (Nat.succ m)) h,Nat.succ (Nat.succ m)⟩) n) W
def AW.add(W:AW)(o:dH):AW:=⟨T.set (some o) (path W.next) W.heap,W.next+1⟩
def AW.dU{X:Type}(W:AW)(o:dH)(k:Nat->AW->X):W.new o k=k W.next (W.add o):=by obtain⟨h,n⟩:=W;cases n<;>rfl
def AW.aW(W:AW)(b:Nat)(o:dH):(W.put b o).get b=some o:=T.oQ _ _ _
def AW.ay(W:AW){b c:Nat}(o:dH)(h:b≠c):(W.put b o).get c=W.get c:=T.iE _ _ _ _ (AL h)
def AW.DM(W:AW)(b:Nat):(W.kill b).get b=none:=T.oQ _ _ _
def AW.dm(W:AW){b c:Nat}(h:b≠c):(W.kill b).get c=W.get c:=T.iE _ _ _ _ (AL h)
def AW.aL(W:AW)(o:dH):(W.add o).get W.next=some o:=T.oQ _ _ _
def AW.aG(W:AW){c:Nat}(o:dH)(h:W.next≠c):(W.add o).get c=W.get c:=T.iE _ _ _ _ (AL h)
def AW.bH(W:AW)(b:Nat)(o:dH):(W.put b o).next=W.next:=rfl
def AW.eK(W:AW)(b:Nat):(W.kill b).next=W.next:=rfl
def AW.av(W:AW)(o:dH):(W.add o).next=W.next+1:=rfl
end
structure At where
 B:Nat
 s:Nat
 e:Nat
abbrev dx:=Nat->Option At
def eJ:Nat:=18446744073709551616
inductive Mf (g:At) (off l:Nat):Nat->Nat->Prop where
 |known (c:Nat) (h:c<eJ):Mf g off l c c
 |open_ (z c':Nat) (hz:0<z) (hl:l<=c') (h:g.s+off+c'*z=g.e) (hb:c'<=maxLen):Mf g off l (eJ+z) c'
inductive FnR (σ:dx):Fn->Fn->Prop where
 |func (f:jD):FnR σ (.func f) (.func f)
 |yield (l:Nat) (g:At) (h:σ l=some g):FnR σ (.yield l) (.yield g.B)
inductive VR (σ:dx):ad->ad->Prop where
 |bool (b:Bool):VR σ (.bool b) (.bool b)
 |int (k:be) (n:Int):VR σ (.int k n) (.int k n)
 |float (k:FloatKind) (n:Nat):VR σ (.float k n) (.float k n)
 |string (s:ByteArray):VR σ (.string s) (.string s)
 |Qj:VR σ (.pointer none) (.pointer none)
 |ptr (a:bg) (g:At) (h:σ a.block=some g) (hs:a.spot=none):VR σ (.pointer (some a)) (.pointer (some ⟨g.B,g.s+a.off,none⟩))
 |J5 (l c:Nat):VR σ (.slice none l c) (.slice none l c)
 |slice (a:bg) (l c c':Nat) (g:At) (h:σ a.block=some g) (hs:a.spot=none) (hc:Mf g a.off l c c'):
   VR σ (.slice (some a) l c) (.slice (some ⟨g.B,g.s+a.off,none⟩) l c')
 |dO (a a':bg) (c:Nat) (g:At) (h:σ a.block=some g) (hc:c=0\/eJ<c):VR σ (.slice (some a) 0 c) (.slice (some a') 0 0)
 |UV:VR σ (.map none) (.map none)
 |map (r:Nat) (g:At) (h:σ r=some g):VR σ (.map (some r)) (.map (some g.B))
 |nilFunc:VR σ .nilFunc .nilFunc
 |func (fn LO:Fn) (fs yj cs cU:Array ad) (hf:FnR σ fn LO) (h1:fs.size=yj.size) (h2:∀(i:Nat) (v v':ad),fs[i]? =some v->yj[i]? =some v'->VR σ v v')
   (h3:cs.size=cU.size) (h4:∀(i:Nat) (v v':ad),cs[i]? =some v->cU[i]? =some v'->VR σ v v'):VR σ (.func fn fs cs) (.func LO yj cU)
 |nilIface:VR σ .nilIface .nilIface
 |iface (t:ag) (v v':ad) (h:VR σ v v'):VR σ (.iface t v) (.iface t v')
 |agg (cs cU:Array ad) (h1:cs.size=cU.size) (h2:∀(i:Nat) (v v':ad),cs[i]? =some v->cU[i]? =some v'->VR σ v v'):VR σ (.agg cs) (.agg cU)
 |tuple (cs cU:Array ad) (h1:cs.size=cU.size) (h2:∀(i:Nat) (v v':ad),cs[i]? =some v->cU[i]? =some v'->VR σ v v'):VR σ (.tuple cs) (.tuple cU)
def Sub(σ σ':dx):Prop:=∀b g,σ b=some g->σ' b=some g
def Sub.refl(σ:dx):Sub σ σ:=λ_ _ h=>h
def Sub.trans{σ σ' Og:dx}(h:Sub σ σ')(k:Sub σ' Og):Sub σ Og:=λb g x=>k b g (h b g x)
def FnR.mono{σ σ':dx}(hs:Sub σ σ'){f f':Fn}(h:FnR σ f f'):FnR σ' f f':=by
 cases h with
 |func f=>exact .func f
 |yield l g h=>exact .yield l g (hs _ _ h)
def VR.mono{σ σ':dx}(hs:Sub σ σ'){v v':ad}(h:VR σ v v'):VR σ' v v':=by
 induction h with
 |bool b=>exact .bool b
 |int k n=>exact .int k n
 |float k n=>exact .float k n
 |string s=>exact .string s
 |Qj=>exact .Qj
 |ptr a g h wN=>exact .ptr a g (hs _ _ h) wN
 |J5 l c=>exact .J5 l c
 |slice a l c c' g h wN hc=>exact .slice a l c c' g (hs _ _ h) wN hc
 |dO a a' c g h hc=>exact .dO a a' c g (hs _ _ h) hc
 |UV=>exact .UV
 |map r g h=>exact .map r g (hs _ _ h)
 |nilFunc=>exact .nilFunc
 |func fn LO fs yj cs cU hf h1 _ h3 _ ih1 ih2=>exact .func fn LO fs yj cs cU (hf.mono hs) h1 ih1 h3 ih2
 |nilIface=>exact .nilIface
 |iface t v v' _ ih=>exact .iface t v v' ih
 |agg cs cU h1 _ ih=>exact .agg cs cU h1 ih
 |tuple cs cU h1 _ ih=>exact .tuple cs cU h1 ih
def LR(σ:dx)(l l':List ad):Prop:=l.length=l'.length/\∀(i:Nat) (v v':ad),l[i]? =some v->l'[i]? =some v'->VR σ v v'
def LR.mono{σ σ':dx}(hs:Sub σ σ'){l l':List ad}(h:LR σ l l'):LR σ' l l':=⟨h.1,λi v v' a b=>(h.2 i v v' a b).mono hs⟩
def LR.nil{σ:dx}:LR σ [] []:=⟨rfl,λi v v' a=>by simp at a⟩
def LR.cons{σ:dx}{v v':ad}{l l':List ad}(h:VR σ v v')(hl:LR σ l l'):LR σ (v::l) (v'::l'):=by
 refine⟨by simp[hl.1],λi u u' a b=>?_⟩;cases i with
 |zero=>simp at a b;subst a;subst b;exact h
 |succ i=>simp at a b;exact hl.2 i u u' a b
def LR.of_cons{σ:dx}{v:ad}{l m:List ad}(h:LR σ (v::l) m):∃v' l',m=v'::l'/\VR σ v v'/\LR σ l l':=by
 cases m with
 |nil=>have:=h.1;simp at this
 |cons v' l'=>refine⟨v',l',rfl,h.2 0 v v' (by simp) (by simp),by have:=h.1;simpa using this,λi u u' a b=>h.2 (i+1) u u' (by simpa using a) (by simpa using b)⟩
def LR.of_nil{σ:dx}{m:List ad}(h:LR σ [] m):m=[]:=by have:=h.1;simp at this;exact zq this.symm
def LR.append{σ:dx}{l l' m m':List ad}(h:LR σ l l')(k:LR σ m m'):LR σ (l++m) (l'++m'):=by
 induction l generalizing l' with
 |nil=>have:=h.of_nil;subst this;exact k
 |cons v l ih=>obtain⟨v',l'',rfl,hv,hl⟩:=h.of_cons;exact(ih hl).cons hv
def LR.take{σ:dx}{l l':List ad}(h:LR σ l l')(n:Nat):LR σ (l.take n) (l'.take n):=by
 refine⟨by simp[h.1],λi v v' a b=>?_⟩;rw[lY]at a b;split at a
 ·rename_i hi;rw[an hi]at b;exact h.2 i v v' a b
 ·cases a
def LR.drop{σ:dx}{l l':List ad}(h:LR σ l l')(n:Nat):LR σ (l.drop n) (l'.drop n):=by refine⟨by simp[h.1],λi v v' a b=>?_⟩;rw[qZ]at a b;exact h.2 _ v v' a b
def LR.get{σ:dx}{l l':List ad}(h:LR σ l l'){i:Nat}{v:ad}(hv:l[i]? =some v):∃v',l'[i]? =some v'/\VR σ v v':=by
 have hi:i<l.length:=(da.1 hv).1;have sf:i<l'.length:=by rw[<-h.1];exact hi
 exact⟨l'[i],bJ sf,h.2 i v _ hv (bJ sf)⟩
def LR.set{σ:dx}{l l':List ad}(h:LR σ l l')(n:Nat){x x':ad}(hx:VR σ x x'):LR σ (l.set n x) (l'.set n x'):=by
 refine⟨by simp[h.1],λi v v' a b=>?_⟩;rw[uk]at a b;by_cases hn:n=i
 ·subst hn;simp only[bi]at a b;split at a
  ·split at b
   ·simp at a b;subst a;subst b;exact hx
   ·cases b
  ·cases a
 ·rw[aq hn]at a b;exact h.2 i v v' a b
def LR.CI{σ:dx}{a a':Array ad}(h1:a.size=a'.size)(h2:∀(i:Nat) (v v':ad),a[i]? =some v->a'[i]? =some v'->VR σ v v'):LR σ a.toList a'.toList:=
 ⟨by simpa using h1,λi v v' x y=>h2 i v v' (by simpa using x) (by simpa using y)⟩
def LR.arr{σ:dx}{a a':Array ad}(h:LR σ a.toList a'.toList):a.size=a'.size/\∀(i:Nat) (v v':ad),a[i]? =some v->a'[i]? =some v'->VR σ v v':=
 ⟨by simpa using h.1,λi v v' x y=>h.2 i v v' (by simpa using x) (by simpa using y)⟩
def VR.Ub{σ:dx}{a a':Array ad}(h:LR σ a.toList a'.toList):VR σ (.agg a) (.agg a'):=.agg _ _ h.arr.1 h.arr.2
def VR.tuple'{σ:dx}{a a':Array ad}(h:LR σ a.toList a'.toList):VR σ (.tuple a) (.tuple a'):=.tuple _ _ h.arr.1 h.arr.2
def VR.cells{σ:dx}{v v':ad}(h:VR σ v v'):LR σ v.cells.toList v'.cells.toList:=by
 cases h with
 |agg cs cU h1 h2=>exact .CI h1 h2
 |bool b=>exact .cons (.bool b) .nil
 |int k n=>exact .cons (.int k n) .nil
 |float k n=>exact .cons (.float k n) .nil
 |string s=>exact .cons (.string s) .nil
 |Qj=>exact .cons .Qj .nil
 |ptr a g h hs=>exact .cons (.ptr a g h hs) .nil
 |J5 l c=>exact .cons (.J5 l c) .nil
 |slice a l c c' g h hs hc=>exact .cons (.slice a l c c' g h hs hc) .nil
 |dO a a' c g h hc=>exact .cons (.dO a a' c g h hc) .nil
 |UV=>exact .cons .UV .nil
 |map r g h=>exact .cons (.map r g h) .nil
 |nilFunc=>exact .cons .nilFunc .nil
 |func fn LO fs yj cs cU hf h1 h2 h3 h4=>exact .cons (.func fn LO fs yj cs cU hf h1 h2 h3 h4) .nil
 |nilIface=>exact .cons .nilIface .nil
 |iface t v v' h=>exact .cons (.iface t v v' h) .nil
 |tuple cs cU h1 h2=>exact .cons (.tuple cs cU h1 h2) .nil
def VR.undef{σ:dx}:VR σ ak ak:=VR.tuple' (a:=#[]) (a':=#[]) .nil
def cC:ad->Bool
 |.bool _|.int .. |.string _|.pointer none|.slice none _ _|.map none|.nilFunc|.nilIface|.float .. =>true
 |_=>false
def eI:ad->Bool
 |.agg cs=>cs.toList.all cC
 |v=>cC v
def bN:ad->Bool
 |.tuple vs=>vs.toList.all eI
 |.iface _ v=>eI v
 |v=>eI v
def NC{σ:dx}{v v':ad}(hp:cC v=true)(h:VR σ v v'):v'=v:=by cases h<;>first|rfl|simp[cC]at hp
def fK{σ:dx}{v:ad}(hp:cC v=true):VR σ v v:=by
 cases v with
 |bool b=>exact .bool b
 |int k n=>exact .int k n
 |float k n=>exact .float k n
 |string s=>exact .string s
 |pointer a=>cases a with|none=>exact .Qj|some a=>simp[cC]at hp
 |slice a l c=>cases a with|none=>exact .J5 l c|some a=>simp[cC]at hp
 |map r=>cases r with|none=>exact .UV|some a=>simp[cC]at hp
 |nilFunc=>exact .nilFunc
 |nilIface=>exact .nilIface
 |_=>simp[cC]at hp
def LR.adU{σ:dx}{p:ad->Bool}(hp:∀v v',p v=true->VR σ v v'->v'=v):∀{l l':List ad},l.all p=true->LR σ l l'->l'=l:=by
 intro l;induction l with
 |nil=>intro l' _ h;exact h.of_nil
 |cons v l ih=>intro l' ha h;obtain⟨v',l'',rfl,hv,hl⟩:=h.of_cons;simp only[dz,bA]at ha;rw[hp v v' ha.1 hv,ih ha.2 hl]
def LR.qh{σ:dx}{p:ad->Bool}(hp:∀v,p v=true->VR σ v v):∀{l:List ad},l.all p=true->LR σ l l:=by
 intro l;induction l with
 |nil=>intro _;exact .nil
 |cons v l ih=>intro ha;simp only[dz,bA]at ha;exact(ih ha.2).cons (hp v ha.1)
def FJ{σ:dx}{v v':ad}(hp:eI v=true)(h:VR σ v v'):v'=v:=by
 cases h with
 |agg cs cU h1 h2=>have:=LR.adU (λv v'=>NC) (show cs.toList.all cC=true from hp) (LR.CI h1 h2);rw[qk.1 this]
 |_=>first|rfl|simp[eI,cC]at hp
def AI{σ:dx}{v:ad}(hp:eI v=true):VR σ v v:=by
 cases v with
 |agg cs=>exact VR.Ub (LR.qh (λv=>fK) (show cs.toList.all cC=true from hp))
 |_=>exact fK hp
def gH{σ:dx}{v v':ad}(hp:bN v=true)(h:VR σ v v'):v'=v:=by
 cases h with
 |tuple cs cU h1 h2=>have:=LR.adU (λv v'=>FJ) (show cs.toList.all eI=true from hp) (LR.CI h1 h2);rw[qk.1 this]
 |iface t v v' h=>rw[FJ hp h]
 |agg cs cU h1 h2=>exact FJ (v:=.agg cs) hp (.agg cs cU h1 h2)
 |_=>first|rfl|simp[bN,eI,cC]at hp
def jJ{σ:dx}{v:ad}(hp:bN v=true):VR σ v v:=by
 cases v with
 |tuple cs=>exact VR.tuple' (LR.qh (λv=>AI) (show cs.toList.all eI=true from hp))
 |iface t v=>exact .iface t v v (AI hp)
 |_=>exact AI hp
def P8(i:Nat):List Nat->Bool
 |[]=>false
 |x::l=>Nat.beq x i||P8 i l
def xy{i:Nat}{l:List Nat}:P8 i l=true<->i∈l:=by
 induction l with
 |nil=>simp[P8]
 |cons x l ih=>simp only[P8,pd,fo,ih,eU];exact⟨λh=>h.imp Eq.symm id,λh=>h.imp Eq.symm id⟩
def sA(nt:Nat)(ng:List Nat):au->Bool
 |.tmp t=>Nat.blt t nt
 |.const v=>bN v
 |.global g=>P8 g ng
 |.func _=>true
def BM(σ:dx)(ng:List Nat):Prop:=∀g,g∈ng->∃e,σ g=some ⟨g,0,e⟩
def BM.mono{σ σ':dx}{ng:List Nat}(hs:Sub σ σ')(h:BM σ ng):BM σ' ng:=λg hg=>let⟨e,he⟩:=h g hg;⟨e,hs _ _ he⟩
def oK(nt:Nat)(ng:List Nat)(o:am):Bool:=o.op.operands.toList.all (sA nt ng)&&(match o.dst with|some d=>Nat.blt d nt|none=>true)
def jW(o:am):Nat:=
 match o.op with
 |.move _|.assign _|.pick .. |.build .. |.nilCheck _|.unOp .. |.makeInterface .. |.slice .. |.fieldAddr .. |.field .. |.indexAddr .. |.index .. |.extract .. |.typeAssert .. =>0
 |.makeFunc (.func _) _ _=>0
 |.binOp op _ _ _ _=>match op with|.eql|.neq=>1|_=>0
 |.load .. |.lookup .. |.convert .. =>1
 |.call c=>match c.callee with|.builtin .len=>1|_=>3
 |.alloc _|.box .. |.buildSlice .. |.makeSlice .. =>2
 |_=>3
def abh(o:Option am):Nat:=match o with
 |some o=>(match o.dst with|some d=>d|none=>0)
 |none=>0
def PC(id:Nat)(ops:Array am):Nat:=(id*128+ops.size)*4096+(abh ops[0]? +3*abh ops[ops.size-1]? +7*abh ops[ops.size/2]?)
def AA(A:List Nat)(o:am):Nat:=o.after.toList.foldr (λe m=>if Region.binds .any e then Nat.lor (Nat.lor (2^ e.on) (A.getD e.on 0)) m else m) 0
def aam:List am->List Nat->List Nat
 |[],A=>A
 |o::os,A=>aam os (A++[AA A o])
def Ro(d:Option Tmp)(l:List Tmp):Bool:=match d with|some d=>P8 d l|none=>false
def mU(ops:Array am)(o:am):List Tmp:=o.dst.toList++o.looksAt ops
structure JG where
 i:Nat
 o:am
 early:Bool
def Gz(ops:Array am)(A:List Nat):List JG->List (Nat×List Nat)->Bool
 |_,[]=>true
 |pre,(i,re)::ks=>
  match ops[i]? with
  |none=>false
  |some o=>
   let e:=Nat.blt (jW o) 3&& !Ro o.dst (o.looksAt ops)&&pre.all λd=> !Ro o.dst (mU ops d.o)
   pre.all (λd=> !Nat.beq d.i i)&&
   o.after.toList.all (λe=> !Region.binds .any e||pre.any λd=>Nat.beq d.i e.on)&&
   pre.all (λd=> !d.early||(Nat.testBit (A.getD i 0) d.i||(!Ro d.o.dst (o.looksAt ops)&&(e||(!Ro o.dst (mU ops d.o)&&(Nat.beq (jW d.o) 0||Nat.beq (jW d.o) 2||P8 d.i re))))))&&
   (e||ks.all λk=>match ops[k.1]? with
     |some ok=>ok.after.toList.any λe=>Region.binds .any e&&pre.all λd=> !Nat.beq d.i e.on
     |none=>false)&&
   Gz ops A (⟨i,o,e⟩::pre) ks
def adk(ops:Array am):Option (List (Nat×List Nat))->List (Nat×List Nat)
 |some pl=>pl
 |none=>(List.range ops.size).map λi=>(i,[])
def Ox(ops:Array am)(pl:List (Nat×List Nat)):Bool:=
 let A:=aam ops.toList []
 (List.range ops.size).all (λi=>match ops[i]? with
  |some o=>Nat.beq (A.getD i 0) (AA A o)&&pl.any (λx=>Nat.beq x.1 i)&&(match o.op with|.select .. =>false|_=>true)
  |none=>false)&&
 Gz ops A [] pl
def kh[ai](nt:Nat)(ng:List Nat):bV->Bool
 |.region id ops Gh=>ops.toList.all (oK nt ng)&&(!Gh||Ox ops (adk ops (ai.D id ops)))
 |.seq a b=>kh nt ng a&&kh nt ng b
 |.cond c a b=>sA nt ng c&&kh nt ng a&&kh nt ng b
 |.block _ b=>kh nt ng b
 |.loop b=>kh nt ng b
 |.scope b=>kh nt ng b
 |.rangeFunc f ps aB4 bd=>sA nt ng f&&ps.toList.all (λt=>Nat.blt t nt)&&kh nt ng aB4&&kh nt ng bd
 |_=>true
def Q9[ai](σ:dx)(nt:Nat)(c:bV):Prop:=BM σ ai.ng/\kh nt ai.ng c=true
def Q9.mono[ai]{σ σ':dx}{nt:Nat}{c:bV}(hs:Sub σ σ')(h:Q9 σ nt c):Q9 σ' nt c:=⟨h.1.mono hs,h.2⟩
section
variable [ai]
def du(R:ai.Fr)(t:Nat):ad:=ai.KM R t
def SM(R:ai.Fr)(t:Nat)(v:ad):ai.Fr:=ai.acT R t v
def iJ(R:ai.Fr)(d:Option Tmp)(v:ad):ai.Fr:=match d with|some t=>SM R t v|none=>R
def Bf(R:ai.Fr)(t:Nat)(v:ad):du (SM R t v) t=v:=ai.oQ R t v
def xp(R:ai.Fr){t u:Nat}(v:ad)(h:t≠u):du (SM R t v) u=du R u:=ai.iE R t u v h
def fy(nt:Nat)(σ:dx)(R:ai.Fr)(tmps:Array ad):Prop:=tmps.size=nt/\∀t,t<nt->VR σ (du R t) (tmps.getD t ak)
def fy.mono{nt:Nat}{σ σ':dx}(hs:Sub σ σ'){R:ai.Fr}{tmps:Array ad}(h:fy nt σ R tmps):fy nt σ' R tmps:=
 ⟨h.1,λt ht=>(h.2 t ht).mono hs⟩
def fy.set{nt:Nat}{σ:dx}{R:ai.Fr}{tmps:Array ad}(h:fy nt σ R tmps)(d:Nat){v v':ad}(hv:VR σ v v'):
 fy nt σ (SM R d v) (tmps.setIfInBounds d v'):=by
 refine⟨by simp[h.1],λt ht=>?_⟩;by_cases hd:d=t
 ·subst hd;rw[Bf];have:d<tmps.size:=by rw[h.1];exact ht
  simpa[IH,this]using hv
 ·rw[xp _ _ hd];have:=h.2 t ht;simpa[F1 hd]using this
def fy.put{nt:Nat}{σ:dx}{R:ai.Fr}{a:bw}(h:fy nt σ R a.tmps)(d:Option Tmp){v v':ad}(hv:VR σ v v'):
 fy nt σ (iJ R d v) (a.put d v').tmps:=by
 cases d with
 |none=>exact h
 |some d=>exact h.set d hv
@[simp] theorem tO (a:bw) (d:Option Tmp) (v:ad):(a.put d v).defers=a.defers:=by cases d<;>rfl
def ER(σ:dx)(es iM:List bE):Prop:=
 es.length=iM.length/\∀(i:Nat) (e e':bE),es[i]? =some e->iM[i]? =some e'->VR σ e.key e'.key/\VR σ e.val e'.val/\e.born=e'.born
def ER.mono{σ σ':dx}(hs:Sub σ σ'){es iM:List bE}(h:ER σ es iM):ER σ' es iM:=
 ⟨h.1,λi e e' a b=>let⟨x,y,z⟩:=h.2 i e e' a b;⟨x.mono hs,y.mono hs,z⟩⟩
def pw(σ:dx)(h:Array rU)(g:At):dH->Prop
 |.cells cs=>∃c t fr,h[g.B]? =some (.cells c t fr)/\(g.s<g.e->fr=(0,0))/\g.s+cs.length<=g.e/\g.e<=c.size/\
  ∀(i:Nat) (v:ad),cs[i]? =some v->∃v',c[g.s+i]? =some v'/\VR σ v v'
 |.ro cs=>∃c t fr,h[g.B]? =some (.cells c t fr)/\g.s+cs.length<=g.e/\
  ∀(i:Nat) (v:ad),cs[i]? =some v->∃v',c[g.s+i]? =some v'/\VR σ v v'
 |.map es nP=>g.s=0/\g.e=1/\∃iM:Array bE,h[g.B]? =some (.map iM nP)/\ER σ es iM.toList
 |.loop st qL R nt ps aB4 bd=>g.s=0/\g.e=1/\∃r:Loop,h[g.B]? =some (.loop r)/\r.state=st/\r.pending=qL/\fy nt σ R r.tmps/\r.params=ps/\r.assign=aB4/\r.body=bd/\Q9 σ nt aB4/\Q9 σ nt bd/\ps.toList.all (λt=>Nat.blt t nt)=true
 |.qJ s pos=>g.s=0/\g.e=1/\h[g.B]? =some (.stringIter s pos)
 |.tc t cs=>g.s=0/\0<g.e/\(g.e<=maxLen/\(ai.ex t=true->cs.length=g.e))/\∃c,h[g.B]? =some (.cells c t (0,0))/\cs.length<=g.e/\g.e=c.size/\
  ∀(i:Nat) (v:ad),cs[i]? =some v->∃v',c[i]? =some v'/\VR σ v v'
def pw.mono{σ σ':dx}(hs:Sub σ σ'){h:Array rU}{g:At}{o:dH}(k:pw σ h g o):pw σ' h g o:=by
 cases o with
 |cells cs=>obtain⟨c,t,fr,h1,h0,h2,h3,h4⟩:=k;exact⟨c,t,fr,h1,h0,h2,h3,λi v hv=>let⟨v',a,b⟩:=h4 i v hv;⟨v',a,b.mono hs⟩⟩
 |ro cs=>obtain⟨c,t,fr,h1,h2,h4⟩:=k;exact⟨c,t,fr,h1,h2,λi v hv=>let⟨v',a,b⟩:=h4 i v hv;⟨v',a,b.mono hs⟩⟩
 |map es nP=>obtain⟨a,b,iM,h1,h2⟩:=k;exact⟨a,b,iM,h1,h2.mono hs⟩
 |loop st qL R nt ps aB4 bd=>obtain⟨a,b,r,h1,h2,h3,h4,h5,h6,h7,h8,h9,Jv⟩:=k;exact⟨a,b,r,h1,h2,h3,h4.mono hs,h5,h6,h7,h8.mono hs,h9.mono hs,Jv⟩
 |qJ s pos=>exact k
 |tc t cs=>obtain⟨a1,a2,a3,c,h1,h2,h3,h4⟩:=k;exact⟨a1,a2,a3,c,h1,h2,h3,λi v hv=>let⟨v',a,b⟩:=h4 i v hv;⟨v',a,b.mono hs⟩⟩
def pw.same{σ:dx}{h h':Array rU}{g:At}{o:dH}(k:pw σ h g o)(e:h'[g.B]? =h[g.B]?):pw σ h' g o:=by
 cases o with
 |cells cs=>obtain⟨c,t,fr,h1,h2⟩:=k;exact⟨c,t,fr,e.trans h1,h2⟩
 |ro cs=>obtain⟨c,t,fr,h1,h2⟩:=k;exact⟨c,t,fr,e.trans h1,h2⟩
 |map es nP=>obtain⟨a,b,iM,h1,h2⟩:=k;exact⟨a,b,iM,e.trans h1,h2⟩
 |loop st qL R nt ps aB4 bd=>obtain⟨a,b,r,h1,h2⟩:=k;exact⟨a,b,r,e.trans h1,h2⟩
 |qJ s pos=>obtain⟨a,b,h1⟩:=k;exact⟨a,b,e.trans h1⟩
 |tc t cs=>obtain⟨a1,a2,a3,c,h1,h2⟩:=k;exact⟨a1,a2,a3,c,e.trans h1,h2⟩
def rw_:dH->Bool
 |.ro _=>false
 |_=>true
def NE{o:dH}(h:∀cs,o≠ .ro cs):rw_ o=true:=by cases o<;>first|rfl|exact absurd rfl (h _)
def rwL{o o2:dH}(h:∀cs,o≠ .ro cs):(rw_ o||rw_ o2)=true:=by rw[NE h];rfl
def rwR{o o2:dH}(h:∀cs,o≠ .ro cs):(rw_ o2||rw_ o)=true:=by rw[NE h];simp
structure bI (σ:dx) (W:AW) (h:Array rU):Prop where
 free:∀b,W.next<=b->W.get b=none
 qP:∀b g,σ b=some g->b<W.next/\g.B<h.size
 obj:∀b o g,W.get b=some o->σ b=some g->pw σ h g o
 vN:∀b1 b2 o1 o2 g1 g2,b1≠b2->W.get b1=some o1->W.get b2=some o2->σ b1=some g1->σ b2=some g2->(rw_ o1||rw_ o2)=true->g1.B≠g2.B\/g1.e<=g2.s\/g2.e<=g1.s
def Mut(σ:dx)(W:AW)(B:Nat):Prop:=∃b g,σ b=some g/\g.B=B/\∀cs,W.get b≠some (.ro cs)
def SQ{w w':ar}{a:bg}(h:w'.heap[a.block]? =w.heap[a.block]?):w'.frozen? a=w.frozen? a:=by unfold World.frozen?;rw[h]
def pw.aoT{σ:dx}{w:ar}{g:At}{o:dH}(k:pw σ w.heap g o)(uN:∀cs,o≠ .ro cs)(fe:g.s<g.e){a:bg}(ha:a.block=g.B):w.frozen? a=false:=by
 unfold World.frozen?;rw[ha];cases o with
 |cells cs=>obtain⟨c,t,fr,h1,h0,_⟩:=k;rw[h1,h0 fe];simp
 |ro cs=>exact absurd rfl (uN cs)
 |map es nP=>obtain⟨_,_,iM,h1,_⟩:=k;rw[h1]
 |loop st qL R nt ps aB4 bd=>obtain⟨_,_,r,h1,_⟩:=k;rw[h1]
 |qJ s pos=>obtain⟨_,_,h1⟩:=k;rw[h1]
 |tc t cs=>obtain⟨_,_,_,c,h1,_⟩:=k;rw[h1];simp
structure fR (σ:dx) (W:AW) (w:ar) (σ':dx) (W':AW) (w':ar):Prop where
 sub:Sub σ σ'
 ro:∀b cs,W.get b=some (.ro cs)->W'.get b=some (.ro cs)
 size:w.heap.size<=w'.heap.size
 os:w'.os=w.os
 tape:w'.tape=w.tape
 output:w'.output=w.output
 keep:∀B,B<w.heap.size->¬Mut σ W B->w'.heap[B]? =w.heap[B]?
 ghost:∀b o,W.get b=some o->σ b=none->W'.get b=some o/\σ' b=none
 grow:∀b g,σ' b=some g->g.B<w.heap.size->σ b=some g\/Mut σ W g.B
def fR.XG{σ σ':dx}{W W':AW}{w w':ar}(h:fR σ W w σ' W' w'):∀B,B<w.heap.size->Mut σ' W' B->Mut σ W B:=by
 rintro B hB ⟨b,g,hg,rfl,uN⟩;rcases h.grow b g hg hB with h1|h1
 ·exact⟨b,g,h1,rfl,λcs hc=>uN cs (h.ro b cs hc)⟩
 ·exact h1
def fR.refl(σ:dx)(W:AW)(w:ar):fR σ W w σ W w:=⟨.refl _,λ_ _ h=>h,aR _,rfl,rfl,rfl,λ_ _ _=>rfl,λ_ _ h k=>⟨h,k⟩,λ_ _ h _=>.inl h⟩
def fR.trans{σ σ' Og:dx}{W W' W'':AW}{w w' w'':ar}(h:fR σ W w σ' W' w')(k:fR σ' W' w' Og W'' w''):fR σ W w Og W'' w'':=
 ⟨h.sub.trans k.sub,λb cs x=>k.ro b cs (h.ro b cs x),dW h.size k.size,k.os.trans h.os,k.tape.trans h.tape,k.output.trans h.output,
  λB hB hm=>(k.keep B (fb hB h.size) (λm=>hm (h.XG B hB m))).trans (h.keep B hB hm),
  λb o h1 h2=>let⟨a1,a2⟩:=h.ghost b o h1 h2;k.ghost b o a1 a2,
  λb g hg hB=>by
   rcases k.grow b g hg (fb hB h.size)with h1|h1
   ·exact h.grow b g h1 hB
   ·exact .inr (h.XG _ hB h1)⟩
def fR.drawn(σ:dx)(W:AW)(w:ar)(n:Nat):fR σ W w σ W {w with drawn:=n}:=⟨.refl _,λ_ _ h=>h,aR _,rfl,rfl,rfl,λ_ _ _=>rfl,λ_ _ h k=>⟨h,k⟩,λ_ _ h _=>.inl h⟩
section
variable {σ:dx} {W:AW} {w w':ar}
def bI.XG(h:bI σ W w.heap){b:Nat}{o o':dH}{g:At}(hb:W.get b=some o)(uN:∀cs,o≠ .ro cs)(QR:∀cs,o'≠ .ro cs)(hg:σ b=some g)
 (vS:w'.heap.size=w.heap.size)(hos:w'.os=w.os)(htp:w'.tape=w.tape)(E6:w'.output=w.output)
 (mA:∀B,B≠g.B->w'.heap[B]? =w.heap[B]?)
 (BW:pw σ w'.heap g o')
 (wj:∀b2 o2 g2,b2≠b->W.get b2=some o2->σ b2=some g2->g2.B=g.B->(g.e<=g2.s\/g2.e<=g.s)->pw σ w.heap g2 o2->pw σ w'.heap g2 o2):
 bI σ (W.put b o') w'.heap/\fR σ W w σ (W.put b o') w':=by
 have fe:∀{c:Nat},c≠b->(W.put b o').get c=W.get c:=λhc=>W.ay _ (bh hc)
 refine⟨⟨?_,?_,?_,?_⟩,⟨.refl _,?_,?_,hos,htp,E6,?_,?_,?_⟩⟩
 ·intro c hc;have hbn:=(h.qP b g hg).1;have yT:W.next<=c:=hc;rw[fe (by omega)];exact h.free c yT
 ·intro c k hk;have:=h.qP c k hk;exact⟨this.1,by rw[vS];exact this.2⟩
 ·intro c o2 g2 hc hk;by_cases LH:c=b
  ·subst LH;rw[AW.aW]at hc;injection hc with hc;subst hc;rw[hg]at hk;injection hk with hk;subst hk;exact BW
  ·rw[fe LH]at hc;by_cases hB:g2.B=g.B
   ·refine wj c o2 g2 LH hc hk hB ?_ (h.obj c o2 g2 hc hk);rcases h.vN c b o2 o g2 g LH hc hb hk hg (rwR uN)with h1|h1|h1
    ·exact absurd hB h1
    ·exact .inr h1
    ·exact .inl h1
   ·exact(h.obj c o2 g2 hc hk).same (mA _ hB)
 ·intro b1 b2 o1 o2 g1 g2 aud h1 h2 k1 k2 hr;have e1:∃o1',W.get b1=some o1'/\rw_ o1'=rw_ o1:=by
   by_cases hx:b1=b
   ·subst hx;rw[AW.aW]at h1;injection h1 with h1;subst h1;exact⟨o,hb,by rw[NE uN,NE QR]⟩
   ·rw[fe hx]at h1;exact⟨o1,h1,rfl⟩
  have e2:∃o2',W.get b2=some o2'/\rw_ o2'=rw_ o2:=by
   by_cases hx:b2=b
   ·subst hx;rw[AW.aW]at h2;injection h2 with h2;subst h2;exact⟨o,hb,by rw[NE uN,NE QR]⟩
   ·rw[fe hx]at h2;exact⟨o2,h2,rfl⟩
  obtain⟨o1',e1,q1⟩:=e1;obtain⟨o2',e2,q2⟩:=e2;exact h.vN b1 b2 o1' o2' g1 g2 aud e1 e2 k1 k2 (by rw[q1,q2];exact hr)
 ·intro c cs hc;by_cases LH:c=b
  ·subst LH;rw[hb]at hc;injection hc with hc;exact absurd hc (uN cs)
  ·rw[fe LH];exact hc
 ·rw[vS];exact aR _
 ·intro B hB hm;by_cases hBg:B=g.B
  ·subst hBg;exact absurd ⟨b,g,hg,rfl,λcs hc=>by rw[hb]at hc;injection hc with hc;exact uN cs hc⟩ hm
  ·exact mA B hBg
 ·intro c o2 hc hk;have LH:c≠b:=λe=>by subst e;rw[hg]at hk;cases hk
  exact⟨by rw[fe LH];exact hc,hk⟩
 ·exactλc k hk _=>.inl hk
def bI.abv(h:bI σ W w.heap){b:Nat}{o o':dH}{g:At}(hb:W.get b=some o)(uN:∀cs,o≠ .ro cs)(QR:∀cs,o'≠ .ro cs)(hg:σ b=some g)
 (vS:w'.heap.size=w.heap.size)(hos:w'.os=w.os)(htp:w'.tape=w.tape)(E6:w'.output=w.output)
 (mA:∀B,B≠g.B->w'.heap[B]? =w.heap[B]?)
 {c c':Array ad}{t:ag}(hc:w.heap[g.B]? =some (.cells c t (0,0)))(yT:w'.heap[g.B]? =some (.cells c' t (0,0)))(nT:c'.size=c.size)
 (zT:∀i,i<g.s\/g.e<=i->c'[i]? =c[i]?)(BW:pw σ w'.heap g o'):
 bI σ (W.put b o') w'.heap/\fR σ W w σ (W.put b o') w':=by
 refine h.XG hb uN QR hg vS hos htp E6 mA BW ?_
 ·intro b2 o2 g2 fe h2 k2 hB hd gE;cases o2 with
  |cells LC=>obtain⟨c0,t0,fr0,e1,e0,e2,e3,e4⟩:=gE;rw[hB,hc]at e1;injection e1 with e1;injection e1 with e1 e1';subst e1;refine⟨c',t,(0,0),by rw[hB];exact yT,λ_=>rfl,e2,by omega,λi v hv=>?_⟩;obtain⟨v',f1,f2⟩:=e4 i v hv;have hi:i<LC.length:=(da.1 hv).1;exact⟨v',by rw[zT _ (by omega)];exact f1,f2⟩
  |ro LC=>obtain⟨c0,t0,fr,e1,e2,e3⟩:=gE;rw[hB,hc]at e1;injection e1 with e1;injection e1 with e1 e1';subst e1;refine⟨c',t,(0,0),by rw[hB];exact yT,e2,λi v hv=>?_⟩;have hi:i<LC.length:=(da.1 hv).1;obtain⟨v',f1,f2⟩:=e3 i v hv;exact⟨v',by rw[zT _ (by omega)];exact f1,f2⟩
  |map es nP=>obtain⟨_,_,iM,e1,_⟩:=gE;rw[hB,hc]at e1;cases e1
  |loop st qL R nt ps aB4 bd=>obtain⟨_,_,r,e1,_⟩:=gE;rw[hB,hc]at e1;cases e1
  |qJ s pos=>obtain⟨_,_,e1⟩:=gE;rw[hB,hc]at e1;cases e1
  |tc t2 LC=>obtain⟨a1,a2,a3,c0,e1,e2,e3,e4⟩:=gE;rw[hB,hc]at e1;injection e1 with e1;injection e1 with e1 e1';subst e1;subst e1';refine⟨a1,a2,a3,c',by rw[hB];exact yT,e2,by omega,λi v hv=>?_⟩;obtain⟨v',f1,f2⟩:=e4 i v hv;have hi:i<LC.length:=(da.1 hv).1;exact⟨v',by rw[zT _ (by omega)];exact f1,f2⟩
def bI.write(h:bI σ W w.heap){b:Nat}{cs cU:List ad}{g:At}(hb:W.get b=some (.cells cs))(hg:σ b=some g)
 (vS:w'.heap.size=w.heap.size)(hos:w'.os=w.os)(htp:w'.tape=w.tape)(E6:w'.output=w.output)
 (mA:∀B,B≠g.B->w'.heap[B]? =w.heap[B]?)
 {c c':Array ad}{t:ag}(hc:w.heap[g.B]? =some (.cells c t (0,0)))(yT:w'.heap[g.B]? =some (.cells c' t (0,0)))(nT:c'.size=c.size)
 (zT:∀i,i<g.s\/g.e<=i->c'[i]? =c[i]?)(dS:g.s+cU.length<=g.e)
 (nH:∀(i:Nat) (v:ad),cU[i]? =some v->∃v',c'[g.s+i]? =some v'/\VR σ v v'):
 bI σ (W.put b (.cells cU)) w'.heap/\fR σ W w σ (W.put b (.cells cU)) w':=by
 refine h.abv hb (λ_=>by simp) (λ_=>by simp) hg vS hos htp E6 mA hc yT nT zT ?_
 ·obtain⟨c0,t0,fr0,h1,h0,h2,h3,h4⟩:=h.obj b _ g hb hg;rw[hc]at h1;injection h1 with h1;injection h1 with h1 Gb;subst h1;exact⟨c',t,(0,0),yT,λ_=>rfl,dS,by omega,nH⟩
def bI.acE(h:bI σ W w.heap){b:Nat}{t0:ag}{cs cU:List ad}{g:At}(hb:W.get b=some (.tc t0 cs))(hg:σ b=some g)
 (vS:w'.heap.size=w.heap.size)(hos:w'.os=w.os)(htp:w'.tape=w.tape)(E6:w'.output=w.output)
 (mA:∀B,B≠g.B->w'.heap[B]? =w.heap[B]?)
 {c c':Array ad}(hc:w.heap[g.B]? =some (.cells c t0 (0,0)))(yT:w'.heap[g.B]? =some (.cells c' t0 (0,0)))(nT:c'.size=c.size)
 (dS:cU.length=cs.length)
 (nH:∀(i:Nat) (v:ad),cU[i]? =some v->∃v',c'[i]? =some v'/\VR σ v v'):
 bI σ (W.put b (.tc t0 cU)) w'.heap/\fR σ W w σ (W.put b (.tc t0 cU)) w':=by
 obtain⟨a1,a2,a3,c0,h1,h2,h3,h4⟩:=h.obj b _ g hb hg;rw[hc]at h1;injection h1 with h1;injection h1 with h1 Gb;subst h1;refine h.abv hb (λ_=>by simp) (λ_=>by simp) hg vS hos htp E6 mA hc yT nT (λi hi=>?_) ⟨a1,a2,⟨a3.1,λhx=>by rw[dS];exact a3.2 hx⟩,c',yT,by omega,by omega,nH⟩;rw[AG (by omega),AG (by omega)]
def bI.setObj(h:bI σ W w.heap){b:Nat}{o o':dH}{g:At}{x:rU}(hb:W.get b=some o)(uN:∀cs,o≠ .ro cs)(hg:σ b=some g)(n8:g.s=0/\g.e=1)
 (hnc:∀c t fr,w.heap[g.B]? ≠some (.cells c t fr))
 (BW:pw σ (w.heap.setIfInBounds g.B x) g o')(QR:∀cs,o'≠ .ro cs:=by intro _ hx;cases hx):
 bI σ (W.put b o') (w.heap.setIfInBounds g.B x)/\fR σ W w σ (W.put b o') {w with heap:=w.heap.setIfInBounds g.B x}:=by
 refine h.XG (w':={w with heap:=w.heap.setIfInBounds g.B x}) hb uN QR hg (by simp) rfl rfl rfl (λB hB=>?_) BW ?_
 ·simp only[IH];rw[aq (bh hB)]
 ·intro b2 o2 g2 _ _ _ hB hd gE;exfalso;cases o2 with
  |cells LC=>obtain⟨c0,t0,fr0,e1,_⟩:=gE;rw[hB]at e1;exact hnc _ _ _ e1
  |ro LC=>obtain⟨c0,t0,fr,e1,_⟩:=gE;rw[hB]at e1;exact hnc _ _ _ e1
  |map es nP=>obtain⟨_,_,_⟩:=gE;omega
  |loop st qL R nt ps aB4 bd=>obtain⟨_,_,_⟩:=gE;omega
  |qJ s pos=>obtain⟨_,_,_⟩:=gE;omega
  |tc t2 LC=>obtain⟨_,_,_,c0,e1,_⟩:=gE;rw[hB]at e1;exact hnc _ _ _ e1
def cx(σ:dx)(b:Nat)(g:At):dx:=λc=>if c=b then some g else σ c
def dT{b:Nat}{g:At}(hb:σ b=none):Sub σ (cx σ b g):=λc k hc=>by
 unfold cx;split
 ·rename_i e;subst e;rw[hb]at hc;cases hc
 ·exact hc
def dM{b:Nat}{g:At}:cx σ b g b=some g:=by simp[cx]
def bI.fresh(h:bI σ W w.heap):σ W.next=none:=by
 cases hk:σ W.next with
 |none=>rfl
 |some g=>have:=(h.qP _ _ hk).1;omega
def bI.alloc(h:bI σ W w.heap){o:dH}{x:rU}{e:Nat}
 (BW:pw (cx σ W.next ⟨w.heap.size,0,e⟩) (w.heap.push x) ⟨w.heap.size,0,e⟩ o)(uN:∀cs,o≠ .ro cs:=by intro _ hx;cases hx):
 bI (cx σ W.next ⟨w.heap.size,0,e⟩) (W.add o) (w.heap.push x)/\fR σ W w (cx σ W.next ⟨w.heap.size,0,e⟩) (W.add o) {w with heap:=w.heap.push x}:=by
 have E1:=h.fresh;have hs:Sub σ (cx σ W.next ⟨w.heap.size,0,e⟩):=dT E1;have gE:∀B,B<w.heap.size->(w.heap.push x)[B]? =w.heap[B]? :=λB hB=>by rw[x8];rw[bL]
 have fe:∀{c:Nat},c≠W.next->(W.add o).get c=W.get c:=λhc=>W.aG _ (bh hc)
 have sS:∀c g,cx σ W.next ⟨w.heap.size,0,e⟩ c=some g->(c=W.next/\g=⟨w.heap.size,0,e⟩)\/(c≠W.next/\σ c=some g):=λc g hc=>by
  unfold cx at hc;split at hc
  ·rename_i hx;injection hc with hc;exact .inl ⟨hx,hc.symm⟩
  ·rename_i hx;exact .inr ⟨hx,hc⟩
 refine⟨⟨?_,?_,?_,?_⟩,⟨hs,?_,?_,rfl,rfl,rfl,?_,?_,?_⟩⟩
 ·intro c hc;have yT:W.next+1<=c:=hc;rw[fe (by omega)];exact h.free c (by omega)
 ·intro c g hc;rcases sS c g hc with⟨rfl,rfl⟩|⟨_,h2⟩
  ·simp[AW.av]
  ·have:=h.qP c g h2;simp[AW.av];omega
 ·intro c o2 g hc hk;rcases sS c g hk with⟨rfl,rfl⟩|⟨h1,h2⟩
  ·rw[AW.aL]at hc;injection hc with hc;subst hc;exact BW
  ·rw[fe h1]at hc;exact((h.obj c o2 g hc h2).mono hs).same (gE _ (h.qP c g h2).2)
 ·intro b1 b2 o1 o2 g1 g2 Qd h1 h2 k1 k2 hr;rcases sS b1 g1 k1 with⟨rfl,rfl⟩|⟨x1,y1⟩
  ·rcases sS b2 g2 k2 with⟨rfl,rfl⟩|⟨x2,y2⟩
   ·exact absurd rfl Qd
   ·have:=(h.qP _ _ y2).2;exact .inl (by simp only[ne_eq];omega)
  ·rcases sS b2 g2 k2 with⟨rfl,rfl⟩|⟨x2,y2⟩
   ·have:=(h.qP _ _ y1).2;exact .inl (by simp only[ne_eq];omega)
   ·rw[fe x1]at h1;rw[fe x2]at h2;exact h.vN _ _ _ _ _ _ Qd h1 h2 y1 y2 hr
 ·intro b cs hb;by_cases hx:b=W.next
  ·subst hx;rw[h.free _ (aR _)]at hb;cases hb
  ·rw[fe hx];exact hb
 ·simp
 ·intro B hB _;exact gE B hB
 ·intro c o2 hc hk;have hcn:c≠W.next:=λe=>by subst e;rw[h.free _ (aR _)]at hc;cases hc
  refine⟨by rw[fe hcn];exact hc,?_⟩;unfold cx;rw[aq hcn];exact hk
 ·intro c g hk hB;rcases sS c g hk with⟨rfl,rfl⟩|⟨h1,h2⟩
  ·simp at hB
  ·exact .inl h2
end
end
section
variable [ai]
def dv(B o j:Nat):(⟨B,o,none⟩:bg).add j=⟨B,o+j,none⟩:=by
 unfold Addr.add;split
 ·rename_i h;subst h;rfl
 ·rfl
def sV(a:bg)(j:Nat)(h:a.spot=none):(a.add j).spot=none:=by unfold Addr.add;split<;>simp[h]
def jp(a:bg)(j:Nat):(a.add j).block=a.block:=by unfold Addr.add;split<;>rfl
def uG(a:bg)(j:Nat):(a.add j).off=a.off+j:=by
 unfold Addr.add;split
 ·rename_i h;subst h;rfl
 ·rfl
def YK(P:ah)(t:ag):Option Bool:=(P.underlying t).map λd=>match d with|.struct _|.array .. =>true|_=>false
def nX(P:ah)(t:ag):Option Nat:=(P.info? t).map (·.size)
def GG{P:ah}{t:ag}{n:Nat}(h:nX P t=some n):∃i,P.info? t=some i/\i.size=n/\P.cellsOf t=n:=by
 unfold nX at h;cases hi:P.info? t with
 |none=>rw[hi]at h;cases h
 |some i=>rw[hi]at h;simp at h;exact⟨i,rfl,h,by simp[Program.cellsOf,hi,h]⟩
def bU{P:ah}{t:ag}{n:Nat}(h:nX P t=some n)(w:ar):(sizeOf t).run P w=.ok n w:=by
 obtain⟨i,hi,_,h3⟩:=GG h;have:(sizeOf t).run P w=.ok (P.cellsOf t) w:=by simp[sizeOf,typeInfo,hi,Program.cellsOf]
 rw[this,h3]
def wT{P:ah}{t:ag}{b:Bool}(h:YK P t=some b)(w:ar):(isAgg t).run P w=.ok b w:=by
 unfold YK at h;cases hu:P.underlying t with
 |none=>rw[hu]at h;cases h
 |some d=>rw[hu]at h;simp only[dq,iW]at h;subst h;cases d<;>simp[isAgg,cg hu]
def aH(W:AW)(b:Nat):Option (List ad):=match W.get b with|some (.cells cs)=>some cs|some (.ro cs)=>some cs|some (.tc _ cs)=>some cs|_=>none
section
variable {P:ah} {σ:dx} {W:AW} {w:ar}
def EM(h:bI σ W w.heap){b:Nat}{cs:List ad}{g:At}(hc:aH W b=some cs)(hg:σ b=some g){i:Nat}{v:ad}(hv:cs[i]? =some v):
 ∃v',w.cell? ⟨g.B,g.s+i,none⟩=some v'/\VR σ v v':=by
 unfold aH at hc;split at hc
 ·rename_i cU dX;injection hc with hc;subst hc;obtain⟨c,t,fr,h1,h0,h2,h3,h4⟩:=h.obj b _ g dX hg;obtain⟨v',f1,f2⟩:=h4 i v hv;exact⟨v',by simp[World.cell?,h1,f1],f2⟩
 ·rename_i cU dX;injection hc with hc;subst hc;obtain⟨c,t,fr,h1,h2,h4⟩:=h.obj b _ g dX hg;obtain⟨v',f1,f2⟩:=h4 i v hv;exact⟨v',by simp[World.cell?,h1,f1],f2⟩
 ·rename_i t cU dX;injection hc with hc;subst hc;obtain⟨a1,a2,a3,c,h1,h2,h3,h4⟩:=h.obj b _ g dX hg;obtain⟨v',f1,f2⟩:=h4 i v hv;exact⟨v',by simp[World.cell?,h1,a1,f1],f2⟩
 ·cases hc
def ab1{α:Type}(l:List α):Nat->List α:=
 List.rec (motive:=λ_=>Nat->List α) (λ_=>[]) (λv t ih n=>Nat.rec (motive:=λ_=>List α) (v::t) (λm _=>ih m) n) l
def Oy{α:Type}(l:List α):Nat->Option (List α):=
 List.rec (motive:=λ_=>Nat->Option (List α)) (λn=>Nat.rec (motive:=λ_=>Option (List α)) (some []) (λ_ _=>none) n)
  (λv _ ih n=>Nat.rec (motive:=λ_=>Option (List α)) (some []) (λm _=>Option.rec (motive:=λ_=>Option (List α)) none (λr=>some (v::r)) (ih m)) n) l
def aeC{α:Type}(l:List α):∀n,ab1 l n=l.drop n:=by
 induction l with
 |nil=>intro n;simp[ab1]
 |cons v l ih=>intro n;cases n with|zero=>rfl|succ n=>exact(ih n).trans (by simp)
def X9{α:Type}(l:List α):∀n,Oy l n=if(l.take n).length=n then some (l.take n)else none:=by
 induction l with
 |nil=>intro n;cases n with|zero=>rfl|succ n=>simp[Oy]
 |cons v l ih=>
  intro n;cases n with
  |zero=>rfl
  |succ n=>
   show Option.rec (motive:=λ_=>Option (List α)) none (λr=>some (v::r)) (Oy l n)=_;rw[ih n];by_cases h:(l.take n).length=n
   ·rw[an h,an (by simp only[Ol,cP,h])];simp
   ·rw[aq h,aq (by simp only[Ol,cP];omega)]
def pD(W:AW)(b off n:Nat):Option (List ad):=
 match aH W b with
 |some cs=>Oy (ab1 cs off) n
 |none=>none
def ka(W:AW)(b off n:Nat):pD W b off n=match aH W b with
 |some cs=>let l:=(cs.drop off).take n;if l.length=n then some l else none
 |none=>none:=by
 unfold pD;cases aH W b with
 |none=>rfl
 |some cs=>simp only[aeC,X9]
def Gw(h:bI σ W w.heap){b off n:Nat}{l:List ad}{g:At}(hr:pD W b off n=some l)(hg:σ b=some g):
 ∃l',LR σ l l'/\l.length=n/\(∀j v,l'[j]? =some v->w.cell? ⟨g.B,g.s+off+j,none⟩=some v)/\(loadCells ⟨g.B,g.s+off,none⟩ n).run P w=.ok l'.toArray w:=by
 rw[ka]at hr;split at hr
 ·rename_i cs hc;simp only at hr;split at hr
  ·rename_i dS;injection hr with hr;have dX:∀j v,l[j]? =some v->∃v',w.cell? ⟨g.B,g.s+off+j,none⟩=some v'/\VR σ v v':=by
    intro j v hj;rw[<-hr,lY]at hj;split at hj
    ·rw[qZ]at hj;obtain⟨v',a,b⟩:=EM h hc hg hj;exact⟨v',by rw[gV];exact a,b⟩
    ·cases hj
   have hln:l.length=n:=by rw[<-hr];exact dS
   let f:Nat->ad:=λj=>(w.cell? ⟨g.B,g.s+off+j,none⟩).getD ak
   refine⟨(List.range n).map f,⟨by simp[hln],λj v v' a b=>?_⟩,hln,?_,?_⟩
   ·have hj:j<n:=by rw[<-hln];exact(da.1 a).1
    obtain⟨u,h1,h2⟩:=dX j v a;simp[hj,f,h1]at b;subst b;exact h2
   ·intro j v hj;have hjn:j<n:=by have:=(da.1 hj).1;simpa using this
    obtain⟨u,h1,h2⟩:=dX j l[j] (bJ (by omega));simp[hjn,f,h1]at hj;subst hj;exact h1
   ·have:=run_loadCells (P:=P) w ⟨g.B,g.s+off,none⟩ n f (λj hj=>by rw[dv];obtain⟨u,h1,h2⟩:=dX j l[j] (bJ (by omega));simp[f,h1]);exact this
  ·cases hr
 ·cases hr
def lR(P:ah)(W:AW)(t:ag)(x:ad):Option ad:=
 match x with
 |.pointer (some a)=>match YK P t with
  |some false=>match aH W a.block with
   |some cs=>ahA cs a.off
   |none=>none
  |some true=>match nX P t with
   |some n=>(pD W a.block a.off n).map λl=>.agg l.toArray
   |none=>none
  |none=>none
 |_=>none
def ND(h:bI σ W w.heap){t:ag}{x x' v:ad}(ha:lR P W t x=some v)(hx:VR σ x x'):
 ∃v',(Instr.loadAt t x').run P w=.ok v' w/\VR σ v v':=by
 unfold lR at ha;split at ha
 ·rename_i a;cases hx with
  |ptr a g hg hs=>
   split at ha
   ·rename_i alJ;split at ha
    ·rename_i cs hc;rw[O1]at ha;obtain⟨v',h1,h2⟩:=EM h hc hg ha;exact⟨v',by simp[Instr.loadAt,Instr.sureAddr,loadVar,wT alJ,h1],h2⟩
    ·cases ha
   ·rename_i alJ;split at ha
    ·rename_i n hn;cases hr:pD W a.block a.off n with
     |none=>rw[hr]at ha;cases ha
     |some l=>rw[hr]at ha;simp only[dq,iW]at ha;subst ha;obtain⟨l',h1,_,_,h3⟩:=Gw (P:=P) h hr hg;exact⟨.agg l'.toArray,by simp[Instr.loadAt,Instr.sureAddr,loadVar,wT alJ,bU hn,h3],VR.Ub (by simpa using h1)⟩
    ·cases ha
   ·cases ha
 ·cases ha
def one(v:ad):Bool:=v.oneCell'
def amJ{v v':ad}(h:VR σ v v'):one v'=one v:=by cases h<;>rfl
def II{l l':List ad}(h:LR σ l l')(ha:l.all one=true):∀v∈l',v.oneCell'=true:=by
 intro v hv;obtain⟨i,hi⟩:=List.getElem?_of_mem hv;have hil:i<l.length:=by rw[h.1];exact(da.1 hi).1
 have:=h.2 i l[i] v (bJ hil) hi;rw[show v.oneCell'=one v from rfl,amJ this];exact dd.1 ha _ (cG hil)
def ip(cs:List ad)(off:Nat)(vs:List ad):List ad:=cs.take off++vs++cs.drop (off+vs.length)
def aj2:ad->Bool:=
 Value.rec (motive_1:=λ_=>Bool) (motive_2:=λ_=>PUnit) (motive_3:=λ_=>PUnit) (λ_=>true) (λ_ _=>true) (λ_ _=>true) (λ_ _ _=>true) (λ_=>true) (λ_=>true) (λ_ _ _=>true) (λ_=>true) (λ_=>true) (λ_ _ _ _ _=>true) true (λ_ _ _=>true) true (λ_ _=>false) (λ_ _=>false) (λ_ _=>.unit) .unit (λ_ _ _ _=>.unit)
def agG(v:ad):aj2 v=one v:=by cases v<;>rfl
def GL(vs:List ad):List ad->Option (List ad):=
 List.rec (motive:=λ_=>List ad->Option (List ad)) (λcs=>some cs)
  (λv _ ih cs=>List.rec (motive:=λ_=>Option (List ad)) none (λ_ t _=>Bool.rec (motive:=λ_=>Option (List ad)) none (Option.rec (motive:=λ_=>Option (List ad)) none (λr=>some (v::r)) (ih t)) (aj2 v)) cs) vs
def SY(vs:List ad):∀cs,GL vs cs=if vs.length<=cs.length/\vs.all one=true then some (vs++cs.drop vs.length)else none:=by
 induction vs with
 |nil=>intro cs;simp[GL]
 |cons v vs ih=>
  intro cs;cases cs with
  |nil=>simp[GL]
  |cons c t=>
   show Bool.rec (motive:=λ_=>Option (List ad)) none (Option.rec (motive:=λ_=>Option (List ad)) none (λr=>some (v::r)) (GL vs t)) (aj2 v)=_;rw[ih t,agG];cases h1:one v with
   |false=>simp[h1]
   |true=>
    by_cases h:vs.length<=t.length/\vs.all one=true
    ·rw[an h,an (by simp only[cP,dz,h1,h.2];exact⟨by omega,rfl⟩)];simp
    ·rw[aq h,aq (by simp only[cP,dz,h1,gK];exactλk=>h ⟨by omega,k.2⟩)]
def K0(cs:List ad):Nat->List ad->Option (List ad):=
 List.rec (motive:=λ_=>Nat->List ad->Option (List ad)) (λn vs=>Nat.rec (motive:=λ_=>Option (List ad)) (GL vs []) (λ_ _=>none) n)
  (λc t ih n vs=>Nat.rec (motive:=λ_=>Option (List ad)) (GL vs (c::t)) (λm _=>Option.rec (motive:=λ_=>Option (List ad)) none (λr=>some (c::r)) (ih m vs)) n) cs
def Fp(cs:List ad):∀(off:Nat) (vs:List ad),K0 cs off vs=if off+vs.length<=cs.length/\vs.all one=true then some (ip cs off vs)else none:=by
 induction cs with
 |nil=>
  intro off vs;cases off with
  |zero=>show GL vs []=_;rw[SY];simp[ip]
  |succ n=>show(none:Option (List ad))=_;rw[aq (by simp)]
 |cons c t ih=>
  intro off vs;cases off with
  |zero=>show GL vs (c::t)=_;rw[SY];simp[ip]
  |succ n=>
   show Option.rec (motive:=λ_=>Option (List ad)) none (λr=>some (c::r)) (K0 t n vs)=_;rw[ih n vs];have e:n+1+vs.length=(n+vs.length)+1:=by omega
   by_cases h:n+vs.length<=t.length/\vs.all one=true
   ·rw[an h,an ⟨by simp only[cP];omega,h.2⟩];simp[ip,e]
   ·rw[aq h,aq (by simp only[cP];exactλk=>h ⟨by omega,k.2⟩)]
def rG(W:AW)(b off:Nat)(vs:List ad):Option AW:=
 match W.get b with
 |some (.cells cs)=>(match K0 cs off vs with
  |some l=>some (W.put b (.cells l))
  |none=>none)
 |some (.tc t cs)=>(match K0 cs off vs with
  |some l=>some (W.put b (.tc t l))
  |none=>none)
 |_=>none
def Vr(W:AW)(b off:Nat)(vs:List ad):rG W b off vs=match W.get b with
 |some (.cells cs)=>if off+vs.length<=cs.length/\vs.all one=true then some (W.put b (.cells (ip cs off vs)))else none
 |some (.tc t cs)=>if off+vs.length<=cs.length/\vs.all one=true then some (W.put b (.tc t (ip cs off vs)))else none
 |_=>none:=by
 unfold rG;split
 ·rename_i cs nT;rw[Fp];by_cases h:off+vs.length<=cs.length/\vs.all one=true
  ·rw[an h,an h]
  ·rw[aq h,aq h]
 ·rename_i t cs nT;rw[Fp];by_cases h:off+vs.length<=cs.length/\vs.all one=true
  ·rw[an h,an h]
  ·rw[aq h,aq h]
 ·rfl
def oE(c:List ad)(o:Nat)(vs:List ad)(h:o+vs.length<=c.length)(i:Nat):
 (c.take o++vs++c.drop (o+vs.length))[i]? =if o<=i/\i<o+vs.length then vs[i-o]? else c[i]? :=by
 rw[iK,xi];simp only[cR];have hm:min o c.length=o:=by omega
 rw[hm];split
 ·rename_i h1;rw[lY,an h1,bL]
 ·rename_i h1;rw[xi];split
  ·rename_i h2;rw[kH]
  ·rename_i h2;rw[bL,qZ];congr 1;omega
def kS(w:ar)(g B:Nat)(c:Array ad)(h:B≠g):(w.setRow g c).heap[B]? =w.heap[B]? :=by simp only[World.setRow,Ai];rw[aq (bh h)]
def xh(h:bI σ W w.heap){b off:Nat}{vs KD:List ad}{W':AW}{g:At}(hw:rG W b off vs=some W')(hg:σ b=some g)(hv:LR σ vs KD):
 ∃w',(storeCells ⟨g.B,g.s+off,none⟩ KD).run P w=.ok () w'/\bI σ W' w'.heap/\fR σ W w σ W' w':=by
 rw[Vr]at hw;split at hw
 ·rename_i cs dX;split at hw
  ·rename_i ws;injection hw with hw;obtain⟨dS,JJ⟩:=ws;obtain⟨c,t,fr,h1,h0,h2,h3,h4⟩:=h.obj b _ g dX hg;have hvl:=hv.1;by_cases Zz:g.s<g.e;case neg=>
    have hv0:KD=[]:=zq (by omega);have auT:vs=[]:=zq (by omega);have atm:cs=[]:=zq (by omega);subst hv0;subst auT;subst atm;have Ja:off=0:=by simpa using dS
    subst Ja;refine⟨w,by simp[storeCells],?_⟩;rw[<-hw];have alw:ip ([]:List ad) 0 []=[]:=rfl;rw[alw];refine h.XG dX (λ_=>by simp) (λ_=>by simp) hg rfl rfl rfl rfl (λ_ _=>rfl) ⟨c,t,fr,h1,h0,h2,h3,h4⟩ (λ_ _ _ _ _ _ _ _ k=>k)
   obtain rfl:=h0 Zz;have ug:=IU (P:=P) g.B (g.s+off) t KD 0 c w h1 (by omega) (II hv JJ);simp only[eQ]at ug;refine⟨_,ug,?_⟩;rw[<-hw];have Ik:=oE c.toList (g.s+off) KD (by simp;omega);refine h.write (cU:=ip cs off vs) dX hg (by simp[World.setRow]) rfl rfl rfl (λB hB=>kS w g.B B _ hB) h1 (wY w g.B c _ t _ h1) (by simp;omega) ?_ ?_ ?_
   ·intro i hi;have:=Ik i;rw[bL]at this;simpa using this
   ·simp[ip];omega
   ·intro i v hiv;have hsg:=oE cs off vs dS i;rw[show ip cs off vs=cs.take off++vs++cs.drop (off+vs.length)from rfl,hsg]at hiv;have Du:=Ik (g.s+i);by_cases nH:off<=i/\i<off+vs.length
    ·rw[an nH]at hiv;rw[kH]at Du;obtain⟨v',f1,f2⟩:=hv.get hiv;refine⟨v',?_,f2⟩;rw[show g.s+i-(g.s+off)=i-off by omega]at Du;rw[<-f1];simpa using Du
    ·rw[aq nH]at hiv;rw[bL]at Du;obtain⟨v',f1,f2⟩:=h4 i v hiv;exact⟨v',by rw[<-f1];simpa using Du,f2⟩
  ·cases hw
 ·rename_i t cs dX;split at hw
  ·rename_i ws;injection hw with hw;obtain⟨dS,JJ⟩:=ws;obtain⟨a1,a2,a3,c,h1,h2,h3,h4⟩:=h.obj b _ g dX hg;have hvl:=hv.1;have ug:=IU (P:=P) g.B (g.s+off) t KD 0 c w h1 (by omega) (II hv JJ);simp only[eQ]at ug;refine⟨_,ug,?_⟩;rw[<-hw];have Ik:=oE c.toList (g.s+off) KD (by simp;omega);refine h.acE (cU:=ip cs off vs) dX hg (by simp[World.setRow]) rfl rfl rfl (λB hB=>kS w g.B B _ hB) h1 (wY w g.B c _ t _ h1) (by simp;omega) ?_ ?_
   ·simp[ip];omega
   ·intro i v hiv;have hsg:=oE cs off vs dS i;rw[show ip cs off vs=cs.take off++vs++cs.drop (off+vs.length)from rfl,hsg]at hiv;have Du:=Ik i;by_cases nH:off<=i/\i<off+vs.length
    ·rw[an nH]at hiv;rw[kH]at Du;obtain⟨v',f1,f2⟩:=hv.get hiv;refine⟨v',?_,f2⟩;rw[show i-(g.s+off)=i-off by omega]at Du;rw[<-f1];simpa using Du
    ·rw[aq nH]at hiv;rw[bL]at Du;obtain⟨v',f1,f2⟩:=h4 i v hiv;exact⟨v',by rw[<-f1];simpa using Du,f2⟩
  ·cases hw
 ·cases hw
def Ct(P:ah)(W:AW)(t:ag)(x v:ad):Option AW:=
 match x with
 |.pointer (some a)=>match nX P t with
  |some n=>if v.cells.size=n then rG W a.block a.off v.cells.toList else none
  |none=>none
 |_=>none
def Ug(h:bI σ W w.heap){t:ag}{x x' v v':ad}{W':AW}(ha:Ct P W t x v=some W')(hx:VR σ x x')(hv:VR σ v v'):
 ∃w',(Instr.storeAt t x' v').run P w=.ok () w'/\bI σ W' w'.heap/\fR σ W w σ W' w':=by
 unfold Ct at ha;split at ha
 ·rename_i a;cases hx with
  |ptr a g hg hs=>
   split at ha
   ·rename_i n hn;split at ha
    ·rename_i vS;obtain⟨w',h1,h2⟩:=xh (P:=P) h ha hg hv.cells;have aty:v'.cells.size=n:=by have:=hv.cells.1;simp at this;omega
     exact⟨w',by simp[Instr.storeAt,Instr.sureAddr,storeVar,bU hn,aty,h1],h2⟩
    ·cases ha
   ·cases ha
 ·cases ha
def CM(h:bI σ W w.heap)(t:ag){cs cU:List ad}(hc:LR σ cs cU):
 (newRow t cU.toArray).run P w=.ok ⟨w.heap.size,0,none⟩ {w with heap:=w.heap.push (.cells cU.toArray t)}/\
 cx σ W.next ⟨w.heap.size,0,cs.length⟩ W.next=some ⟨w.heap.size,0,cs.length⟩/\
 bI (cx σ W.next ⟨w.heap.size,0,cs.length⟩) (W.add (.cells cs)) (w.heap.push (.cells cU.toArray t))/\
 fR σ W w (cx σ W.next ⟨w.heap.size,0,cs.length⟩) (W.add (.cells cs)) {w with heap:=w.heap.push (.cells cU.toArray t)}:=by
 refine⟨by simp[newRow],dM,h.alloc ?_⟩;refine⟨cU.toArray,t,(0,0),by simp,λ_=>rfl,by simp,by simp[hc.1],λi v hv=>?_⟩;obtain⟨v',a,b⟩:=hc.get hv;exact⟨v',by simpa using a,b.mono (dT h.fresh)⟩
def bI.kill(h:bI σ W w.heap){b:Nat}{g0:At}(hb:∀cs,W.get b≠some (.ro cs))(hg0:σ b=some g0):bI σ (W.kill b) w.heap/\fR σ W w σ (W.kill b) w:=by
 have hk:∀c o,(W.kill b).get c=some o->c≠b/\W.get c=some o:=λc o hc=>by
  by_cases hx:c=b
  ·subst hx;rw[AW.DM]at hc;cases hc
  ·rw[AW.dm _ (bh hx)]at hc;exact⟨hx,hc⟩
 refine⟨⟨?_,h.qP,?_,?_⟩,⟨.refl _,?_,aR _,rfl,rfl,rfl,λ_ _ _=>rfl,?_,?_⟩⟩
 ·intro c hc;by_cases hx:c=b
  ·subst hx;exact AW.DM _ _
  ·rw[AW.dm _ (bh hx)];exact h.free c hc
 ·intro c o g hc hg;exact h.obj c o g (hk c o hc).2 hg
 ·intro b1 b2 o1 o2 g1 g2 fe h1 h2 k1 k2 hr;exact h.vN b1 b2 o1 o2 g1 g2 fe (hk _ _ h1).2 (hk _ _ h2).2 k1 k2 hr
 ·intro c cs hc;have hx:c≠b:=λe=>by subst e;exact hb cs hc
  rw[AW.dm _ (bh hx)];exact hc
 ·intro c o2 hc hkn;have LH:c≠b:=λe=>by subst e;rw[hg0]at hkn;cases hkn
  exact⟨by rw[AW.dm _ (bh LH)];exact hc,hkn⟩
 ·exactλc g hg _=>.inl hg
end
end
section
variable [ai]
def cH(P:ah){α:Type}(s:Sem α):Option α:=
 Sem.rec (motive:=λ_=>Option α) (λa=>some a) (λ_ _ _ _=>none) (λ_ _ _ _ _=>none) (λ_ _ _=>none) (λ_ _ _=>none) (λ_ _ _ _=>none) (λ_ _ _=>none) (λ_ _ _=>none) (λ_ _ _ _=>none) (λ_ _ _=>none) (λ_ _ _=>none) (λ_ ih=>ih P) (λ_ _ _=>none) (λ_=>none) s
def uT{P:ah}{α:Type}(s:Sem α){a:α}(h:cH P s=some a)(w:ar):s.run P w=.ok a w:=by
 induction s generalizing w with
 |pure b=>simp only[cH]at h;injection h with h;subst h;rfl
 |program k ih=>exact ih P h w
 |load m b k ih=>simp[cH]at h
 |store m b v k ih=>simp[cH]at h
 |new o k ih=>simp[cH]at h
 |shape r k ih=>simp[cH]at h
 |freeze b n k ih=>simp[cH]at h
 |frozen b k ih=>simp[cH]at h
 |getObj r k ih=>simp[cH]at h
 |setObj r o k ih=>simp[cH]at h
 |choose q k ih=>simp[cH]at h
 |sys c k ih=>simp[cH]at h
 |mark m k ih=>simp[cH]at h
 |halt x=>simp[cH]at h
def aE(R:ai.Fr)(o:au):ad:=
 match o with
 |.tmp t=>du R t
 |.const v=>v
 |.global g=>.pointer (some ⟨g,0,none⟩)
 |.func f=>.func (.func f) #[] #[]
def Nv{nt:Nat}{ng:List Nat}{σ:dx}{R:ai.Fr}{a:bw}(hR:fy nt σ R a.tmps)(hG:BM σ ng){o:au}(ho:sA nt ng o=true):VR σ (aE R o) (a.eval o):=by
 cases o with
 |tmp t=>exact hR.2 t (by simpa[sA]using ho)
 |const v=>exact jJ ho
 |global g=>obtain⟨e,he⟩:=hG g (xy.1 ho);have:=VR.ptr (σ:=σ) ⟨g,0,none⟩ _ he rfl;simpa[aE,Act.eval]using this
 |func f=>exact .func _ _ _ _ _ _ (.func f) rfl (λi v v' h=>by simp at h) rfl (λi v v' h=>by simp at h)
def D6:Option Next->Option ad
 |some (.value v)=>some v
 |_=>none
def Bc:Op->Bool
 |.select .. =>false
 |_=>true
def lg(P:ah)(R:ai.Fr)(o:am):Option ad:=
 if Bc o.op&&o.op.operands.toList.all (λx=>bN (aE R x))then
  match D6 (cH P (execOp (aE R) o))with
  |some v=>if bN v then some v else none
  |none=>none
 else none
def XN{P:ah}{σ:dx}{R:ai.Fr}{ρ:au->ad}{o:am}{v:ad}(h:lg P R o=some v)
 (hρ:∀x∈o.op.operands,VR σ (aE R x) (ρ x))(w:ar):(execOp ρ o).run P w=.ok (.value v) w/\VR σ v v:=by
 unfold lg at h;split at h
 ·rename_i hc;simp only[bA,dd]at hc;obtain⟨hns,pP⟩:=hc;have aop:execOp (aE R) o=execOp ρ o:=execOp_congr o (λcs b e=>by rw[e]at hns;simp[Bc]at hns) (λx hx=>(gH (pP x (by simpa using hx)) (hρ x hx)).symm);rw[aop]at h;split at h
  ·rename_i u hu;split at h
   ·rename_i hp;injection h with h;subst h;cases hr:cH P (execOp ρ o)with
    |none=>rw[hr]at hu;cases hu
    |some nx=>rw[hr]at hu;cases nx<;>first|(simp only[D6]at hu;injection hu with hu;subst hu;exact⟨uT _ hr w,jJ hp⟩)|(simp[D6]at hu)
   ·cases h
  ·cases h
 ·cases h
def AR(σ:dx)(a a':Array ad):Prop:=LR σ a.toList a'.toList
def AR.size{σ:dx}{a a':Array ad}(h:AR σ a a'):a.size=a'.size:=by have:=h.1;simpa using this
def AR.set{σ:dx}{a a':Array ad}(h:AR σ a a')(n:Nat){x x':ad}(hx:VR σ x x'):AR σ (a.setIfInBounds n x) (a'.setIfInBounds n x'):=by unfold AR;simp only[Oq];exact LR.set h n hx
def abd{σ:dx}(off:Nat):∀(l l':List ad) (k:Nat) (a a':Array ad),LR σ l l'->AR σ a a'->
 AR σ ((l.zipIdx k).foldl (λcs p=>cs.setIfInBounds (off+p.2) p.1) a) ((l'.zipIdx k).foldl (λcs p=>cs.setIfInBounds (off+p.2) p.1) a'):=by
 intro l;induction l with
 |nil=>intro l' k a a' h ha;have:=h.of_nil;subst this;exact ha
 |cons v l ih=>intro l' k a a' h ha;obtain⟨v',l'',rfl,hv,hl⟩:=h.of_cons;simp only[List.zipIdx_cons,uI];exact ih l'' (k+1) _ _ hl (ha.set _ hv)
def PR(σ:dx)(ps ps':List (Nat×ad)):Prop:=ps.length=ps'.length/\∀(i:Nat) (p p':Nat×ad),ps[i]? =some p->ps'[i]? =some p'->p.1=p'.1/\VR σ p.2 p'.2
def PR.of_cons{σ:dx}{p:Nat×ad}{l m:List (Nat×ad)}(h:PR σ (p::l) m):∃v' l',m=(p.1,v')::l'/\VR σ p.2 v'/\PR σ l l':=by
 cases m with
 |nil=>have:=h.1;simp at this
 |cons q l'=>have h0:=h.2 0 p q (by simp) (by simp);refine⟨q.2,l',?_,h0.2,by have:=h.1;simpa using this,λi u u' a b=>h.2 (i+1) u u' (by simpa using a) (by simpa using b)⟩;rw[h0.1]
def EB{σ:dx}(tQ:Nat->Option (Nat×Nat)):∀(ps ps':List (Nat×ad)) (a a' out:Array ad),PR σ ps ps'->AR σ a a'->Instr.fill tQ a ps=some out->
 ∃pT,Instr.fill tQ a' ps'=some pT/\AR σ out pT:=by
 intro ps;induction ps with
 |nil=>
  intro ps' a a' out h ha hf;have:ps'=[]:=by have:=h.1;simp at this;exact zq this.symm
  subst this;simp only[Instr.fill]at hf|-;injection hf with hf;subst hf;exact⟨a',rfl,ha⟩
 |cons p ps ih=>
  intro ps' a a' out h ha hf;obtain⟨v',l',rfl,hv,hl⟩:=h.of_cons;obtain⟨i,v⟩:=p;simp only[Instr.fill]at hf|-;cases hp:tQ i with
  |none=>rw[hp]at hf;cases hf
  |some os=>
   obtain⟨off,size⟩:=os;rw[hp]at hf;simp only at hf|-;have nT:v.cells.size=v'.cells.size:=by have:=hv.cells.1;simpa using this
   rw[<-nT,<-ha.size];split at hf
   ·cases hf
   ·rename_i ws;rw[aq ws];refine ih l' _ _ out hl ?_ hf;have:=abd off v.cells.toList v'.cells.toList 0 a a' hv.cells ha;have e1:∀(u:ad) (b:Array ad),Array.foldl (λcs (x:ad×Nat)=>cs.setIfInBounds (off+x.2) x.1) b u.cells.zipIdx=(u.cells.toList.zipIdx 0).foldl (λcs p=>cs.setIfInBounds (off+p.2) p.1) b:=λu b=>by rw[<-Array.foldl_toList,Array.toList_zipIdx]
    rw[<-e1,<-e1]at this;exact this
section
variable {P:ah} {σ:dx} {W:AW} {w:ar}
def kG(P:ah)(t:ag):Option ad:=match(P.info? t).bind (·.zero)with|some z=>if z.cells.toList.all cC then some z else none|none=>none
def jd{t:ag}{z:ad}(h:kG P t=some z)(w:ar):(zeroValue t).run P w=.ok z w/\z.cells.toList.all cC=true:=by
 unfold kG at h;split at h
 ·rename_i z0 hz;split at h
  ·rename_i hs;injection h with h;subst h;cases hi:P.info? t with
   |none=>rw[hi]at hz;cases hz
   |some i=>rw[hi]at hz;simp only[bM]at hz;exact⟨by simp[zeroValue,typeInfo,hi,hz],hs⟩
  ·cases h
 ·cases h
def IV{z:ad}(h:z.cells.toList.all cC=true):AR σ z.cells z.cells:=LR.qh (λ_=>fK) h
def parts(R:ai.Fr)(ps:Array (Nat×au)):List (Nat×ad):=ps.toList.map λp=>(p.1,aE R p.2)
def FN{R:ai.Fr}{ρ:au->ad}(ps:Array (Nat×au))(h:∀p∈ps.toList,VR σ (aE R p.2) (ρ p.2)):
 PR σ (parts R ps) (ps.map λ(i,x)=>(i,ρ x)).toList:=by
 refine⟨by simp[parts],λi p p' a b=>?_⟩;simp only[parts,ly,Array.toList_map]at a b;cases hq:ps.toList[i]? with
 |none=>rw[hq]at a;cases a
 |some q=>rw[hq]at a b;simp at a b;subst a;subst b;exact⟨rfl,h q (za hq)⟩
def vU(P:ah):List Field->Option (List (Nat×Nat))
 |[]=>some []
 |f::fs=>match nX P f.type,vU P fs with
  |some n,some l=>some ((f.offset,n)::l)
  |_,_=>none
def Pp:∀(fs:List Field) (l:List (Nat×Nat)),vU P fs=some l->∀w,((fs.mapM λf=>do pure (f.offset,<-sizeOf f.type)):Sem (List (Nat×Nat))).run P w=.ok l w:=by
 intro fs;induction fs with
 |nil=>intro l h w;simp only[vU]at h;injection h with h;subst h;simp[List.mapM_nil]
 |cons f fs ih=>
  intro l h w;simp only[vU]at h;split at h
  ·rename_i n m hn hm;injection h with h;subst h;have h2:=ih m hm w;simp only[List.mapM_cons,cQ,bU hn,cK,ij,h2]
  ·cases h
def HD(vs:List ad):List ad->Option (List ad):=
 List.rec (motive:=λ_=>List ad->Option (List ad)) (λcs=>some cs)
  (λv _ ih cs=>List.rec (motive:=λ_=>Option (List ad)) none (λ_ t _=>Option.rec (motive:=λ_=>Option (List ad)) none (λr=>some (v::r)) (ih t)) cs) vs
def Sd(vs:List ad):∀cs,HD vs cs=if vs.length<=cs.length then some (vs++cs.drop vs.length)else none:=by
 induction vs with
 |nil=>intro cs;simp[HD]
 |cons v vs ih=>
  intro cs;cases cs with
  |nil=>simp[HD]
  |cons c t=>
   show Option.rec (motive:=λ_=>Option (List ad)) none (λr=>some (v::r)) (HD vs t)=_;rw[ih t];by_cases h:vs.length<=t.length
   ·rw[an h,an (by simp only[cP];omega)];simp
   ·rw[aq h,aq (by simp only[cP];omega)]
def PH(cs:List ad):Nat->List ad->Option (List ad):=
 List.rec (motive:=λ_=>Nat->List ad->Option (List ad)) (λn vs=>Nat.rec (motive:=λ_=>Option (List ad)) (HD vs []) (λ_ _=>none) n)
  (λc t ih n vs=>Nat.rec (motive:=λ_=>Option (List ad)) (HD vs (c::t)) (λm _=>Option.rec (motive:=λ_=>Option (List ad)) none (λr=>some (c::r)) (ih m vs)) n) cs
def Ur(cs:List ad):∀(off:Nat) (vs:List ad),PH cs off vs=if off+vs.length<=cs.length then some (ip cs off vs)else none:=by
 induction cs with
 |nil=>
  intro off vs;cases off with
  |zero=>show HD vs []=_;rw[Sd];simp[ip]
  |succ n=>show(none:Option (List ad))=_;rw[aq (by simp)]
 |cons c t ih=>
  intro off vs;cases off with
  |zero=>show HD vs (c::t)=_;rw[Sd];simp[ip]
  |succ n=>
   show Option.rec (motive:=λ_=>Option (List ad)) none (λr=>some (c::r)) (PH t n vs)=_;rw[ih n vs];have e:n+1+vs.length=(n+vs.length)+1:=by omega
   by_cases h:n+vs.length<=t.length
   ·rw[an h,an (by simp only[cP];omega)];simp[ip,e]
   ·rw[aq h,aq (by simp only[cP];omega)]
def aaI(cs:List ad)(o:Nat)(v:ad)(vs:List ad)(h:o+(vs.length+1)<=cs.length):ip (cs.set o v) (o+1) vs=ip cs o (v::vs):=by
 unfold ip;apply oi;intro i;rw[oE _ _ _ (by rw[xU];omega),oE _ _ _ (by simp only[cP];omega)];by_cases h1:i=o
 ·subst h1;rw[bL,an (by simp only[cP];omega),uk];simp;omega
 ·by_cases h2:o+1<=i/\i<o+1+vs.length
  ·rw[an h2,an (by simp only[cP];omega)];obtain⟨k,rfl⟩:∃k,i=o+1+k:=⟨i-(o+1),by omega⟩;rw[show o+1+k-(o+1)=k by omega,show o+1+k-o=k+1 by omega,Ef]
  ·rw[aq h2,aq (by simp only[cP];omega),uk,aq (λe=>h1 e.symm)]
def MR(off:Nat):∀(vs:List ad) (k:Nat) (cells:Array ad),off+k+vs.length<=cells.size->
 (List.foldl (λ(cs:Array ad) (p:ad×Nat)=>cs.setIfInBounds (off+p.2) p.1) cells (vs.zipIdx k)).toList=ip cells.toList (off+k) vs
 |[],k,cells,_=>by simp[ip]
 |v::vs,k,cells,h=>by rw[List.zipIdx_cons,uI,MR off vs (k+1) _ (by simp only[Array.size_setIfInBounds];simp only[cP]at h;omega)];rw[Oq];exact aaI _ _ _ _ (by simp only[cP]at h;simp;omega)
def M3(tQ:Nat->Option (Nat×Nat)):List (Nat×ad)->List ad->Option (List ad)
 |[],cells=>some cells
 |(i,v)::ks,cells=>match tQ i with
  |none=>none
  |some (off,size)=>match Nat.beq v.cells.size size with
   |true=>(match PH cells off v.cells.toList with
    |some c=>M3 tQ ks c
    |none=>none)
   |false=>none
def Hp(tQ:Nat->Option (Nat×Nat))(cells:Array ad)(l:List (Nat×ad)):Option (Array ad):=(M3 tQ l cells.toList).map List.toArray
def Lt(tQ:Nat->Option (Nat×Nat)):∀(l:List (Nat×ad)) (cells:Array ad),Hp tQ cells l=Instr.fill tQ cells l
 |[],cells=>by simp[Hp,M3,Instr.fill]
 |(i,v)::ks,cells=>by
  unfold Instr.fill;show(M3 tQ ((i,v)::ks) cells.toList).map List.toArray=_;unfold M3;cases tQ i with
  |none=>rfl
  |some p=>
   obtain⟨off,size⟩:=p;simp only;by_cases hs:v.cells.size=size
   ·have hb:Nat.beq v.cells.size size=true:=by rw[fo];exact hs
    rw[hb];simp only;rw[Ur];by_cases hl:off+v.cells.size<=cells.size
    ·rw[an (by simpa using hl),aq (by simp[hs];omega)];simp only;rw[<-Lt tQ ks];show _=(M3 tQ ks _).map List.toArray;congr 2;have hf:=MR off v.cells.toList 0 cells (by simpa using hl);rw[eQ]at hf;rw[<-hf,<-Array.foldl_toList,Array.toList_zipIdx]
    ·rw[aq (by simpa using hl),an (by simp[hs];omega)];rfl
   ·have hb:Nat.beq v.cells.size size=false:=by
     cases hq:Nat.beq v.cells.size size with
     |false=>rfl
     |true=>exact absurd (A5 hq) hs
    rw[hb,an (by simp[hs])];rfl
def CE(P:ah)(R:ai.Fr)(t:ag)(ps:Array (Nat×au)):Option ad:=
 match kG P t,P.underlying t with
 |some z,some (.struct fs)=>match vU P fs.toList with
  |some pl=>(Hp (pl.toArray[·]?) z.cells (parts R ps)).map .agg
  |none=>none
 |some z,some (.array _ e)=>match nX P e with
  |some n=>(Hp (λi=>some (i*n,n)) z.cells (parts R ps)).map .agg
  |none=>none
 |_,_=>none
def UL{R:ai.Fr}{ρ:au->ad}{t:ag}{ps:Array (Nat×au)}{v:ad}(h:CE P R t ps=some v)
 (hρ:∀p∈ps.toList,VR σ (aE R p.2) (ρ p.2))(w:ar):
 ∃v',(Instr.build t (ps.map λ(i,x)=>(i,ρ x))).run P w=.ok v' w/\VR σ v v':=by
 have hp:=FN (σ:=σ) (R:=R) (ρ:=ρ) ps hρ;unfold CE at h;simp only[Lt]at h;split at h
 ·rename_i z fs hz hu;obtain⟨Ck,yY⟩:=jd hz w;split at h
  ·rename_i pl pP;cases hf:Instr.fill (pl.toArray[·]?) z.cells (parts R ps)with
   |none=>rw[hf]at h;cases h
   |some out=>
    rw[hf]at h;simp only[dq,iW]at h;subst h;obtain⟨pT,h1,h2⟩:=EB _ _ _ _ _ _ hp (IV yY) hf;have hm:=Pp fs.toList pl pP w;refine⟨.agg pT,?_,VR.Ub h2⟩;have hm':((fs.mapM λf=>do pure (f.offset,<-sizeOf f.type)):Sem (Array (Nat×Nat))).run P w=.ok pl.toArray w:=by rw[Array.mapM_eq_mapM_toList];simp only[Sem.run_map,hm,cK]
    simp only[Instr.build,cQ,Ck,cK,cg hu,hm',h1,ij]
  ·cases h
 ·rename_i z len e hz hu;obtain⟨Ck,yY⟩:=jd hz w;split at h
  ·rename_i n hn;cases hf:Instr.fill (λi=>some (i*n,n)) z.cells (parts R ps)with
   |none=>rw[hf]at h;cases h
   |some out=>rw[hf]at h;simp only[dq,iW]at h;subst h;obtain⟨pT,h1,h2⟩:=EB _ _ _ _ _ _ hp (IV yY) hf;exact⟨.agg pT,by simp only[Instr.build,cQ,Ck,cK,cg hu,bU hn,h1,ij],VR.Ub h2⟩
  ·cases h
 ·cases h
def P3(z:ad)(n:Nat):Array ad:=(Array.range n).map (z.cells[· % z.cells.size]!)
def kF(z:ad)(n:Nat):Array ad:=if n=0 then#[]else P3 z n
def xN{z:ad}{n:Nat}(h:n=0):kF z n=#[]:=an h
def Bm{z:ad}{n:Nat}(h:n≠0):kF z n=P3 z n:=aq h
def rY(P:ah)(R:ai.Fr)(W:AW)(t:ag)(len:Nat)(ps:Array (Nat×au)):Option (ad×AW):=
 match P.underlying t with
 |some (.slice e)=>match nX P e,kG P e with
  |some n,some z=>
   if len*n<=16777216/\len<eJ/\(kF z (len*n)).toList.all cC=true then
    match Instr.fill (λi=>some (i*n,n)) (kF z (len*n)) (parts R ps)with
    |some c=>some (W.new (.cells c.toList) λb W'=>(Value.slice (some ⟨b,0,none⟩) len len,W'))
    |none=>none
   else none
  |_,_=>none
 |_=>none
def yA(cs:List ad)(len:Nat):List ad:=Nat.rec (motive:=λ_=>List ad) [] (λ_ ih=>cs++ih) len
def Sp(cs:List ad):∀(len i:Nat),i<len*cs.length->(yA cs len)[i]? =cs[i % cs.length]?
 |0,i,h=>by simp at h
 |len+1,i,h=>by
  show(cs++yA cs len)[i]? =_;by_cases hi:i<cs.length
  ·rw[IN hi,Nat.mod_eq_of_lt hi]
  ·have h1:len*cs.length+cs.length=(len+1)*cs.length:=by rw[jE,kv]
   rw[sU (by omega),Sp cs len (i-cs.length) (by omega)];congr 1;have h2:i=(i-cs.length)+cs.length:=by omega
   generalize i-cs.length=j at h2;rw[h2,Nat.add_mod_right]
def AJ(cs:List ad):∀len,(yA cs len).length=len*cs.length
 |0=>by show([]:List ad).length=_;simp
 |len+1=>by show(cs++yA cs len).length=_;rw[cD,AJ cs len,jE,kv,Nat.add_comm]
def vQ(cs:List ad)(p:ad->Bool)(h:cs.all p=true):∀len,(yA cs len).all p=true
 |0=>rfl
 |len+1=>by show(cs++yA cs len).all p=true;rw[List.all_append,h,vQ cs p h len];rfl
def zn{z:ad}{len n:Nat}(hn:z.cells.size=n):kF z (len*n)=(yA z.cells.toList len).toArray:=by
 have hl:z.cells.toList.length=n:=by simpa using hn
 apply Array.ext';apply oi;intro i;unfold kF;split
 ·rename_i h0;have:(yA z.cells.toList len).length=0:=by rw[AJ,hl,h0]
  rw[mi.1 this]
 ·rename_i h0;by_cases hi:i<len*n
  ·have e1:(P3 z (len*n)).toList[i]? =some (z.cells[i % z.cells.size]!):=by simp[P3,hi]
   have t8:0<n:=by
    rcases Nat.eq_zero_or_pos n with h|h
    ·subst h;simp at h0
    ·exact h
   have hm:i % n<z.cells.size:=by rw[hn];exact Nat.mod_lt _ t8
   rw[e1,IT,Sp _ _ _ (by rw[hl];exact hi),hl,hn];simp[hm]
  ·rw[kn (by simp[P3];omega),IT,kn (by rw[AJ,hl];omega)]
def nG(P:ah)(R:ai.Fr)(W:AW)(t:ag)(len:Nat)(ps:Array (Nat×au)):Option (ad×AW):=
 match P.underlying t with
 |some (.slice e)=>match nX P e,kG P e with
  |some n,some z=>
   if len*n<=16777216/\len<eJ/\(Nat.beq z.cells.size n&&z.cells.toList.all cC)=true then
    match Hp (λi=>some (i*n,n)) (yA z.cells.toList len).toArray (parts R ps)with
    |some c=>some (W.new (.cells c.toList) λb W'=>(Value.slice (some ⟨b,0,none⟩) len len,W'))
    |none=>none
   else none
  |_,_=>none
 |_=>none
def ye{P:ah}{R:ai.Fr}{W:AW}{t:ag}{len:Nat}{ps:Array (Nat×au)}{r:ad×AW}(h:nG P R W t len ps=some r):rY P R W t len ps=some r:=by
 unfold nG at h;simp only[Lt]at h;unfold rY;revert h;generalize P.underlying t=u;intro h;split at h
 ·rename_i e;revert h;generalize nX P e=x;generalize kG P e=y;intro h;split at h
  ·rename_i n z;split at h
   ·rename_i hc;obtain⟨hc1,hc2,hc3⟩:=hc;rw[bA,fo]at hc3;have Su:=zn (len:=len) hc3.1;try simp only
    rw[Su,an ⟨hc1,hc2,by rw[IT];exact vQ _ _ hc3.2 _⟩];exact h
   ·cases h
  ·cases h
 ·cases h
def Ii(hW:bI σ W w.heap){R:ai.Fr}{ρ:au->ad}{t:ag}{len:Nat}{ps:Array (Nat×au)}{v:ad}{W':AW}
 (h:nG P R W t len ps=some (v,W'))(hρ:∀p∈ps.toList,VR σ (aE R p.2) (ρ p.2)):
 ∃σ' v' w',(Instr.buildSlice t len (ps.map λ(i,x)=>(i,ρ x))).run P w=.ok v' w'/\VR σ' v v'/\bI σ' W' w'.heap/\fR σ W w σ' W' w':=by
 have hp:=FN (σ:=σ) (R:=R) (ρ:=ρ) ps hρ;replace h:=ye h;unfold rY at h;split at h
 ·rename_i e hu;split at h
  ·rename_i n z hn hz;obtain⟨Ck,yY⟩:=jd hz w;split at h
   ·rename_i hc;obtain⟨hc1,hc2,hc3⟩:=hc;split at h
    ·rename_i c hf;injection h with h;rw[AW.dU]at h;injection h with hv hw;obtain⟨pT,h1,h2⟩:=EB _ _ _ _ _ _ hp (LR.qh (σ:=σ) (λ_=>fK) hc3) hf;have Hv:=CM (P:=P) hW e (cs:=c.toList) (cU:=pT.toList) h2;refine⟨_,.slice (some ⟨w.heap.size,0,none⟩) len len,{w with heap:=w.heap.push (.cells pT.toList.toArray e)},?_,?_,by rw[<-hw];exact Hv.2.2.1,by rw[<-hw];exact Hv.2.2.2⟩
     ·show(Instr.buildSlice t len _).run P w=.ok (.slice (some ⟨w.heap.size,0,none⟩) len len) _;have acv:¬len*n>2^ 24:=by omega
      have Ph:=Hv.1;simp only[jO]at Ph;by_cases h0:len*n=0
      ·rw[xN h0]at h1;simp only[Instr.buildSlice,cQ,cg hu,cK,bU hn,aq acv,ij,an h0];rw[show(Array.map (λx=>(#[]:Array ad)[x % (#[]:Array ad).size]!) (Array.range (len*n)))=#[]by rw[h0];simp,h1];simp[Ph]
      ·rw[Bm h0]at h1;simp only[Instr.buildSlice,cQ,cg hu,cK,bU hn,aq acv,ij,aq h0,Ck];rw[show(Array.map (λx=>z.cells[x % z.cells.size]!) (Array.range (len*n)))=P3 z (len*n)from rfl,h1];simp[Ph]
     ·rw[<-hv];have:=VR.slice (σ:=cx σ W.next ⟨w.heap.size,0,c.toList.length⟩) ⟨W.next,0,none⟩ len len len _ Hv.2.1 rfl (.known len hc2);simpa using this
    ·cases h
   ·cases h
  ·cases h
 ·cases h
def pJ(P:ah)(W:AW)(t:ag)(l c:ad):Option (ad×AW):=
 match P.underlying t with
 |some (.slice e)=>match nX P e,kG P e,(P.info? e).map (·.bytes),l,c with
  |some n,some z,some bytes,.int _ (.ofNat l),.int _ (.ofNat c)=>
   if l<=c/\c<9223372036854775808/\c*bytes<=281474976710656/\(kF z (c*n)).toList.all cC=true then
    some (W.new (.cells (kF z (c*n)).toList) λb W'=>(Value.slice (some ⟨b,0,none⟩) l c,W'))
   else none
  |_,_,_,_,_=>none
 |_=>none
def EU{n:Nat}(h:n<9223372036854775808):IntKind.i64.wrap (n:Int)=n:=by
 have e1:IntKind.i64.bits=64:=rfl;have e2:IntKind.i64.signed=true:=rfl;simp only[IntKind.wrap,e1,e2];have:(n:Int) % (2^ 64:Int)=n:=by omega
 rw[this];simp;omega
def La(hW:bI σ W w.heap){t:ag}{l l' c c':ad}{v:ad}{W':AW}
 (h:pJ P W t l c=some (v,W'))(hl:VR σ l l')(hc:VR σ c c'):
 ∃σ' v' w',(Instr.makeSlice t l' c').run P w=.ok v' w'/\VR σ' v v'/\bI σ' W' w'.heap/\fR σ W w σ' W' w':=by
 unfold pJ at h;split at h
 ·rename_i e hu;split at h
  ·rename_i n z bytes kl l kc c hn hz hb;cases hl;cases hc;obtain⟨Ck,yY⟩:=jd hz w;split at h
   ·rename_i ws;obtain⟨c1,c2,c3,c4⟩:=ws;injection h with h;rw[AW.dU]at h;injection h with hv hw;have hi:∃i,P.info? e=some i/\i.bytes=bytes:=by
     cases hi:P.info? e with
     |none=>rw[hi]at hb;cases hb
     |some i=>rw[hi]at hb;simp at hb;exact⟨i,rfl,hb⟩
    obtain⟨i,hi,hib⟩:=hi;have Su:LR σ (kF z (c*n)).toList (kF z (c*n)).toList:=
     LR.qh (λ_=>fK) c4
    have Hv:=CM (P:=P) hW e Su;refine⟨_,.slice (some ⟨w.heap.size,0,none⟩) l c,{w with heap:=w.heap.push (.cells (kF z (c*n)).toList.toArray e)},?_,?_,by rw[<-hw];exact Hv.2.2.1,by rw[<-hw];exact Hv.2.2.2⟩
    ·show(Instr.makeSlice t _ _).run P w=.ok (.slice (some ⟨w.heap.size,0,none⟩) l c) _;have hwl:IntKind.i64.wrap (Int.ofNat l)=(l:Int):=EU (by omega);have hwc:IntKind.i64.wrap (Int.ofNat c)=(c:Int):=EU c2;have Kk:(typeInfo e).run P w=.ok i w:=by simp[typeInfo,hi]
     have aou:(bytes:Int)*(c:Int)<=281474976710656:=by
      have:((c*bytes:Nat):Int)<=281474976710656:=by omega
      rw[Int.natCast_mul,Int.mul_comm]at this;exact this
     have Ph:=Hv.1;simp only[jO]at Ph;have VF:¬(((decide ((c:Int)<0)||decide ((i.bytes:Int)*(c:Int)>2^ 48))||decide ((l:Int)<0)||decide ((l:Int)>(c:Int)))=true):=by rw[hib];simp;omega
     simp only[Instr.makeSlice,cQ,cg hu,cK,asInt,asIntOf,ij,Kk,hwl,hwc];rw[aq (by simpa using VF)];by_cases h0:c*n=0
     ·rw[xN h0]at Ph|-;simp only[cQ,run_askRoom,cK,vq,bU hn,an h0,ij];rw[show(Array.map (λx=>(#[]:Array ad)[x % (#[]:Array ad).size]!) (Array.range (c*n)))=#[]by rw[h0];simp,Ph];simp
     ·rw[Bm h0]at Ph|-;simp only[cQ,run_askRoom,cK,vq,bU hn,aq h0,Ck,ij];rw[show(Array.map (λx=>z.cells[x % z.cells.size]!) (Array.range (c*n)))=P3 z (c*n)from rfl,Ph];simp
    ·rw[<-hv];have:=VR.slice (σ:=cx σ W.next ⟨w.heap.size,0,(kF z (c*n)).toList.length⟩) ⟨W.next,0,none⟩ l c c _ Hv.2.1 rfl (.known c (by unfold eJ;omega));simpa using this
   ·cases h
  ·cases h
 ·cases h
end
end
section
variable [ai]
def OR(σ:dx):Option ad->Option ad->Prop
 |none,none=>True
 |some v,some v'=>VR σ v v'
 |_,_=>False
def kJ:ad->Option Nat
 |.int _ (.ofNat n)=>some n
 |_=>none
def ft(v:Option ad)(d:Nat):Option Nat:=match v with|none=>some d|some v=>kJ v
def A8{σ:dx}{v v':ad}{n:Nat}(h:kJ v=some n)(hv:VR σ v v'):∃k,v'=.int k (n:Int):=by
 unfold kJ at h;split at h
 ·injection h with h;subst h;cases hv;exact⟨_,rfl⟩
 ·cases h
section
variable {P:ah} {σ:dx} {W:AW} {w:ar}
def oC(k:be)(n y:Nat)(zC:BoundsCode)(h:n<=y)(w:ar):(Instr.sliceBound (.int k (n:Int)) y zC).run P w=.ok n w:=by
 have:0<=(n:Int)/\(n:Int)<=(y:Int):=by omega
 simp[Instr.sliceBound,asIntOf,this]
def rC(sl:Bool)(len cap:Nat){lo hi mx Iv sf mx':Option ad}{l h m:Nat}(h1:OR σ lo Iv)(h2:OR σ hi sf)(h3:OR σ mx mx')
 (hl:ft lo 0=some l)(hh:ft hi len=some h)(hm:ft mx cap=some m)(hmx:mx.isSome=true->hi.isSome=true)
 (a1:l<=h)(a2:hi.isSome=true->h<=m)(a3:m<=cap)(w:ar):(Instr.sliceBounds sl len cap Iv sf mx').run P w=.ok (l,h,m) w:=by
 have one:∀{v v':Option ad} {d n:Nat},OR σ v v'->ft v d=some n->(v=none/\v'=none/\n=d)\/(v.isSome=true/\∃k,v'=some (.int k (n:Int))):=by
  intro v v' d n ho hb;cases v with
  |none=>cases v' with
   |none=>simp only[ft]at hb;injection hb with hb;exact .inl ⟨rfl,rfl,hb.symm⟩
   |some v'=>exact ho.elim
  |some v=>cases v' with
   |none=>exact ho.elim
   |some v'=>obtain⟨k,rfl⟩:=A8 hb ho;exact .inr ⟨rfl,k,rfl⟩
 have hA:∀k zC,(Instr.sliceBound (.int k (m:Int)) cap zC).run P w=.ok m w:=λk zC=>oC k m cap zC a3 w
 have hC:∀k zC,(Instr.sliceBound (.int k (l:Int)) h zC).run P w=.ok l w:=λk zC=>oC k l h zC a1 w
 rcases one h3 hm with⟨e1,rfl,e3⟩|⟨e1,k3,rfl⟩
 ·subst e3;rcases one h2 hh with⟨f1,rfl,f3⟩|⟨f1,k2,rfl⟩
  ·subst f3;rcases one h1 hl with⟨g1,rfl,g3⟩|⟨g1,k1,rfl⟩
   ·subst g3;simp[Instr.sliceBounds]
   ·simp[Instr.sliceBounds,hC]
  ·have hB:∀zC,(Instr.sliceBound (.int k2 (h:Int)) m zC).run P w=.ok h w:=λzC=>oC k2 h m zC (a2 f1) w
   rcases one h1 hl with⟨g1,rfl,g3⟩|⟨g1,k1,rfl⟩
   ·subst g3;simp[Instr.sliceBounds,hB]
   ·simp[Instr.sliceBounds,hB,hC]
 ·rcases one h2 hh with⟨f1,rfl,f3⟩|⟨f1,k2,rfl⟩
  ·subst f1;exact absurd (hmx e1) (by simp)
  ·have hB:∀zC,(Instr.sliceBound (.int k2 (h:Int)) m zC).run P w=.ok h w:=λzC=>oC k2 h m zC (a2 f1) w
   rcases one h1 hl with⟨g1,rfl,g3⟩|⟨g1,k1,rfl⟩
   ·subst g3;simp[Instr.sliceBounds,hA,hB]
   ·simp[Instr.sliceBounds,hA,hB,hC]
def mz(P:ah)(t:ag)(x:ad)(lo hi mx:Option ad):Option ad:=
 match P.underlying t,x with
 |some (.slice e),.slice (some a) len cap=>
  match nX P e,ft lo 0,ft hi len with
  |some z,some l,some h=>
   if l<=h then
    match mx with
    |none=>
     if cap=eJ+z/\0<z then(if h<=len then some (.slice (some (a.add (l*z))) (h-l) cap)else none)
     else if cap<eJ/\h<=cap then some (.slice (some (if cap=l then a else a.add (l*z))) (h-l) (cap-l))else none
    |some mv=>match ft (some mv) 0 with
     |some m=>if hi.isSome=true/\h<=m/\m<eJ/\((cap=eJ+z/\0<z/\m<=len)\/(cap<eJ/\m<=cap))then some (.slice (some (if m=l then a else a.add (l*z))) (h-l) (m-l))else none
     |none=>none
   else none
  |_,_,_=>none
 |some (.slice e),.slice none len cap=>
  match nX P e,ft lo 0,ft hi len,mx with
  |some _,some l,some h,none=>if l<=h/\h<=cap then some (.slice none (h-l) (cap-l))else none
  |_,_,_,_=>none
 |some (.array n e),.pointer (some a)=>
  match nX P e,ft lo 0,ft hi n,mx with
  |some z,some l,some h,none=>if l<=h/\h<=n/\n<eJ then some (.slice (some (if n=l then a else a.add (l*z))) (h-l) (n-l))else none
  |_,_,_,_=>none
 |_,_=>none
def Mf.inv{g:At}{off l c c':Nat}(h:Mf g off l c c'):(c<eJ/\c'=c)\/∃z,0<z/\c=eJ+z/\l<=c'/\g.s+off+c'*z=g.e:=by
 cases h with
 |known _ h=>exact .inl ⟨h,rfl⟩
 |open_ z _ hz hl h=>exact .inr ⟨z,hz,rfl,hl,h⟩
def Mf.max{g:At}{off l c c':Nat}(h:Mf g off l c c'):c'<eJ/\(eJ<=c->c'<=maxLen):=by
 cases h with
 |known _ h=>exact⟨h,λx=>absurd x (by omega)⟩
 |open_ z _ hz hl h hb=>exact⟨by unfold maxLen at hb;unfold eJ;omega,λ_=>hb⟩
def VI{t:ag}{x x' v:ad}{lo hi mx Iv sf mx':Option ad}(h:mz P t x lo hi mx=some v)(hx:VR σ x x')
 (h1:OR σ lo Iv)(h2:OR σ hi sf)(h3:OR σ mx mx')(w:ar):∃v',(Instr.sliceAt t x' Iv sf mx').run P w=.ok v' w/\VR σ v v':=by
 unfold mz at h;split at h
 ·rename_i e a len cap hu;split at h
  ·rename_i z l hh hz zB Uc;split at h
   ·rename_i hlh;have run:∀(A':Option bg) (CD m:Nat),ft mx CD=some m->(mx.isSome=true->hi.isSome=true)->(hi.isSome=true->hh<=m)->m<=CD->
     (Instr.sliceAt t (.slice A' len CD) Iv sf mx').run P w=.ok (.slice (if m=l then A' else A'.map (·.add (l*z))) (hh-l) (m-l)) w:=by
     intro A' CD m b1 b2 b3 b4;have hb:=rC (P:=P) true len CD h1 h2 h3 zB Uc b1 b2 hlh b3 b4 w;simp only[Instr.sliceAt,cQ,cg hu,cK,Instr.slice,hb,bU hz,ij]
    cases mx with
    |none=>
     simp only at h;split at h
     ·rename_i vO;obtain⟨rfl,ZK⟩:=vO;split at h
      ·rename_i aM;injection h with h;subst h;cases hx with
       |slice _ _ _ c' g hg hs hc=>
        rcases hc.inv with⟨hk,_⟩|⟨z',Ck,hzz,hlc,BX⟩
        ·exact absurd hk (by omega)
        ·refine⟨_,run (some _) c' c' rfl (by simp) (λ_=>by omega) (aR _),?_⟩;by_cases Hs:c'=l
         ·subst Hs;have:hh-c'=0:=by omega
          rw[this,Bb,an rfl];exact .dO _ _ _ g (by simpa[jp]using hg) (.inr (by omega))
         ·rw[aq Hs];simp only[dq,dv];have avl:z=z':=by omega
          subst avl;have:=VR.slice (σ:=σ) (a.add (l*z)) (hh-l) (eJ+z) (c'-l) g (by rw[jp];exact hg) (sV _ _ hs)
           (by rw[uG];refine .open_ z _ ZK (by omega) ?_ (dW (Nat.sub_le _ _) (hc.max.2 (by omega)));rw[Nat.sub_mul];have:l*z<=c'*z:=mo _ (by omega);omega)
          rw[uG]at this;simpa[gV]using this
       |dO _ a' _ g hg hc=>
        have SE:hh=0:=by omega
        have hl1:l=0:=by omega
        subst SE;subst hl1;refine⟨_,run (some a') 0 0 rfl (by simp) (λ_=>by omega) (aR _),?_⟩;simp only[bi];exact .dO _ _ _ g (by simpa[jp]using hg) (.inr (by omega))
      ·cases h
     ·split at h
      ·rename_i yW qM;injection h with h;subst h;cases hx with
       |slice _ _ _ c' g hg hs hc=>
        rcases hc.inv with⟨hk,rfl⟩|⟨z',Ck,hzz,hlc,BX⟩
        ·refine⟨_,run (some _) c' c' rfl (by simp) (λ_=>qM.2) (aR _),?_⟩;by_cases Hs:c'=l
         ·subst Hs;simp only[bi];exact .slice a _ _ _ g hg hs (.known _ (by omega))
         ·rw[aq Hs,aq Hs];simp only[dq,dv];have:=VR.slice (σ:=σ) (a.add (l*z)) (hh-l) (c'-l) (c'-l) g (by rw[jp];exact hg) (sV _ _ hs) (.known _ (by omega));rw[uG]at this;simpa[gV]using this
        ·exact absurd qM.1 (by omega)
       |dO _ a' _ g hg hc=>
        have hc0:cap=0:=by omega
        subst hc0;have SE:hh=0:=by omega
        have hl1:l=0:=by omega
        subst SE;subst hl1;refine⟨_,run (some a') 0 0 rfl (by simp) (λ_=>by omega) (aR _),?_⟩;simp only[bi];exact .dO _ _ _ g (by simpa[jp]using hg) (.inl rfl)
      ·cases h
    |some mv=>
     simp only at h;split at h
     ·rename_i m hm;split at h
      ·rename_i ws;obtain⟨c1,c2,c3,c4⟩:=ws;injection h with h;subst h;cases hx with
       |slice _ _ _ c' g hg hs hc=>
        have hmc:m<=c':=by rcases hc.inv with⟨hk,_⟩|⟨z',Ck,hzz,hlc,BX⟩<;>omega
        refine⟨_,run (some _) c' m hm (λ_=>c1) (λ_=>c2) hmc,?_⟩;by_cases Hs:m=l
        ·subst Hs;simp only[bi];exact .slice a _ _ _ g hg hs (.known _ (by omega))
        ·rw[aq Hs,aq Hs];simp only[dq,dv];have:=VR.slice (σ:=σ) (a.add (l*z)) (hh-l) (m-l) (m-l) g (by rw[jp];exact hg) (sV _ _ hs) (.known _ (by omega));rw[uG]at this;simpa[gV]using this
       |dO _ a' _ g hg hc=>
        have hm0:m=0:=by omega
        subst hm0;have SE:hh=0:=by omega
        have hl1:l=0:=by omega
        subst SE;subst hl1;refine⟨_,run (some a') 0 0 hm (λ_=>c1) (λ_=>by omega) (aR _),?_⟩;simp only[bi];exact .dO _ _ _ g (by simpa[jp]using hg) (.inl rfl)
      ·cases h
     ·cases h
   ·cases h
  ·cases h
 ·rename_i e len cap hu;split at h
  ·rename_i z l hh hz zB Uc;split at h
   ·rename_i hc;injection h with h;subst h;cases hx;have hb:=rC (P:=P) (mx:=none) true len cap h1 h2 h3 zB Uc rfl (by simp) hc.1 (λ_=>hc.2) (aR _) w;refine⟨.slice none (hh-l) (cap-l),?_,.J5 _ _⟩;simp only[Instr.sliceAt,cQ,cg hu,cK,Instr.slice,hb,bU hz,ij];simp
   ·cases h
  ·cases h
 ·rename_i n e a hu;split at h
  ·rename_i z l hh hz zB Uc;split at h
   ·rename_i hc;injection h with h;subst h;cases hx with
    |ptr _ g hg hs=>
     have hb:=rC (P:=P) (mx:=none) false n n h1 h2 h3 zB Uc rfl (by simp) hc.1 (λ_=>hc.2.1) (aR _) w;refine⟨.slice (some (if n=l then⟨g.B,g.s+a.off,none⟩else(⟨g.B,g.s+a.off,none⟩:bg).add (l*z))) (hh-l) (n-l),?_,?_⟩
     ·simp only[Instr.sliceAt,cQ,cg hu,cK,Instr.sureAddr,ij,hb,bU hz]
     ·by_cases Hs:n=l
      ·subst Hs;simp only[bi];exact .slice a _ _ _ g hg hs (.known _ (by omega))
      ·rw[aq Hs,aq Hs];simp only[dv];have:=VR.slice (σ:=σ) (a.add (l*z)) (hh-l) (n-l) (n-l) g (by rw[jp];exact hg) (sV _ _ hs) (.known _ (by omega));rw[uG]at this;simpa[gV]using this
   ·cases h
  ·cases h
 ·cases h
end
end
section
variable [ai]
section
variable {P:ah} {σ:dx} {W:AW} {w w':ar}
def bI.O2(h:bI σ W w.heap){b off:Nat}{o o':dH}{g:At}(hb:W.get b=some o)(uN:∀cs,o≠ .ro cs)(hg:σ b=some g)
 (vS:w'.heap.size=w.heap.size)(hos:w'.os=w.os)(htp:w'.tape=w.tape)(E6:w'.output=w.output)
 (mA:∀B,B≠g.B->w'.heap[B]? =w.heap[B]?)
 {c c':Array ad}{t:ag}(hc:w.heap[g.B]? =some (.cells c t (0,0)))(yT:w'.heap[g.B]? =some (.cells c' t (0,0)))(nT:c'.size=c.size)
 (zT:∀i,i<g.s+off\/g.e<=i->c'[i]? =c[i]?)
 (BW:pw (cx σ W.next ⟨g.B,g.s+off,g.e⟩) w'.heap ⟨g.B,g.s+off,g.e⟩ o'):
 bI (cx σ W.next ⟨g.B,g.s+off,g.e⟩) ((W.kill b).add o') w'.heap/\fR σ W w (cx σ W.next ⟨g.B,g.s+off,g.e⟩) ((W.kill b).add o') w':=by
 have E1:=h.fresh;have hs:Sub σ (cx σ W.next ⟨g.B,g.s+off,g.e⟩):=dT E1;have hbn:=h.qP b g hg;have hk:∀c o,c≠W.next->((W.kill b).add o').get c=some o->c≠b/\W.get c=some o:=λc o hcn hx=>by
  rw[AW.aG _ _ (by rw[AW.eK];exact bh hcn)]at hx;by_cases LH:c=b
  ·subst LH;rw[AW.DM]at hx;cases hx
  ·rw[AW.dm _ (bh LH)]at hx;exact⟨LH,hx⟩
 have aqb:((W.kill b).add o').get W.next=some o':=AW.aL (W.kill b) _;have sS:∀c k,cx σ W.next ⟨g.B,g.s+off,g.e⟩ c=some k->(c=W.next/\k=⟨g.B,g.s+off,g.e⟩)\/(c≠W.next/\σ c=some k):=λc k hx=>by
  unfold cx at hx;split at hx
  ·rename_i he;injection hx with hx;exact .inl ⟨he,hx.symm⟩
  ·rename_i he;exact .inr ⟨he,hx⟩
 have ak5:∀cs,W.get b≠some (.ro cs):=λcs hx=>by rw[hb]at hx;injection hx with hx;exact uN cs hx
 refine⟨⟨?_,?_,?_,?_⟩,⟨hs,?_,?_,hos,htp,E6,?_,?_,?_⟩⟩
 ·intro x hx;have hx':W.next+1<=x:=hx;cases hy:((W.kill b).add o').get x with
  |none=>rfl
  |some o=>have:=(hk x o (by omega) hy).2;rw[h.free x (by omega)]at this;cases this
 ·intro x k hx;rcases sS x k hx with⟨rfl,rfl⟩|⟨_,h2⟩
  ·exact⟨Nat.lt_succ_self _,by rw[vS];exact hbn.2⟩
  ·have:=h.qP x k h2;exact⟨Nat.lt_succ_of_lt this.1,by rw[vS];exact this.2⟩
 ·intro x o2 k hx hy;rcases sS x k hy with⟨rfl,rfl⟩|⟨h1,h2⟩
  ·rw[aqb]at hx;injection hx with hx;subst hx;exact BW
  ·obtain⟨Z0,hxg⟩:=hk x o2 h1 hx;refine pw.mono hs ?_;have gE:=h.obj x o2 k hxg h2;by_cases hB:k.B=g.B
   ·have hd:=h.vN x b o2 _ k g Z0 hxg hb h2 hg (rwR uN);have ke:k.e<=g.s\/g.e<=k.s:=hd.resolve_left (λfe=>fe hB);cases o2 with
    |cells LC=>obtain⟨c0,t0,fr0,e1,e0,e2,e3,e4⟩:=gE;rw[hB,hc]at e1;injection e1 with e1;injection e1 with e1 e1';subst e1;refine⟨c',t,(0,0),by rw[hB];exact yT,λ_=>rfl,e2,by omega,λi v hv=>?_⟩;obtain⟨v',f1,f2⟩:=e4 i v hv;have hi:i<LC.length:=(da.1 hv).1;exact⟨v',by rw[zT _ (by omega)];exact f1,f2⟩
    |ro LC=>obtain⟨c0,t0,fr,e1,e2,e3⟩:=gE;rw[hB,hc]at e1;injection e1 with e1;injection e1 with e1 e1';subst e1;refine⟨c',t,(0,0),by rw[hB];exact yT,e2,λi v hv=>?_⟩;have hi:i<LC.length:=(da.1 hv).1;obtain⟨v',f1,f2⟩:=e3 i v hv;exact⟨v',by rw[zT _ (by omega)];exact f1,f2⟩
    |map es nP=>obtain⟨_,_,iM,e1,_⟩:=gE;rw[hB,hc]at e1;cases e1
    |loop st qL R nt ps aB4 bd=>obtain⟨_,_,r,e1,_⟩:=gE;rw[hB,hc]at e1;cases e1
    |qJ s pos=>obtain⟨_,_,e1⟩:=gE;rw[hB,hc]at e1;cases e1
    |tc t2 LC=>obtain⟨a1,a2,a3,c0,e1,e2,e3,e4⟩:=gE;rw[hB,hc]at e1;injection e1 with e1;injection e1 with e1 e1';subst e1;subst e1';refine⟨a1,a2,a3,c',by rw[hB];exact yT,e2,by omega,λi v hv=>?_⟩;obtain⟨v',f1,f2⟩:=e4 i v hv;have hi:i<LC.length:=(da.1 hv).1;exact⟨v',by rw[zT _ (by omega)];exact f1,f2⟩
   ·exact gE.same (mA _ hB)
 ·intro b1 b2 o1 o2 g1 g2 fe h1 h2 k1 k2 hr;have sub:∀x o2 k,x≠W.next->((W.kill b).add o').get x=some o2->σ x=some k->g.B≠k.B\/g.e<=k.s\/k.e<=g.s+off:=λx o2 k hxn hx hxk=>by
   obtain⟨Z0,hxg⟩:=hk x o2 hxn hx;rcases h.vN b x _ o2 g k (bh Z0) hb hxg hg hxk (rwL uN)with r|r|r
   ·exact .inl r
   ·exact .inr (.inl r)
   ·exact .inr (.inr (by omega))
  rcases sS b1 g1 k1 with⟨rfl,rfl⟩|⟨x1,y1⟩
  ·rcases sS b2 g2 k2 with⟨rfl,rfl⟩|⟨x2,y2⟩
   ·exact absurd rfl fe
   ·exact sub b2 o2 g2 x2 h2 y2
  ·rcases sS b2 g2 k2 with⟨rfl,rfl⟩|⟨x2,y2⟩
   ·rcases sub b1 o1 g1 x1 h1 y1 with r|r|r
    ·exact .inl (bh r)
    ·exact .inr (.inr r)
    ·exact .inr (.inl r)
   ·exact h.vN _ _ _ _ _ _ fe (hk _ _ x1 h1).2 (hk _ _ x2 h2).2 y1 y2 hr
 ·intro x cs0 hx;have Z0:x≠b:=λe=>by subst e;exact ak5 cs0 hx
  have hxn:W.next≠x:=λe=>by subst e;rw[h.free _ (aR _)]at hx;cases hx
  rw[AW.aG _ _ (by rw[AW.eK];exact hxn),AW.dm _ (bh Z0)];exact hx
 ·rw[vS];exact aR _
 ·intro B hB hm;exact mA B (λe=>by subst e;exact hm ⟨b,g,hg,rfl,ak5⟩)
 ·intro x o2 hx hxk;have Z0:x≠b:=λe=>by subst e;rw[hg]at hxk;cases hxk
  have hxn:W.next≠x:=λe=>by subst e;rw[h.free _ (aR _)]at hx;cases hx
  refine⟨by rw[AW.aG _ _ (by rw[AW.eK];exact hxn),AW.dm _ (bh Z0)];exact hx,?_⟩;unfold cx;rw[aq (bh hxn)];exact hxk
 ·intro x k ya hB;rcases sS x k ya with⟨rfl,rfl⟩|⟨h1,h2⟩
  ·exact .inr ⟨b,g,hg,rfl,ak5⟩
  ·exact .inl h2
def bI.akb(h:bI σ W w.heap){b off:Nat}{cs cU:List ad}{g:At}(hb:W.get b=some (.cells cs))(hg:σ b=some g)
 (vS:w'.heap.size=w.heap.size)(hos:w'.os=w.os)(htp:w'.tape=w.tape)(E6:w'.output=w.output)
 (mA:∀B,B≠g.B->w'.heap[B]? =w.heap[B]?)
 {c c':Array ad}{t:ag}(hc:w.heap[g.B]? =some (.cells c t (0,0)))(yT:w'.heap[g.B]? =some (.cells c' t (0,0)))(nT:c'.size=c.size)
 (zT:∀i,i<g.s+off\/g.e<=i->c'[i]? =c[i]?)(dS:g.s+off+cU.length<=g.e)
 (nH:∀(i:Nat) (v:ad),cU[i]? =some v->∃v',c'[g.s+off+i]? =some v'/\VR σ v v'):
 bI (cx σ W.next ⟨g.B,g.s+off,g.e⟩) ((W.kill b).add (.cells cU)) w'.heap/\fR σ W w (cx σ W.next ⟨g.B,g.s+off,g.e⟩) ((W.kill b).add (.cells cU)) w':=by
 obtain⟨c0,t0,fr0,q1,q0,q2,q3,q4⟩:=h.obj b _ g hb hg;rw[hc]at q1;injection q1 with q1;injection q1 with q1 q1';subst q1;refine h.O2 hb (λ_=>by simp) hg vS hos htp E6 mA hc yT nT zT ⟨c',t,(0,0),yT,λ_=>rfl,dS,by simp only;omega,λi v hv=>?_⟩;obtain⟨v',f1,f2⟩:=nH i v hv;exact⟨v',f1,f2.mono (dT h.fresh)⟩
def cp(W:AW)(x:ad)(m:Nat):Option (List ad):=
 match x with
 |.slice none _ _=>if m=0 then some []else none
 |.slice (some a) len _=>if m=0 then some []else if len=0 then none else pD W a.block a.off m
 |_=>none
def Cd(h:bI σ W w.heap){x x':ad}{n z:Nat}{l:List ad}(hr:cp W x (n*z)=some l)(hx:VR σ x x'):
 ∃l',LR σ l l'/\l.length=n*z/\(Builtin.firstCells z n x').run P w=.ok l'.toArray w:=by
 have h0:∀(a':bg),(loadCells a' 0).run P w=.ok #[] w:=λa'=>by simp[loadCells,loadCellsFrom]
 unfold cp at hr;split at hr
 ·split at hr
  ·rename_i hm;injection hr with hr;subst hr;cases hx;exact⟨[],.nil,by simp[hm],by simp[Builtin.firstCells]⟩
  ·cases hr
 ·rename_i a _ _;split at hr
  ·rename_i hm;injection hr with hr;subst hr;cases hx
   ·exact⟨[],.nil,by simp[hm],by simp[Builtin.firstCells,hm,h0]⟩
   ·exact⟨[],.nil,by simp[hm],by simp[Builtin.firstCells,hm,h0]⟩
  ·rename_i hm;split at hr
   ·cases hr
   ·rename_i SE;cases hx with
    |slice _ _ _ c' g hg hs hc=>obtain⟨l',h1,h2,_,h4⟩:=Gw (P:=P) h hr hg;exact⟨l',h1,h2,by simp[Builtin.firstCells,h4]⟩
    |dO _ a' _ g hg hc=>exact absurd rfl SE
 ·cases hr
def Zw(JE:Nat):∀(r c:Nat),c<=2*JE+192->Builtin.growBy JE r c<=2*JE+192:=by
 intro r;induction r with
 |zero=>intro c h;exact h
 |succ r ih=>
  intro c h;simp only[Builtin.growBy];split
  ·exact h
  ·exact ih _ (by omega)
def CW{JE c:Nat}(h:c<JE):Builtin.nextslicecap JE c<=2*JE+192:=by
 unfold Builtin.nextslicecap;split
 ·omega
 ·split
  ·omega
  ·exact Zw JE 4 c (by omega)
def nR(P:ah)(t:ag):Option ag:=match P.underlying t with|some (.slice e)=>some e|_=>none
def rW{t e:ag}(h:nR P t=some e):P.underlying t=some (.slice e):=by
 unfold nR at h;split at h
 ·rename_i e' hu;injection h with h;subst h;exact hu
 ·cases h
def dB(P:ah)(W:AW)(argTypes:Array ag)(s x:ad):Option (ad×AW):=
 match argTypes.toList with
 |[t0,t1]=>if t0=t1 then
  match nR P t0,s,x with
  |some e,.slice base bW CU,.slice xb n xc=>match nX P e,(P.info? e).map (λi=>(i.zero,i.bytes))with
   |some z,some (some zv,bytes)=>
    if 0<z/\zv.cells.size=z/\bW+n<1099511627776/\(2*(bW+n)+192)*bytes<=281474976710656 then
     if n=0 then(if bW<=CU then some (s,W)else none)
     else match cp W (.slice xb n xc) (n*z),cp W s (bW*z)with
      |some new,some yU=>
       if new.all one=true then
        if CU=eJ+z then
         match base with
         |some a=>match W.get a.block with
          |some (.cells _)=>some ((W.kill a.block).new (.cells (yU++new)) λb W'=>(Value.slice (some ⟨b,0,none⟩) (bW+n) (eJ+z),W'))
          |some (.tc e' cs)=>if e=e'/\z=1/\a.off=0/\cs.length=bW/\bW≠0/\ai.ex e=false then some ((W.kill a.block).new (.tc e (cs++new)) λb W'=>(Value.slice (some ⟨b,0,none⟩) (bW+n) (eJ+1),W'))else none
          |_=>none
         |none=>none
        else if CU<eJ then
         match base with
         |some a=>
          if bW+n<=CU then(rG W a.block (a.off+bW*z) new).map λW'=>(Value.slice (some a) (bW+n) CU,W')
          else some (W.new (.cells (yU++new)) λb W'=>(Value.slice (some ⟨b,0,none⟩) (bW+n) (eJ+z),W'))
         |none=>if bW=0/\CU=0 then some (W.new (.cells (yU++new)) λb W'=>(Value.slice (some ⟨b,0,none⟩) (bW+n) (eJ+z),W'))else none
        else none
       else none
      |_,_=>none
    else none
   |_,_=>none
  |_,_,_=>none
  else none
 |_=>none
def oO(zero:Array ad)(n:Nat):(Builtin.zeroCells zero n).size=n*zero.size:=by simp[Builtin.zeroCells]
def RP(hW:bI σ W w.heap)(e:ag){z:Nat}{zv:ad}{yU new po jS:List ad}{k:Nat}(cap:Nat)
 (h1:LR σ yU po)(h2:LR σ new jS)(hz:zv.cells.size=z)(ZK:0<z)(dS:yU.length+new.length=k*z)(qM:k<=cap/\cap<=maxLen):
 VR (cx σ W.next ⟨w.heap.size,0,cap*z⟩) (.slice (some ⟨W.next,0,none⟩) k (eJ+z)) (.slice (some ⟨w.heap.size,0,none⟩) k cap)/\
  bI (cx σ W.next ⟨w.heap.size,0,cap*z⟩) (W.add (.cells (yU++new))) ((w.drew.alloc (.cells (po.toArray++jS.toArray++Builtin.zeroCells zv.cells (cap-k)) e)).heap)/\
  fR σ W w (cx σ W.next ⟨w.heap.size,0,cap*z⟩) (W.add (.cells (yU++new))) (w.drew.alloc (.cells (po.toArray++jS.toArray++Builtin.zeroCells zv.cells (cap-k)) e)):=by
 have vS:(po.toArray++jS.toArray++Builtin.zeroCells zv.cells (cap-k)).size=cap*z:=by have awt:=qM.1;simp only[Array.size_append,xr,oO,hz,<-h1.1,<-h2.1];rw[dS,<-jE];congr 1;omega
 have:=hW.alloc (o:=.cells (yU++new)) (x:=.cells (po.toArray++jS.toArray++Builtin.zeroCells zv.cells (cap-k)) e) (e:=cap*z) (by
  refine⟨po.toArray++jS.toArray++Builtin.zeroCells zv.cells (cap-k),e,(0,0),by rw[x8];simp,λ_=>rfl,?_,by rw[vS];exact aR _,λi v hv=>?_⟩
  ·simp only[cD,dS,aI];exact mo _ qM.1
  ·obtain⟨v',a,b⟩:=(h1.append h2).get hv;refine⟨v',?_,b.mono (dT hW.fresh)⟩;have hi:i<(po++jS).length:=(da.1 a).1;rw[aI,Dj];rw[an (by simpa using hi)];simpa using a);have hv:=VR.slice (σ:=cx σ W.next ⟨w.heap.size,0,cap*z⟩) ⟨W.next,0,none⟩ k (eJ+z) cap ⟨w.heap.size,0,cap*z⟩ dM rfl (.open_ z cap ZK qM.1 (by simp) qM.2);exact⟨by simpa using hv,this.1,⟨this.2.sub,this.2.ro,this.2.size,rfl,rfl,rfl,this.2.keep,this.2.ghost,this.2.grow⟩⟩
def Qm(P:ah)(w:ar)(t ty e:ag)(z:Nat)(base:Option bg)(bW c' xc:Nat)(xb:Option bg)
 (hu:P.underlying t=some (.slice e))(hz:nX P e=some z)(aM:bW<=c'):
 (Builtin.append_ #[t,t] ty #[.slice base bW c',.slice xb 0 xc]).run P w=.ok (.slice base bW c') w:=by
 have h0:∀(a':bg),(loadCells a' 0).run P w=.ok #[] w:=λa'=>by simp[loadCells,loadCellsFrom]
 cases base<;>cases xb<;>simp[Builtin.append_,cg hu,bU hz,Builtin.lenOf,aM,Builtin.firstCells,h0,storeCells]
def zr(P:ah)(w w2:ar)(t ty e:ag)(z:Nat)(b off bW c' n xc:Nat)(xb:Option bg)(jS:List ad)
 (hu:P.underlying t=some (.slice e))(hz:nX P e=some z)
 (BW:(Builtin.firstCells z n (.slice xb n xc)).run P w=.ok jS.toArray w)(aM:bW+n<=c')(ug:(storeCells ⟨b,off+bW*z,none⟩ jS).run P w=.ok () w2):
 (Builtin.append_ #[t,t] ty #[.slice (some ⟨b,off,none⟩) bW c',.slice xb n xc]).run P w=.ok (.slice (some ⟨b,off,none⟩) (bW+n) c') w2:=by
 simp[Builtin.append_,cg hu,bU hz,Builtin.lenOf,aM,BW,dv,ug]
def Ni{e:ag}{zo:Option ad}{bytes z:Nat}(h:(P.info? e).map (λi=>(i.zero,i.bytes))=some (zo,bytes))(hz:nX P e=some z):
 ∃i,P.info? e=some i/\i.zero=zo/\i.bytes=bytes/\i.size=z:=by
 obtain⟨i,hi,h1,_⟩:=GG hz;rw[hi]at h;simp at h;exact⟨i,hi,h.1,h.2,h1⟩
def il(h:bI σ W w.heap){A:Option bg}{n c z:Nat}{x':ad}{l:List ad}(hr:cp W (.slice A n c) (n*z)=some l)(hx:VR σ (.slice A n c) x')(hn:0<n*z):
 ∃a' c' l',x'=.slice (some a') n c'/\LR σ l l'/\l.length=n*z/\(∀j v,l'[j]? =some v->w.cell? (a'.add j)=some v):=by
 unfold cp at hr;split at hr
 ·rw[bL]at hr;cases hr
 ·rename_i a len cc BX;injection BX with e1 e2 e3;rw[bL]at hr;split at hr
  ·cases hr
  ·rename_i SE;subst e1;subst e2;cases hx with
   |slice _ _ _ c' g hg hs hc=>obtain⟨l',h1,h2,h3,_⟩:=Gw (P:=(default:ah)) h hr hg;exact⟨_,c',l',rfl,h1,h2,λj v hj=>by rw[dv];exact h3 j v hj⟩
   |dO _ a' _ g hg hc=>exact absurd rfl SE
 ·cases hr
def Wc(JE yU:Nat)(e:ag)(t:Nat):JE<=(Question.appendCap JE yU e).cut t:=by simp only[Question.cut];omega
def Pv(hW:bI σ W w.heap)(e:ag){cs cU:List ad}{zs:Array ad}{cap:Nat}(h1:LR σ cs cU)(qM:cs.length+zs.size=cap)(h0:0<cs.length)(hm:cap<=maxLen)(IS:ai.ex e=false){c:Array ad}(hc:c=cU.toArray++zs):
 VR (cx σ W.next ⟨w.heap.size,0,cap⟩) (.slice (some ⟨W.next,0,none⟩) cs.length (eJ+1)) (.slice (some ⟨w.heap.size,0,none⟩) cs.length cap)/\
  bI (cx σ W.next ⟨w.heap.size,0,cap⟩) (W.add (.tc e cs)) ((w.drew.alloc (.cells c e)).heap)/\
  fR σ W w (cx σ W.next ⟨w.heap.size,0,cap⟩) (W.add (.tc e cs)) (w.drew.alloc (.cells c e)):=by
 subst hc;have hl:=h1.1;have vS:(cU.toArray++zs).size=cap:=by simp only[Array.size_append,xr];omega
 have:=hW.alloc (o:=.tc e cs) (x:=.cells (cU.toArray++zs) e) (e:=cap) (by refine⟨rfl,by simp only;omega,⟨hm,λhx=>by rw[IS]at hx;cases hx⟩,cU.toArray++zs,by rw[x8];simp,by simp only;omega,by simp only;omega,λi v hv=>?_⟩;obtain⟨v',a,b⟩:=h1.get hv;refine⟨v',?_,b.mono (dT hW.fresh)⟩;have hi:i<cU.length:=(da.1 a).1;rw[Dj,an (by simpa using hi)];simpa using a);have hv:=VR.slice (σ:=cx σ W.next ⟨w.heap.size,0,cap⟩) ⟨W.next,0,none⟩ cs.length (eJ+1) cap ⟨w.heap.size,0,cap⟩ dM rfl (.open_ 1 cap (by omega) (by omega) (by simp) hm);exact⟨by simpa using hv,this.1,⟨this.2.sub,this.2.ro,this.2.size,rfl,rfl,rfl,this.2.keep,this.2.ghost,this.2.grow⟩⟩
def St(hW:bI σ W w.heap){argTypes:Array ag}{ty:ag}{s x s' x' v:ad}{W':AW}(h:dB P W argTypes s x=some (v,W'))(hs:VR σ s s')(hx:VR σ x x'):
 ∃σ' v' w',(Builtin.append_ argTypes ty #[s',x']).run P w=.ok v' w'/\VR σ' v v'/\bI σ' W' w'.heap/\fR σ W w σ' W' w':=by
 unfold dB at h;split at h
 ·rename_i t0 t1 vL;have KH:argTypes=#[t0,t1]:=by rw[<-jO (xs:=argTypes),vL]
  split at h
  ·rename_i ht;subst ht;subst KH;split at h
   ·rename_i e base bW CU xb n xc he;have hu:=rW he;split at h
    ·rename_i z zv bytes hz Kk;obtain⟨i,hi,hiz,hib,GJ⟩:=Ni Kk hz;split at h
     ·rename_i hc;obtain⟨ZK,hzs,hsm,hby⟩:=hc;split at h
      ·rename_i Ws;subst Ws;split at h
       ·rename_i aM;injection h with h;injection h with hv hw;subst hv;subst hw;have mf:∀(c':Nat) (B:Option bg) (Wq:Option bg) (Hk:Nat),x'=.slice Wq 0 Hk->s'=.slice B bW c'->bW<=c'->
         ∃σ' v' w',(Builtin.append_ #[t0,t0] ty #[s',x']).run P w=.ok v' w'/\VR σ' (.slice base bW CU) v'/\bI σ' W w'.heap/\fR σ W w σ' W w':=by
         intro c' B Wq Hk e1 e2 e3;subst e1;subst e2;exact⟨σ,_,w,Qm P w t0 ty e z B bW c' Hk Wq hu hz e3,hs,hW,fR.refl _ _ _⟩
        have hxf:∃Wq Hk,x'=.slice Wq 0 Hk:=by cases hx<;>exact⟨_,_,rfl⟩
        obtain⟨Wq,Hk,rfl⟩:=hxf;cases hs with
        |J5 l c=>exact mf _ _ Wq Hk rfl rfl aM
        |slice a l c c' g hg wN ub=>exact mf _ _ Wq Hk rfl rfl (by rcases ub.inv with⟨_,h2⟩|⟨_,_,_,h2,_⟩<;>omega)
        |dO a a' c g hg ub=>exact mf _ _ Wq Hk rfl rfl (by omega)
       ·cases h
      ·rename_i Ws;split at h
       ·rename_i new yU BW gE;split at h
        ·rename_i JJ;have hnz:0<n*z:=p9 (by omega) ZK;obtain⟨xa,Hk,jS,rfl,Hv,Ue,hnc⟩:=il hW BW hx hnz;obtain⟨po,Ry,P9,EC⟩:=Cd (P:=P) hW gE hs;have hnf:(Builtin.firstCells z n (.slice (some xa) n Hk)).run P w=.ok jS.toArray w:=by
          have hl:jS.length=n*z:=by rw[<-Hv.1];exact Ue
          have:=IG (P:=P) w xa jS hnc;rw[hl]at this;simpa[Builtin.firstCells]using this
         have dS:yU.length+new.length=(bW+n)*z:=by rw[P9,Ue,jE]
         have grow:∀(a':bg) (c':Nat),s'=.slice (some a') bW c'->(0<bW->∀j u,po[j]? =some u->w.cell? (a'.add j)=some u)->c'<bW+n->
          ∃cap,(bW+n<=cap/\cap<=maxLen)/\(Builtin.append_ #[t0,t0] ty #[s',.slice (some xa) n Hk]).run P w=
           .ok (.slice (some ⟨w.heap.size,0,none⟩) (bW+n) cap) (w.drew.alloc (.cells (po.toArray++jS.toArray++Builtin.zeroCells zv.cells (cap-(bW+n))) e)):=by
          intro a' c' e1 e2 e3;subst e1;have qM:=CW e3;have yF:Builtin.nextslicecap (bW+n) c'*i.bytes<=281474976710656:=by have:=mo i.bytes qM;rw[hib]at this|-;omega
          refine⟨_,⟨Wc _ _ _ _,Iu w (bW+n) c' e (by unfold maxLen;omega)⟩,run_append_grow (P:=P) w t0 ty e i zv hu hi hiz a' bW c' po (by rw[<-Ry.1,P9,GJ]) (λj u hj=>?_) xa n Hk jS (by rw[<-Hv.1,Ue,GJ]) hnc e3 (by omega) yF⟩;refine e2 ?_ j u hj;rcases Nat.eq_zero_or_pos bW with h0|h0
          ·have h1:=P9;rw[h0,uV,Ry.1]at h1;have:=(da.1 hj).1;omega
          ·exact h0
         have aic:=λ(cap:Nat) (qM:bW+n<=cap/\cap<=maxLen)=>RP (w:=w) hW e cap Ry Hv hzs ZK dS qM
         split at h
         ·rename_i vO;split at h
          ·rename_i a;split at h
           ·rename_i cs dX;injection h with h;rw[AW.dU]at h;injection h with hv hw;have uN:∀cs,W.get a.block≠some (.ro cs):=λcs hx=>by rw[dX]at hx;cases hx
            have hmp:∃g0,σ a.block=some g0:=by cases hs with|slice _ _ _ c' g hg wN ub=>exact⟨g,hg⟩|dO _ a' _ g hg ub=>exact⟨g,hg⟩
            obtain⟨g0,hg0⟩:=hmp;obtain⟨hWk,hEk⟩:=hW.kill uN hg0;have aiV:∀(cap:Nat),(bW+n<=cap/\cap<=maxLen)->(Builtin.append_ #[t0,t0] ty #[s',.slice (some xa) n Hk]).run P w=
             .ok (.slice (some ⟨w.heap.size,0,none⟩) (bW+n) cap) (w.drew.alloc (.cells (po.toArray++jS.toArray++Builtin.zeroCells zv.cells (cap-(bW+n))) e))->
             ∃σ' v' w',(Builtin.append_ #[t0,t0] ty #[s',.slice (some xa) n Hk]).run P w=.ok v' w'/\VR σ' v v'/\bI σ' W' w'.heap/\fR σ W w σ' W' w':=by
             intro cap qM lZ;obtain⟨g1,g2,g3⟩:=RP (w:=w) hWk e cap Ry Hv hzs ZK dS qM;exact⟨_,_,_,lZ,by rw[<-hv];exact g1,by rw[<-hw];exact g2,by rw[<-hw];exact hEk.trans g3⟩
            cases hs with
            |dO _ a' _ g hg ub=>obtain⟨cap,h1,h2⟩:=grow a' 0 rfl (λhx=>absurd hx (by omega)) (by omega);exact aiV cap h1 h2
            |slice _ _ _ c' g hg wN ub=>
             rcases ub.inv with⟨hk,_⟩|⟨z',Ck,hzz,hlc,BX⟩
             ·exact absurd hk (by omega)
             ·have yY:z'=z:=by omega
              subst yY;obtain⟨c0,ct,fr0,q1,q0,q2,q3,q4⟩:=hW.obj a.block _ g dX hg;by_cases yF:bW+n<=c'
              ·have hcz:0<c'*z':=p9 (by omega) ZK;obtain rfl:=q0 (by omega);have aou:(bW+n)*z'<=c'*z':=mo _ yF;have hml:bW*z'+n*z'=(bW+n)*z':=(jE _ _ _).symm;have ug:=IU (P:=P) g.B (g.s+a.off+bW*z') ct jS 0 c0 w q1 (by rw[<-Hv.1,Ue];omega) (II Hv JJ);simp only[eQ]at ug;have lZ:=zr P w _ t0 ty e z' g.B (g.s+a.off) bW c' n Hk (some xa) jS hu hz hnf yF ug;have av5:jS.length=n*z':=by rw[<-Hv.1];exact Ue
               have az1:po.length=bW*z':=by rw[<-Ry.1];exact P9
               have Ik:=oE c0.toList (g.s+a.off+bW*z') jS (by simp;omega);have qB:∀j u,yU[j]? =some u->∃u',c0[g.s+a.off+j]? =some u'/\VR σ u u':=by
                intro j u hj;have ZZ:j<bW*z':=by rw[<-P9];exact(da.1 hj).1
                have GZ:0<bW*z':=by omega
                obtain⟨a2,c2,l2,e2,l2r,l2l,l2c⟩:=il hW gE (VR.slice a bW _ c' g hg wN ub) GZ;injection e2 with e2 _ _;injection e2 with e2;subst e2;obtain⟨u',f1,f2⟩:=l2r.get hj;have:=l2c j u' f1;rw[dv]at this;simp only[World.cell?,q1,vg,gY,b9]at this;exact⟨u',this,f2⟩
               have Sa:=hW.akb (w':=w.setRow g.B (c0.toList.take (g.s+a.off+bW*z')++jS++c0.toList.drop (g.s+a.off+bW*z'+jS.length)).toArray)
                (b:=a.block) (off:=a.off) (cU:=yU++new) dX hg (by simp[World.setRow]) rfl rfl rfl (λB hB=>kS w g.B B _ hB) q1 (wY w g.B c0 _ ct _ q1) (by simp;omega)
                (by intro j hj;have:=Ik j;rw[bL]at this;simpa using this)
                (by rw[cD,dS];omega)
                (by
                  intro j u hj;have h2:=Ik (g.s+a.off+j);rw[xi]at hj;split at hj
                  ·rename_i hjl;rw[bL]at h2;obtain⟨u',f1,f2⟩:=qB j u hj;exact⟨u',by rw[<-f1];simpa using h2,f2⟩
                  ·rename_i hjl;have hjn:=(da.1 hj).1;rw[kH]at h2;obtain⟨u',f1,f2⟩:=Hv.get hj;rw[show g.s+a.off+j-(g.s+a.off+bW*z')=j-yU.length by omega,f1]at h2;exact⟨u',by simpa using h2,f2⟩)
               have hvr:=VR.slice (σ:=cx σ W.next ⟨g.B,g.s+a.off,g.e⟩) ⟨W.next,0,none⟩ (bW+n) (eJ+z') c' ⟨g.B,g.s+a.off,g.e⟩ dM rfl (.open_ z' c' ZK yF (by simp only[eQ];exact BX) (ub.max.2 (by omega)));simp only[eQ]at hvr;exact⟨_,_,_,lZ,by rw[<-hv];exact hvr,by rw[<-hw];exact Sa.1,by rw[<-hw];exact Sa.2⟩
              ·obtain⟨cap,h1,h2⟩:=grow _ c' rfl (λGZ j u hj=>by
                have LP:0<bW*z':=p9 GZ ZK;obtain⟨a2,c2,l2,e2,l2r,l2l,l2c⟩:=il hW gE (VR.slice a bW _ c' g hg wN ub) LP;injection e2 with e2 _ _;injection e2 with e2;subst e2;have OB:(Builtin.firstCells z' bW (.slice (some ⟨g.B,g.s+a.off,none⟩) bW c')).run P w=.ok l2.toArray w:=by have:=IG (P:=P) w ⟨g.B,g.s+a.off,none⟩ l2 l2c;rw[<-l2r.1,l2l]at this;simpa[Builtin.firstCells]using this
                rw[EC]at OB;injection OB with OB _;have:po=l2:=by simpa using OB
                rw[this]at hj;exact l2c j u hj) (by omega);exact aiV cap h1 h2
           ·rename_i e' cs dX;split at h;case isFalse=>cases h
            rename_i hc3;obtain⟨rfl,rfl,Ja,Hs,GZ,QG⟩:=hc3;injection h with h;rw[AW.dU]at h;injection h with hv hw;have uN:∀cs,W.get a.block≠some (.ro cs):=λcs hx=>by rw[dX]at hx;cases hx
            have av5:jS.length=n:=by rw[<-Hv.1,Ue,iI]
            have avo:new.length=n:=by rw[Ue,iI]
            cases hs with
            |dO _ a' _ g hg ub=>exact absurd rfl GZ
            |slice _ _ _ c' g hg wN ub=>
             rcases ub.inv with⟨hk,_⟩|⟨z',Ck,hzz,hlc,BX⟩
             ·unfold eJ at hk vO;omega
             ·have yY:z'=1:=by omega
              subst yY;obtain⟨a1,a2,a3,c,q1,q2,q3,q4⟩:=hW.obj a.block _ g dX hg;have avc:c'=c.size:=by omega
              have Zz:(⟨g.B,g.s+a.off,none⟩:bg)=⟨g.B,0,none⟩:=by rw[a1,Ja]
              rw[Zz];have IS:∃po:List ad,LR σ cs po/\∀(j:Nat) (u:ad),po[j]? =some u->c[j]? =some u:=by
               have mC:∀j,j<cs.length->j<c.size:=λj hj=>by omega
               refine⟨c.toList.take cs.length,⟨by rw[cR];simp;omega,λj u u' h1 h2=>?_⟩,λj u hj=>?_⟩
               ·obtain⟨v',f1,f2⟩:=q4 j u h1;rw[lY]at h2;split at h2
                ·rw[xR,f1]at h2;injection h2 with h2;subst h2;exact f2
                ·cases h2
               ·rw[lY]at hj;split at hj
                ·simpa using hj
                ·cases hj
              obtain⟨al9,apf,hoc⟩:=IS;have avL:=apf.1;have hap:=apf.append Hv;by_cases yF:bW+n<=c'
              ·have ug:=IU (P:=P) g.B (0+bW*1) e jS 0 c w q1 (by omega) (II Hv JJ);simp only[eQ]at ug;have lZ:=zr P w _ t0 ty e 1 g.B 0 bW c' n Hk (some xa) jS hu hz hnf yF ug;have Ik:=oE c.toList (0+bW*1) jS (by simp;omega);have Sa:=hW.O2 (w':=w.setRow g.B (c.toList.take (0+bW*1)++jS++c.toList.drop (0+bW*1+jS.length)).toArray) (b:=a.block) (off:=0) (o':=.tc e (cs++new))
                (c':=(c.toList.take (0+bW*1)++jS++c.toList.drop (0+bW*1+jS.length)).toArray) dX (λ_=>by simp) hg (by simp[World.setRow]) rfl rfl rfl (λB hB=>kS w g.B B _ hB) q1 (wY w g.B c _ e _ q1) (by simp;omega)
                (λj hj=>by rw[AG (by simp;omega),AG (by omega)])
                ⟨by simp only;omega,a2,⟨a3.1,λhx=>by rw[QG]at hx;cases hx⟩,_,wY w g.B c _ e _ q1,by simp only[cD];omega,by simp;omega,λj u hj=>by
                  have h2:=Ik j;rw[xi]at hj;split at hj
                  ·rename_i hjl;rw[bL]at h2;obtain⟨u',f1,f2⟩:=q4 j u hj;exact⟨u',by rw[<-f1];simpa using h2,f2.mono (dT hW.fresh)⟩
                  ·rename_i hjl;have hjn:=(da.1 hj).1;rw[kH]at h2;obtain⟨u',f1,f2⟩:=Hv.get hj;rw[show j-(0+bW*1)=j-cs.length by omega,f1]at h2;exact⟨u',by simpa using h2,f2.mono (dT hW.fresh)⟩⟩
               have hvr:=VR.slice (σ:=cx σ W.next ⟨g.B,g.s+0,g.e⟩) ⟨W.next,0,none⟩ (bW+n) (eJ+1) c' ⟨g.B,g.s+0,g.e⟩ dM rfl (.open_ 1 c' (by omega) yF (by simp only;omega) (ub.max.2 (by omega)));simp only[a1,eQ]at hvr;refine⟨_,_,_,lZ,by rw[<-hv];exact hvr,?_,?_⟩
               ·rw[<-hw];simpa only[a1,eQ]using Sa.1
               ·rw[<-hw];simpa only[a1,eQ]using Sa.2
              ·have qM:=CW (show c'<bW+n by omega);have aoB:Builtin.nextslicecap (bW+n) c'*i.bytes<=281474976710656:=by have:=mo i.bytes qM;rw[hib]at this|-;omega
               have lZ:=run_append_grow (P:=P) w t0 ty e i zv hu hi hiz ⟨g.B,0,none⟩ bW c' al9 (by rw[<-avL,GJ];omega) (λj u hj=>by
                have:=hoc j u hj;rw[dv];simp[World.cell?,q1,this]) xa n Hk jS (by rw[GJ];omega) hnc (by omega) (by omega) aoB;obtain⟨hWk,hEk⟩:=hW.kill uN hg;have hge:=grownCap_ge w (bW+n) c' e;obtain⟨g1,g2,g3⟩:=Pv (w:=w) hWk e (cs:=cs++new) (cU:=al9++jS) (zs:=Builtin.zeroCells zv.cells (grownCap w (bW+n) c' e-(bW+n))) (cap:=grownCap w (bW+n) c' e) hap
                (by rw[cD,oO,hzs];omega) (by rw[cD];omega) (Iu w (bW+n) c' e (by unfold maxLen;omega)) QG
                (c:=al9.toArray++jS.toArray++Builtin.zeroCells zv.cells (grownCap w (bW+n) c' e-(bW+n))) (by simp)
               rw[cD,avo,Hs]at g1;exact⟨_,_,_,lZ,by rw[<-hv];exact g1,by rw[<-hw];exact g2,by rw[<-hw];exact hEk.trans g3⟩
           ·cases h
          ·cases h
         ·split at h
          ·rename_i yW atL;split at h
           ·rename_i a;have at2:∀(g:At) (c':Nat),σ a.block=some g->a.spot=none->Mf g a.off bW CU c'->s'=.slice (some ⟨g.B,g.s+a.off,none⟩) bW c'->0<bW->∀j u,po[j]? =some u->w.cell? ((⟨g.B,g.s+a.off,none⟩:bg).add j)=some u:=by
             intro g c' hg wN ub n8 GZ j u hj;have LP:0<bW*z:=p9 GZ ZK;obtain⟨a2,c2,l2,e2,l2r,l2l,l2c⟩:=il hW gE (VR.slice a bW _ c' g hg wN ub) LP;injection e2 with e2 _ _;injection e2 with e2;subst e2;have OB:(Builtin.firstCells z bW (.slice (some ⟨g.B,g.s+a.off,none⟩) bW c')).run P w=.ok l2.toArray w:=by have:=IG (P:=P) w ⟨g.B,g.s+a.off,none⟩ l2 l2c;rw[<-l2r.1,l2l]at this;simpa[Builtin.firstCells]using this
             rw[<-n8,EC]at OB;injection OB with OB _;have:po=l2:=by simpa using OB
             rw[this]at hj;exact l2c j u hj
            split at h
            ·rename_i yF;cases hwn:rG W a.block (a.off+bW*z) new with
             |none=>rw[hwn]at h;cases h
             |some W2=>
              rw[hwn]at h;simp only[dq,iW,DL]at h;obtain⟨hv,hw⟩:=h;subst hw;cases hs with
              |dO _ a' _ g hg ub=>omega
              |slice _ _ _ c' g hg wN ub=>
               rcases ub.inv with⟨hk,rfl⟩|⟨z',Ck,hzz,hlc,BX⟩
               ·obtain⟨w2,k1,k2,k3⟩:=xh (P:=P) hW hwn hg Hv;have lZ:=zr P w w2 t0 ty e z g.B (g.s+a.off) bW c' n Hk (some xa) jS hu hz hnf yF (by rw[gV];exact k1);refine⟨σ,_,w2,lZ,?_,k2,k3⟩;rw[<-hv];exact .slice a _ _ _ g hg wN (.known _ hk)
               ·omega
            ·rename_i yF;injection h with h;rw[AW.dU]at h;injection h with hv hw;have mf:∀(cap:Nat),(bW+n<=cap/\cap<=maxLen)->(Builtin.append_ #[t0,t0] ty #[s',.slice (some xa) n Hk]).run P w=
              .ok (.slice (some ⟨w.heap.size,0,none⟩) (bW+n) cap) (w.drew.alloc (.cells (po.toArray++jS.toArray++Builtin.zeroCells zv.cells (cap-(bW+n))) e))->
              ∃σ' v' w',(Builtin.append_ #[t0,t0] ty #[s',.slice (some xa) n Hk]).run P w=.ok v' w'/\VR σ' v v'/\bI σ' W' w'.heap/\fR σ W w σ' W' w':=by
              intro cap qM lZ
              obtain⟨g1,g2,g3⟩:=aic cap qM
              exact⟨_,_,_,lZ,by rw[<-hv];exact g1,by rw[<-hw];exact g2,by rw[<-hw];exact g3⟩
             cases hs with
             |dO _ a' _ g hg ub=>obtain⟨cap,h1,h2⟩:=grow a' 0 rfl (λhx=>absurd hx (by omega)) (by omega);exact mf cap h1 h2
             |slice _ _ _ c' g hg wN ub=>
              have Hs:c'<bW+n:=by rcases ub.inv with⟨_,h2⟩|⟨_,_,h2,_,_⟩<;>omega
              obtain⟨cap,h1,h2⟩:=grow _ c' rfl (at2 g c' hg wN ub rfl) Hs;exact mf cap h1 h2
           ·split at h
            ·rename_i h00;obtain⟨rfl,rfl,QG⟩:=h00;injection h with h;rw[AW.dU]at h;injection h with hv hw;cases hs;have aoz:po=[]:=by have:=Ry.1;rw[P9,uV]at this;exact zq this.symm
             subst aoz;have yF:n*i.bytes<=281474976710656:=by have:=mo i.bytes (show n<=2*(0+n)+192 by omega);rw[hib]at this|-;omega
             have lZ:=run_append_nil (P:=P) w t0 ty e i zv hu hi hiz xa n Hk jS (by rw[<-Hv.1,Ue,GJ]) hnc (by omega) (by omega) yF;obtain⟨g1,g2,g3⟩:=aic _ ⟨Wc (0+n) 0 e (w.tape w.drawn (.appendCap n 0 e)),by simpa[grownCap]using Iu w n 0 e (by unfold maxLen;omega)⟩;simp only[aI]at g1 g2 g3 hv;refine⟨_,_,_,lZ,by rw[<-hv];exact g1,?_,?_⟩
             ·rw[<-hw];simpa[grownCap]using g2
             ·rw[<-hw];simpa[grownCap]using g3
            ·cases h
          ·cases h
        ·cases h
       ·cases h
     ·cases h
    ·cases h
   ·cases h
  ·cases h
 ·cases h
def K6(P:ah)(W:AW)(argTypes:Array ag)(s x:ad):Option (ad×AW):=
 match argTypes.toList with
 |[t0,t1]=>match P.underlying t1 with
  |some .string=>match nR P t0,s,x with
   |some e,.slice base bW CU,.string str=>match nX P e,(P.info? e).map (λi=>(i.zero,i.bytes))with
    |some 1,some (some (Value.int IntKind.u8 (.ofNat 0)),1)=>
     if bW+str.size<1099511627776 then
      if str.size=0 then(if bW<=CU then some (s,W)else none)
      else match base with
       |some a=>if CU=eJ+1/\a.off=0 then match W.get a.block with
        |some (.tc e' cs)=>if e=e'/\cs.length=bW/\bW≠0/\ai.ex e=false then some ((W.kill a.block).new (.tc e (cs++Lib.strCells str)) λb W'=>(Value.slice (some ⟨b,0,none⟩) (bW+str.size) (eJ+1),W'))else none
        |_=>none
        else none
       |none=>if bW=0/\CU=0/\ai.ex e=false then some (W.new (.tc e (Lib.strCells str)) λb W'=>(Value.slice (some ⟨b,0,none⟩) (0+str.size) (eJ+1),W'))else none
     else none
    |_,_=>none
   |_,_,_=>none
  |_=>none
 |_=>none
def zV(σ:dx)(s:ByteArray):LR σ (Lib.strCells s) (Lib.strCells s):=by
 refine⟨rfl,λi v v' h1 h2=>?_⟩;rw[h1]at h2;injection h2 with h2;subst h2;unfold Lib.strCells at h1;rw[ly]at h1;cases hx:s.data.toList[i]? with
 |none=>rw[hx]at h1;cases h1
 |some b=>rw[hx]at h1;injection h1 with h1;subst h1;exact .int _ _
def Pe(hW:bI σ W w.heap){argTypes:Array ag}{ty:ag}{s x s' x' v:ad}{W':AW}(h:K6 P W argTypes s x=some (v,W'))(hs:VR σ s s')(hx:VR σ x x'):
 ∃σ' v' w',(Builtin.append_ argTypes ty #[s',x']).run P w=.ok v' w'/\VR σ' v v'/\bI σ' W' w'.heap/\fR σ W w σ' W' w':=by
 unfold K6 at h;split at h
 ·rename_i t0 t1 vL;have KH:argTypes=#[t0,t1]:=by rw[<-jO (xs:=argTypes),vL]
  subst KH;split at h
  ·rename_i ahF;split at h
   ·rename_i e base bW CU str he;have hu:=rW he;cases hx;split at h
    ·rename_i hz Kk;obtain⟨i,hi,hiz,hib,GJ⟩:=Ni Kk hz;split at h
     ·rename_i hsm;have hmx:∀n sc,n<=maxLen->grownCap w n sc e<=maxLen:=λn sc hn=>Iu w n sc e hn
      have hml:bW+str.size<=maxLen:=by unfold maxLen;omega
      split at h
      ·rename_i Ws;split at h
       ·rename_i aM;injection h with h;injection h with hv hw;subst hv;subst hw;have h00:∀(a':bg),(loadCells a' 0).run P w=.ok #[] w:=λa'=>by simp[loadCells,loadCellsFrom]
        have mf:∀(c':Nat) (B:Option bg),s'=.slice B bW c'->bW<=c'->∃σ' v' w',(Builtin.append_ #[t0,t1] ty #[s',.string str]).run P w=.ok v' w'/\VR σ' (.slice base bW CU) v'/\bI σ' W w'.heap/\fR σ W w σ' W w':=by intro c' B e2 e3;subst e2;have hf:=Lib.run_firstCells_string (P:=P) w 1 str;rw[Ws]at hf;have PG:Lib.strCells str=[]:=zq (by rw[pm];exact Ws);rw[PG]at hf;refine⟨σ,_,w,?_,hs,hW,fR.refl _ _ _⟩;cases B<;>simp[Builtin.append_,cg hu,cg ahF,bU hz,Builtin.lenOf,Ws,e3,hf,storeCells]
        cases hs with
        |J5 l c=>exact mf _ _ rfl aM
        |slice a l c c' g hg wN ub=>exact mf _ _ rfl (by rcases ub.inv with⟨_,h2⟩|⟨_,_,_,h2,_⟩<;>omega)
        |dO a a' c g hg ub=>exact mf _ _ rfl (by omega)
       ·cases h
      ·rename_i Ws;split at h
       ·rename_i a;split at h
        ·rename_i ws;obtain⟨vO,Ja⟩:=ws;split at h
         ·rename_i e' cs dX;split at h
          ·rename_i hc3;obtain⟨rfl,Hs,GZ,QG⟩:=hc3;injection h with h;rw[AW.dU]at h;injection h with hv hw;have uN:∀cs,W.get a.block≠some (.ro cs):=λcs hx=>by rw[dX]at hx;cases hx
           cases hs with
           |dO _ a' _ g hg ub=>exact absurd rfl GZ
           |slice _ _ _ c' g hg wN ub=>
            rcases ub.inv with⟨hk,_⟩|⟨z',Ck,hzz,hlc,BX⟩
            ·unfold eJ at hk vO;omega
            ·have yY:z'=1:=by omega
             subst yY;obtain⟨a1,a2,a3,c,q1,q2,q3,q4⟩:=hW.obj a.block _ g dX hg;have avc:c'=c.size:=by omega
             have Zz:(⟨g.B,g.s+a.off,none⟩:bg)=⟨g.B,0,none⟩:=by rw[a1,Ja]
             rw[Zz];have IS:∃po:List ad,LR σ cs po/\∀(j:Nat) (u:ad),po[j]? =some u->c[j]? =some u:=by
              have mC:∀j,j<cs.length->j<c.size:=λj hj=>by omega
              refine⟨c.toList.take cs.length,⟨by rw[cR];simp;omega,λj u u' h1 h2=>?_⟩,λj u hj=>?_⟩
              ·obtain⟨v',f1,f2⟩:=q4 j u h1;rw[lY]at h2;split at h2
               ·rw[xR,f1]at h2;injection h2 with h2;subst h2;exact f2
               ·cases h2
              ·rw[lY]at hj;split at hj
               ·simpa using hj
               ·cases hj
             obtain⟨po,Ry,hoc⟩:=IS;have P9:=Ry.1;have hap:=Ry.append (zV σ str);by_cases yF:bW+str.size<=c'
             ·have lZ:=Lib.run_append_room_string (P:=P) w t0 t1 ty e i hu ahF hi GJ g.B bW c' c q1 str yF (by omega);have Ik:=oE c.toList bW (Lib.strCells str) (by rw[pm];simp;omega);rw[pm]at Ik;have Sa:=hW.O2 (w':=w.setRow g.B (c.toList.take bW++Lib.strCells str++c.toList.drop (bW+str.size)).toArray) (b:=a.block) (off:=0) (o':=.tc e (cs++Lib.strCells str))
               (c':=(c.toList.take bW++Lib.strCells str++c.toList.drop (bW+str.size)).toArray) dX (λ_=>by simp) hg (by simp[World.setRow]) rfl rfl rfl (λB hB=>kS w g.B B _ hB) q1 (wY w g.B c _ e _ q1) (by simp[pm];omega)
               (λj hj=>by rw[AG (by simp[pm];omega),AG (by omega)])
               ⟨by simp only;omega,a2,⟨a3.1,λhx=>by rw[QG]at hx;cases hx⟩,_,wY w g.B c _ e _ q1,by simp only[cD,pm];omega,by simp[pm];omega,λj u hj=>by
                 have h2:=Ik j;rw[xi]at hj;split at hj
                 ·rename_i hjl;rw[bL]at h2;obtain⟨u',f1,f2⟩:=q4 j u hj;exact⟨u',by rw[<-f1];simpa using h2,f2.mono (dT hW.fresh)⟩
                 ·rename_i hjl;have hjn:=(da.1 hj).1;rw[pm]at hjn;rw[kH]at h2;obtain⟨u',f1,f2⟩:=(zV σ str).get hj;rw[Hs]at f1;rw[f1]at h2;exact⟨u',by simpa using h2,f2.mono (dT hW.fresh)⟩⟩
              have hvr:=VR.slice (σ:=cx σ W.next ⟨g.B,g.s+0,g.e⟩) ⟨W.next,0,none⟩ (bW+str.size) (eJ+1) c' ⟨g.B,g.s+0,g.e⟩ dM rfl (.open_ 1 c' (by omega) yF (by simp only;omega) (ub.max.2 (by omega)));simp only[a1,eQ]at hvr;refine⟨_,_,_,lZ,by rw[<-hv];exact hvr,?_,?_⟩
              ·rw[<-hw];simpa only[a1,eQ]using Sa.1
              ·rw[<-hw];simpa only[a1,eQ]using Sa.2
             ·have qM:=CW (show c'<bW+str.size by omega);have lZ:=Lib.run_append_grow_string (P:=P) w t0 t1 ty e i (.int .u8 0) hu ahF hi hiz ⟨g.B,0,none⟩ bW c' po (by rw[<-P9,GJ];omega) (λj u hj=>by
               have:=hoc j u hj;rw[dv];simp[World.cell?,q1,this]) str (by omega) (by omega) (by rw[hib];omega);obtain⟨hWk,hEk⟩:=hW.kill uN hg;have hge:=grownCap_ge w (bW+str.size) c' e;obtain⟨g1,g2,g3⟩:=Pv (w:=w) hWk e (cs:=cs++Lib.strCells str) (cU:=po++Lib.strCells str) (zs:=Builtin.zeroCells (Value.int .u8 0).cells (grownCap w (bW+str.size) c' e-(bW+str.size))) (cap:=grownCap w (bW+str.size) c' e) hap
               (by rw[cD,pm,oO,show(Value.int IntKind.u8 0).cells.size=1 from rfl];omega) (by rw[cD,pm];omega) (hmx _ _ hml) QG
               (c:=po.toArray++(Lib.strCells str).toArray++Builtin.zeroCells (Value.int .u8 0).cells (grownCap w (bW+str.size) c' e-(bW+str.size))) (by simp)
              rw[cD,pm,Hs]at g1;exact⟨_,_,_,lZ,by rw[<-hv];exact g1,by rw[<-hw];exact g2,by rw[<-hw];exact hEk.trans g3⟩
          ·cases h
         ·cases h
        ·cases h
       ·split at h
        ·rename_i h00;obtain⟨rfl,rfl,QG⟩:=h00;injection h with h;rw[AW.dU]at h;injection h with hv hw;cases hs;have yF:str.size*i.bytes<=281474976710656:=by rw[hib];omega
         have lZ:=run_append_nil_string (P:=P) w t0 t1 ty e i (.int .u8 0) hu ahF hi hiz str (by omega) (by omega) yF;have hge:=grownCap_ge w str.size 0 e;obtain⟨g1,g2,g3⟩:=Pv (w:=w) hW e (cs:=Lib.strCells str) (cU:=Lib.strCells str) (zs:=Builtin.zeroCells (Value.int .u8 0).cells (grownCap w str.size 0 e-str.size)) (cap:=grownCap w str.size 0 e) (zV σ str)
          (by rw[pm,oO,show(Value.int IntKind.u8 0).cells.size=1 from rfl];omega) (by rw[pm];omega) (hmx _ _ (by omega)) QG
          (c:=str.data.map (λb=>Value.int .u8 b.toNat)++Builtin.zeroCells (Value.int .u8 0).cells (grownCap w str.size 0 e-str.size)) (by congr 1;apply Array.ext';simp[Lib.strCells])
         rw[pm]at g1;exact⟨_,_,_,lZ,by rw[<-hv,aI];exact g1,by rw[<-hw];exact g2,by rw[<-hw];exact g3⟩
        ·cases h
     ·cases h
    ·cases h
   ·cases h
  ·cases h
 ·cases h
def EV(P:ah)(W:AW)(argTypes:Array ag)(s x:ad):Option (ad×AW):=
 match argTypes.toList with
 |[t0,t1]=>if t0=t1 then dB P W argTypes s x else K6 P W argTypes s x
 |_=>none
def O7(hW:bI σ W w.heap){argTypes:Array ag}{ty:ag}{s x s' x' v:ad}{W':AW}(h:EV P W argTypes s x=some (v,W'))(hs:VR σ s s')(hx:VR σ x x'):
 ∃σ' v' w',(Builtin.append_ argTypes ty #[s',x']).run P w=.ok v' w'/\VR σ' v v'/\bI σ' W' w'.heap/\fR σ W w σ' W' w':=by
 unfold EV at h;split at h
 ·split at h
  ·exact St hW h hs hx
  ·exact Pe hW h hs hx
 ·cases h
def xu(x:ad):Option ad:=match x with
 |.slice none _ _=>some (.pointer none)
 |.slice (some a) l c=>if l≠0/\c≠0 then some (.pointer (some a))else none
 |_=>none
def Ki{x x' v:ad}{ts:Array ag}{ty:ag}(h:xu x=some v)(hx:VR σ x x'):∃v',(Builtin.unsafeSliceData_ ts ty #[x']).run P w=.ok v' w/\VR σ v v':=by
 unfold xu at h;split at h
 ·injection h with h;subst h;cases hx;exact⟨_,Lib.run_unsafeSliceData_nil _ _ _ _ _,.Qj⟩
 ·split at h
  ·rename_i a l c hc;injection h with h;subst h;cases hx with
   |slice _ _ _ c' g hg hs ub=>exact⟨_,Lib.run_unsafeSliceData_row _ _ _ _ _ _ (by rcases ub.inv with⟨_,h2⟩|⟨_,_,_,h2,_⟩<;>omega),.ptr a g hg hs⟩
   |dO _ a' _ g hg ub=>exact absurd rfl hc.1
  ·cases h
 ·cases h
def byteOf(v:ad):Option UInt8:=match v with
 |.int .u8 (.ofNat n)=>if n<256 then some (UInt8.ofNat n)else none
 |_=>none
def YS{v:ad}{x:UInt8}(h:byteOf v=some x):v=.int .u8 x.toNat:=by
 unfold byteOf at h;split at h
 ·rename_i n;split at h
  ·rename_i hn;injection h with h;subst h;have:(UInt8.ofNat n).toNat=n:=by simp;omega
   rw[this];rfl
  ·cases h
 ·cases h
def D9:List ad->Option (List UInt8):=List.rec (motive:=λ_=>Option (List UInt8)) (some []) (λv _ ih=>match byteOf v with
 |some b=>ih.map (λl=>b::l)
 |none=>none)
def zW:∀{cs:List ad} {l:List UInt8},D9 cs=some l->cs.length=l.length/\∀(j:Nat) (x:UInt8),l[j]? =some x->cs[j]? =some (.int .u8 x.toNat)
 |[],l,h=>by injection h with h;subst h;exact⟨rfl,λj x hj=>by simp at hj⟩
 |v::cs,l,h=>by
  have h':(match byteOf v with
   |some b=>(D9 cs).map (λl=>b::l)
   |none=>none)=some l:=h;cases hv:byteOf v with
  |none=>rw[hv]at h';cases h'
  |some b0=>
   rw[hv]at h';cases hb:D9 cs with
   |none=>rw[hb]at h';cases h'
   |some l0=>
    rw[hb]at h';injection h' with h';subst h';obtain⟨h1,h2⟩:=zW hb;refine⟨by simp[h1],λj x hj=>?_⟩;cases j with
    |zero=>simp only[FI,iW]at hj|-;subst hj;exact YS hv
    |succ j=>simpa using h2 j x (by simpa using hj)
def Yp(w:ar)(a:bg)(m:Nat){c:Array ad}{t:ag}{fr:Nat×Nat}(h:w.heap[a.block]? =some (.cells c t fr)):∃fr',(w.freeze a m).heap[a.block]? =some (.cells c t fr'):=by
 unfold World.freeze;split
 ·exact⟨fr,h⟩
 ·obtain⟨lo,hi⟩:=fr;simp only[Ai,an,h,dq];exact⟨_,rfl⟩
def XK(w:ar)(a:bg)(m:Nat){B:Nat}(h:B≠a.block):(w.freeze a m).heap[B]? =w.heap[B]? :=by
 unfold World.freeze;split
 ·rfl
 ·simp only[Ai];rw[aq (bh h)]
def QY(w:ar)(a:bg)(m:Nat):(w.freeze a m).heap.size=w.heap.size:=by
 unfold World.freeze;split
 ·rfl
 ·simp
def XY(w:ar)(a:bg)(m:Nat):(w.freeze a m).os=w.os/\(w.freeze a m).tape=w.tape/\(w.freeze a m).output=w.output:=by unfold World.freeze;split<;>exact⟨rfl,rfl,rfl⟩
def bI.afT(h:bI σ W w.heap){b:Nat}{t:ag}{cs:List ad}{g:At}(hb:W.get b=some (.tc t cs))(hg:σ b=some g)(m:Nat):
 bI σ (W.kill b) (w.freeze ⟨g.B,0,none⟩ m).heap/\fR σ W w σ (W.kill b) (w.freeze ⟨g.B,0,none⟩ m):=by
 have uN:∀cs,W.get b≠some (.ro cs):=λcs hx=>by rw[hb]at hx;cases hx
 have hk:∀c o,(W.kill b).get c=some o->c≠b/\W.get c=some o:=λc o hc=>by
  by_cases hx:c=b
  ·subst hx;rw[AW.DM]at hc;cases hc
  ·rw[AW.dm _ (bh hx)]at hc;exact⟨hx,hc⟩
 obtain⟨a1,a2,a3,c,q1,q2,q3,q4⟩:=h.obj b _ g hb hg;obtain⟨fr',vL⟩:=Yp w ⟨g.B,0,none⟩ m q1;have vS:=QY w ⟨g.B,0,none⟩ m;obtain⟨os1,os2,os3⟩:=XY w ⟨g.B,0,none⟩ m;have mA:∀B,B≠g.B->(w.freeze ⟨g.B,0,none⟩ m).heap[B]? =w.heap[B]? :=λB hB=>XK w ⟨g.B,0,none⟩ m hB
 obtain⟨k1,k2⟩:=h.kill uN hg;refine⟨⟨k1.free,λb2 g2 h2=>by rw[vS];exact h.qP b2 g2 h2,λx o2 g2 hx hy=>?_,k1.vN⟩,⟨.refl _,k2.ro,by rw[vS];exact aR _,os1,os2,os3,λB hB hm=>?_,k2.ghost,λx g2 hx _=>.inl hx⟩⟩
 ·obtain⟨Z0,hxg⟩:=hk x o2 hx;have gE:=h.obj x o2 g2 hxg hy;by_cases hB:g2.B=g.B
  ·have hd:g2.e<=g.s\/g.e<=g2.s:=(h.vN x b o2 _ g2 g Z0 hxg hb hy hg (rwR (λ_ hx=>by cases hx))).resolve_left (λfe=>fe hB);cases o2 with
   |cells LC=>obtain⟨c0,t0,fr0,e1,e0,e2,e3,e4⟩:=gE;rw[hB,q1]at e1;injection e1 with e1;injection e1 with e1 e1' asQ;subst e1;exact⟨c,t,fr',by rw[hB];exact vL,λmC=>by omega,e2,e3,e4⟩
   |ro LC=>obtain⟨c0,t0,fr0,e1,e2,e3⟩:=gE;rw[hB,q1]at e1;injection e1 with e1;injection e1 with e1 e1' asQ;subst e1;exact⟨c,t,fr',by rw[hB];exact vL,e2,e3⟩
   |map es nP=>obtain⟨_,_,iM,e1,_⟩:=gE;rw[hB,q1]at e1;cases e1
   |loop st qL R nt ps aB4 bd=>obtain⟨_,_,r,e1,_⟩:=gE;rw[hB,q1]at e1;cases e1
   |qJ s pos=>obtain⟨_,_,e1⟩:=gE;rw[hB,q1]at e1;cases e1
   |tc t2 LC=>obtain⟨b1,b2,b3,_⟩:=gE;omega
  ·exact gE.same (mA _ hB)
 ·exact mA B (λe=>by subst e;exact hm ⟨b,g,hg,rfl,uN⟩)
def qd(P:ah)(W:AW)(argTypes:Array ag)(p n:ad):Option (ad×AW):=match argTypes.toList with
 |[pt,_]=>match p,n with
  |.pointer q,.int .i64 (.ofNat m)=>if m=0 then some (.string .empty,W)else match q with
   |some a=>match P.underlying pt,W.get a.block with
    |some (.pointer e),some (.tc e' cs)=>if e=e'/\a.off=0/\m<=cs.length/\m<1099511627776 then match nX P e,D9 (cs.take m)with
     |some 1,some l=>some (.string ⟨l.toArray⟩,W.kill a.block)
     |_,_=>none
     else none
    |_,_=>none
   |none=>none
  |_,_=>none
 |_=>none
def D3(hW:bI σ W w.heap){argTypes:Array ag}{ty:ag}{p n p' n' v:ad}{W':AW}(h:qd P W argTypes p n=some (v,W'))(hp:VR σ p p')(hn:VR σ n n'):
 ∃σ' v' w',(Builtin.unsafeString_ argTypes ty #[p',n']).run P w=.ok v' w'/\VR σ' v v'/\bI σ' W' w'.heap/\fR σ W w σ' W' w':=by
 unfold qd at h;split at h
 ·rename_i pt it vL;have KH:argTypes=#[pt,it]:=by rw[<-jO (xs:=argTypes),vL]
  subst KH;split at h
  ·rename_i q m;cases hn;split at h
   ·rename_i hm0;injection h with h;injection h with h1 h2;subst h1;subst h2;subst hm0;obtain⟨q',rfl⟩:∃q',p'=.pointer q':=by cases hp<;>exact⟨_,rfl⟩
    exact⟨σ,_,w,Lib.run_unsafeString_none w pt it ty q',.string _,hW,fR.refl _ _ _⟩
   ·rename_i hm0;split at h
    ·rename_i a;split at h
     ·rename_i e e' cs hu dX;split at h
      ·rename_i hc;obtain⟨rfl,Ja,hmc,hmb⟩:=hc;split at h
       ·rename_i l hz hl;injection h with h;injection h with h1 h2;subst h1;subst h2;cases hp with
        |ptr _ g hg hs=>
         obtain⟨a1,a2,a3,c,q1,q2,q3,q4⟩:=hW.obj a.block _ g dX hg;obtain⟨b1,b2⟩:=zW hl;obtain⟨_,_,_,hcz⟩:=GG hz;have dS:m=l.length:=by rw[<-b1,cR];omega
         have Zz:(⟨g.B,g.s+a.off,none⟩:bg)=⟨g.B,0,none⟩:=by rw[a1,Ja]
         obtain⟨f1,f2⟩:=hW.afT dX hg m;refine⟨σ,_,_,?_,.string _,f1,f2⟩;rw[Zz,dS];refine Lib.run_unsafeString_row w pt it ty e hu hcz g.B c.size (by simp[World.shape?,q1]) l (λe=>by subst e;simp at dS;omega) (by omega) (by omega) ?_;intro j x hj;have h3:=b2 j x hj;rw[lY]at h3;split at h3
         ·obtain⟨v',g1,g2⟩:=q4 j _ h3;cases g2;rw[dv];simp[World.cell?,q1,g1]
         ·cases h3
       ·cases h
      ·cases h
     ·cases h
    ·cases h
  ·cases h
 ·cases h
def wi(P:ah)(W:AW)(s d:ag)(x:ad):Option ad:=match x with
 |.slice (some a) n c=>(match P.underlying s,P.underlying d with
  |some (.slice e),some .string=>(match P.underlying e with
   |some (.int .u8)=>(match cp W (.slice (some a) n c) n with
    |some cs=>(match D9 cs with
     |some l=>some (.string ⟨l.toArray⟩)
     |none=>none)
    |none=>none)
   |_=>none)
  |_,_=>none)
 |_=>none
def Jx(P:ah)(W:AW)(s d:ag)(x:ad)(alt:Option ad):Option ad:=match x with
 |.slice (some a) n c=>wi P W s d (.slice (some a) n c)
 |_=>alt
def Mp(hW:bI σ W w.heap){s d:ag}{x x' v:ad}(h:wi P W s d x=some v)(hx:VR σ x x'):∃v',(convert s d x').run P w=.ok v' w/\VR σ v v':=by
 unfold wi at h;split at h;case h_2=>cases h
 rename_i a n c;split at h;case h_2=>cases h
 rename_i e hs hd;split at h;case h_2=>cases h
 rename_i he;split at h;case h_2=>cases h
 rename_i cs nT;split at h;case h_2=>cases h
 rename_i l hl;injection h with h;subst h;obtain⟨b1,b2⟩:=zW hl;rcases Nat.eq_zero_or_pos n with rfl|hn
 ·obtain rfl:cs=[]:=by unfold cp at nT;simp only[an]at nT;injection nT with nT;exact nT.symm
  obtain rfl:l=[]:=mi.1 (by rw[<-b1];rfl);obtain⟨a',c',rfl⟩:∃a' c',x'=.slice (some a') 0 c':=by cases hx<;>exact⟨_,_,rfl⟩
  refine⟨.string ByteArray.empty,?_,.string _⟩;rw[run_convert_bytes_string w s d e _ 0 c' hs he hd,run_bytesToString w _ 0 c' [] (by simp[loadCells,loadCellsFrom])];rfl
 ·obtain⟨a',c',l',rfl,h1,h2,h3⟩:=il (z:=1) hW (by rw[iI];exact nT) hx (by omega);refine⟨_,?_,.string _⟩;rw[iI]at h2;have hln:l.length=n:=by rw[<-b1,h2]
  rw[run_convert_bytes_string w s d e _ n c' hs he hd,run_bytesToString w _ n c' (l.map λb=>(b.toNat:Int)) ?_]
  ·rw[foldl_push_bytes];congr 2;have:((λn:Int=>UInt8.ofNat n.toNat)∘λb:UInt8=>(b.toNat:Int))=id:=by funext b;simp
   simp[ByteArray.empty,ByteArray.emptyWithCapacity,this];rfl
  ·have:=IG (P:=P) w a' (l.map λb=>Value.int .u8 (b.toNat:Int)) (λj u hj=>by
    rw[ly]at hj;cases hlj:l[j]? with
    |none=>rw[hlj]at hj;cases hj
    |some y=>rw[hlj]at hj;injection hj with hj;subst hj;obtain⟨u',g1,g2⟩:=h1.get (b2 j y hlj);have:=h3 j u' g1;cases g2;exact this);simp only[fj,hln]at this;rw[this,List.map_map];rfl
end
end
section
variable [ai]
section
variable {P:ah} {σ:dx} {W:AW} {w:ar}
def WV(P:ah)(W:AW)(argTypes:Array ag)(d x:ad):Option (ad×AW):=
 match argTypes.toList with
 |t0::_=>match nR P t0,d,x with
  |some e,.slice base dl _,.slice xb sl xc=>match nX P e with
   |some z=>
    if Nat.min sl dl=0 then some (goInt 0,W)
    else if z=0 then none
    else match cp W (.slice xb sl xc) (Nat.min sl dl*z),base with
     |some new,some a=>(rG W a.block a.off new).map λW'=>(goInt (Nat.min sl dl),W')
     |_,_=>none
   |none=>none
  |_,_,_=>none
 |[]=>none
def Zx(hW:bI σ W w.heap){argTypes:Array ag}{ty:ag}{d x d' x' v:ad}{W':AW}(h:WV P W argTypes d x=some (v,W'))(hd:VR σ d d')(hx:VR σ x x'):
 ∃v' w',(Builtin.copy_ argTypes ty #[d',x']).run P w=.ok v' w'/\VR σ v v'/\bI σ W' w'.heap/\fR σ W w σ W' w':=by
 have h0:∀(a':bg),(loadCells a' 0).run P w=.ok #[] w:=λa'=>by simp[loadCells,loadCellsFrom]
 unfold WV at h;split at h
 ·rename_i t0 ks vL;have KH:argTypes=(t0::ks).toArray:=by rw[<-vL]
  subst KH;split at h
  ·rename_i e base dl dc xb sl xc he;have hu:=rW he;split at h
   ·rename_i z hz;have hxs:∃Wq Hk,x'=.slice Wq sl Hk:=by cases hx<;>exact⟨_,_,rfl⟩
    obtain⟨Wq,Hk,rfl⟩:=hxs;have hds:∃b' c',d'=.slice b' dl c':=by cases hd<;>exact⟨_,_,rfl⟩
    obtain⟨db',dc',rfl⟩:=hds;split at h
    ·rename_i hn;injection h with h;injection h with hv hw;subst hv;subst hw;refine⟨goInt 0,w,?_,.int _ _,hW,fR.refl _ _ _⟩;have hf:(Builtin.firstCells z 0 (.slice Wq sl Hk)).run P w=.ok #[] w:=by cases Wq<;>simp[Builtin.firstCells,h0]
     have LK:min sl dl=0:=hn;cases db'<;>simp[Builtin.copy_,cg hu,Builtin.lenOf,bU hz,hf,storeCells,hn,goInt]
    ·rename_i hn;split at h
     ·cases h
     ·rename_i ZK;split at h
      ·rename_i new a hr;cases hwn:rG W a.block a.off new with
       |none=>rw[hwn]at h;cases h
       |some W2=>
        rw[hwn]at h;simp only[dq,iW,DL]at h;obtain⟨hv,hw⟩:=h;subst hw;subst hv;obtain⟨jS,h1,h2,h3⟩:=Cd (P:=P) hW hr hx;cases hd with
        |dO _ a' _ g hg ub=>exact absurd (Nat.min_zero _) hn
        |slice _ _ _ c' g hg wN ub=>obtain⟨w2,k1,k2,k3⟩:=xh (P:=P) hW hwn hg h1;refine⟨goInt (Nat.min sl dl),w2,?_,.int _ _,k2,k3⟩;have LK:Nat.min sl dl=min sl dl:=rfl;rw[LK]at h3;simp[Builtin.copy_,cg hu,Builtin.lenOf,bU hz,h3,k1,goInt]
      ·cases h
   ·cases h
  ·cases h
 ·cases h
def PE(P:ah)(W:AW)(argTypes:Array ag)(x:ad):Option AW:=
 match argTypes.toList with
 |t0::_=>match nR P t0,x with
  |some e,.slice base n _=>match nX P e,kG P e with
   |some z,some zv=>
    if n=0 then some W
    else match base with
     |none=>none
     |some a=>if(Builtin.zeroCells zv.cells n).toList.all cC=true/\0<z then rG W a.block a.off (Builtin.zeroCells zv.cells n).toList else none
   |_,_=>none
  |_,_=>none
 |[]=>none
def Us(hW:bI σ W w.heap){argTypes:Array ag}{ty:ag}{x x':ad}{W':AW}(h:PE P W argTypes x=some W')(hx:VR σ x x'):
 ∃w',(Builtin.clear_ argTypes ty #[x']).run P w=.ok (.tuple #[]) w'/\bI σ W' w'.heap/\fR σ W w σ W' w':=by
 unfold PE at h;split at h
 ·rename_i t0 ks vL;have KH:argTypes=(t0::ks).toArray:=by rw[<-vL]
  subst KH;split at h
  ·rename_i e base n c he;have hu:=rW he;split at h
   ·rename_i z zv hz hzv;obtain⟨Ck,yY⟩:=jd hzv w;split at h
    ·rename_i hn;subst hn;injection h with h;subst h;refine⟨w,?_,hW,fR.refl _ _ _⟩;cases hx<;>simp[Builtin.clear_,cg hu]
    ·rename_i hn;split at h
     ·cases h
     ·rename_i a;split at h
      ·rename_i hc;cases hx with
       |dO _ a' _ g hg ub=>exact absurd rfl hn
       |slice _ _ _ c' g hg wN ub=>obtain⟨w2,k1,k2,k3⟩:=xh (P:=P) hW h hg (LR.qh (σ:=σ) (λ_=>fK) hc.1);refine⟨w2,?_,k2,k3⟩;obtain⟨m,rfl⟩:∃m,n=m+1:=⟨n-1,by omega⟩;simp[Builtin.clear_,cg hu,Ck,k1]
      ·cases h
   ·cases h
  ·cases h
 ·cases h
def ag6(k:be)(n:Int)(h:k.min<=n/\n<=k.max):k.wrap n=n:=by obtain⟨h1,h2⟩:=h;cases k<;>simp[IntKind.wrap,IntKind.min,IntKind.max,IntKind.signed,IntKind.bits]at * <;>omega
def Hc(k:be)(n:Int):Int:=if k.min<=n/\n<=k.max then n else k.wrap n
def Ap(k:be)(n:Int):Hc k n=k.wrap n:=by
 unfold Hc;split
 ·rename_i h;exact(ag6 k n h).symm
 ·rfl
def CR(k:be)(n:Int):ad:=
 Int.rec (motive:=λ_=>ad) (λa=>Nat.rec (motive:=λ_=>ad) (.int k (.ofNat 0)) (λm _=>.int k (.ofNat (Nat.succ m))) a)
  (λa=>Nat.rec (motive:=λ_=>ad) (.int k (.negSucc 0)) (λm _=>.int k (.negSucc (Nat.succ m))) a) n
def sr(k:be)(n:Int):CR k n=.int k n:=by
 cases n with
 |ofNat a=>cases a<;>rfl
 |negSucc a=>cases a<;>rfl
def H7(op:BinOp)(k:be)(a b:Int):Option ad:=
 match op with
 |.add=>some (CR k (Hc k (a+b)))
 |.sub=>some (CR k (Hc k (a-b)))
 |.mul=>some (CR k (Hc k (a*b)))
 |.eql=>some (.bool (decide (a=b)))
 |.neq=>some (.bool (!decide (a=b)))
 |.lss=>some (.bool (decide (a<b)))
 |.leq=>some (.bool (decide (a<=b)))
 |.gtr=>some (.bool (decide (b<a)))
 |.geq=>some (.bool (decide (b<=a)))
 |_=>none
def px(P:ah)(W:AW)(t:ag)(x y:ad):Option Bool:=
 match P.underlying t,x,y with
 |some (.pointer _),.pointer none,.pointer b=>some b.isNone
 |some (.pointer _),.pointer (some _),.pointer none=>some false
 |some (.pointer e),.pointer (some a),.pointer (some b)=>match nX P e with
  |some (_+1)=>match W.get a.block,W.get b.block with
   |some (.cells ca),some (.cells cb)=>if a.block=b.block then some (decide (a.off=b.off))else if a.off<ca.length/\b.off<cb.length then some false else none
   |_,_=>none
  |_=>none
 |some (.slice _),.slice none _ _,.slice b _ _=>some b.isNone
 |some (.slice _),.slice (some _) _ _,.slice none _ _=>some false
 |some (.map _ _),.map none,.map b=>some b.isNone
 |some (.map _ _),.map (some _),.map none=>some false
 |some (.func _ _ _),.nilFunc,.nilFunc=>some true
 |some (.func _ _ _),.nilFunc,.func _ _ _=>some false
 |some (.func _ _ _),.func _ _ _,.nilFunc=>some false
 |_,_,_=>none
def acY(hW:bI σ W w.heap){t:ag}{x y x' y':ad}{b:Bool}(h:px P W t x y=some b)(hx:VR σ x x')(hy:VR σ y y')(d:Nat):
 (Op.equalIn (d+1) t x' y').run P w=.ok b w:=by
 unfold px at h;split at h
 ·rename_i e b0 hu;injection h with h;subst h;cases hx;cases hy<;>simp[Op.equalIn,cg hu]
 ·rename_i e a0 hu;injection h with h;subst h;cases hx;cases hy;simp[Op.equalIn,cg hu]
 ·rename_i e a0 b0 hu;split at h
  ·rename_i n hn;split at h
   ·split at h
    ·rename_i hab;injection h with h;subst h;cases hx with
     |ptr _ g hg hs=>
      cases hy with
      |ptr _ g2 rJ Du=>
       rw[<-hab,hg]at rJ;injection rJ with rJ;subst rJ;have auG:((⟨g.B,g.s+a0.off,none⟩:bg)==⟨g.B,g.s+b0.off,none⟩)=decide (a0.off=b0.off):=by rw[um];simp
       simp[Op.equalIn,cg hu,bU hn,sameAddr,auG]
    ·rename_i ca cb hca LH hab;split at h
     ·rename_i nH;injection h with h;subst h;cases hx with
      |ptr _ g hg hs=>
       cases hy with
       |ptr _ g2 rJ Du=>
        obtain⟨c1,t1,fr1,p1,p0,p2,p3,_⟩:=hW.obj _ _ g hca hg;obtain rfl:=p0 (by omega);obtain⟨c2,t2,fr2,q1,q0,q2,q3,_⟩:=hW.obj _ _ g2 LH rJ;obtain rfl:=q0 (by omega);have hd:=hW.vN _ _ _ _ g g2 hab hca LH hg rJ rfl;have fe:(⟨g.B,g.s+a0.off,none⟩:bg)≠⟨g2.B,g2.s+b0.off,none⟩:=by
         intro he;injection he with e1 e2 _;rcases hd with r|r|r
         ·exact r e1
         ·omega
         ·omega
        simp[Op.equalIn,cg hu,bU hn,run_sameAddr_other w fe p1 q1]
     ·cases h
   ·cases h
  ·cases h
 ·rename_i e _ _ b0 _ _ hu;injection h with h;subst h;cases hx;cases hy<;>simp[Op.equalIn,cg hu]
 ·rename_i e a0 _ _ _ _ hu;injection h with h;subst h;cases hx<;>cases hy<;>simp[Op.equalIn,cg hu]
 ·rename_i k e b0 hu;injection h with h;subst h;cases hx;cases hy<;>simp[Op.equalIn,cg hu]
 ·rename_i k e a0 hu;injection h with h;subst h;cases hx;cases hy;simp[Op.equalIn,cg hu]
 ·rename_i ps rs vv hu;injection h with h;subst h;cases hx;cases hy;simp[Op.equalIn,cg hu]
 ·rename_i ps rs vv _ _ _ hu;injection h with h;subst h;cases hx;cases hy;simp[Op.equalIn,cg hu]
 ·rename_i ps rs vv _ _ _ hu;injection h with h;subst h;cases hx;cases hy;simp[Op.equalIn,cg hu]
 ·cases h
end
end
section
variable [ai]
section
variable {P:ah} {σ:dx} {W:AW} {w:ar}
def FR(σ:dx):Option (Nat×ad)->Option (Nat×ad)->Prop
 |none,none=>True
 |some (i,v),some (j,v')=>i=j/\VR σ v v'
 |_,_=>False
def ER.of_cons{e:bE}{l m:List bE}(h:ER σ (e::l) m):∃e' l',m=e'::l'/\VR σ e.key e'.key/\VR σ e.val e'.val/\e.born=e'.born/\ER σ l l':=by
 cases m with
 |nil=>have:=h.1;simp at this
 |cons e' l'=>have h0:=h.2 0 e e' (by simp) (by simp);exact⟨e',l',rfl,h0.1,h0.2.1,h0.2.2,by have:=h.1;simpa using this,λi u u' a b=>h.2 (i+1) u u' (by simpa using a) (by simpa using b)⟩
def ER.of_nil{m:List bE}(h:ER σ [] m):m=[]:=by have:=h.1;simp at this;exact zq this.symm
def ER.nil:ER σ [] []:=⟨rfl,λi e e' a=>by simp at a⟩
def fZ(es:List bE):Bool:=es.all λe=>bN e.key
def SF(kind:TypeDesc)(k:ad):∀(es iM:List bE) (i:Nat) (r:Option (Nat×ad)),ER σ es iM->fZ es=true->Instr.findNow kind k es i=some r->
 ∃r',Instr.findNow kind k iM i=some r'/\FR σ r r':=by
 intro es;induction es with
 |nil=>intro iM i r h _ hf;have:=h.of_nil;subst this;simp only[Instr.findNow]at hf|-;injection hf with hf;subst hf;exact⟨none,rfl,aj⟩
 |cons e es ih=>
  intro iM i r h hp hf;obtain⟨e',l',rfl,hk,hv,_,hl⟩:=h.of_cons;simp only[fZ,dz,bA]at hp;have Z6:=gH hp.1 hk;simp only[Instr.findNow]at hf|-;rw[Z6];cases hs:Instr.sameNow kind k e.key with
  |none=>rw[hs]at hf;cases hf
  |some b=>
   rw[hs]at hf;cases b with
   |true=>simp only at hf|-;injection hf with hf;subst hf;exact⟨_,rfl,rfl,hv⟩
   |false=>simp only at hf|-;exact ih l' (i+1) r hl hp.2 hf
def XL(P:ah)(kt:ag)(k:ad):List bE->Nat->Option (Option (Nat×ad))
 |[],_=>some none
 |e::es,i=>match cH P (Op.equal kt k e.key)with
  |some true=>some (some (i,e.val))
  |some false=>XL P kt k es (i+1)
  |none=>none
def Aw(kt:ag)(k:ad):∀(es iM:List bE) (i:Nat) (r:Option (Nat×ad)),ER σ es iM->fZ es=true->XL P kt k es i=some r->
 ∃r',(Instr.findAsking kt k iM i).run P w=.ok r' w/\FR σ r r':=by
 intro es;induction es with
 |nil=>intro iM i r h _ hf;have:=h.of_nil;subst this;simp only[XL]at hf;injection hf with hf;subst hf;exact⟨none,rfl,aj⟩
 |cons e es ih=>
  intro iM i r h hp hf;obtain⟨e',l',rfl,hk,hv,_,hl⟩:=h.of_cons;simp only[fZ,dz,bA]at hp;have Z6:=gH hp.1 hk;simp only[XL]at hf;cases hs:cH P (Op.equal kt k e.key)with
  |none=>rw[hs]at hf;cases hf
  |some b=>
   rw[hs]at hf;have hr:=uT _ hs w;rw[<-Z6]at hr;cases b with
   |true=>simp only at hf;injection hf with hf;subst hf;exact⟨some (i,e'.val),by simp[Instr.findAsking,hr],rfl,hv⟩
   |false=>simp only at hf;obtain⟨r',h1,h2⟩:=ih l' (i+1) r hl hp.2 hf;exact⟨r',by simp[Instr.findAsking,hr,h1],h2⟩
def WB(P:ah)(kt:ag)(k:ad)(es:List bE):Option (Option (Nat×ad)):=
 if bN k=true/\fZ es=true then
  match P.underlying kt with
  |some kind=>match Instr.findNow kind k es 0 with
   |some r=>some r
   |none=>none
  |none=>none
 else none
def xx(P:ah)(kt:ag)(k:ad)(es:List bE):Option (Option (Nat×ad)):=
 match WB P kt k es with
 |some r=>some r
 |none=>if bN k=true/\fZ es=true then
  match P.underlying kt with
  |some (.array n e)=>(match Instr.findNow (.array n e) k es 0 with|some _=>none|none=>XL P kt k es 0)
  |some (.struct fs)=>(match Instr.findNow (.struct fs) k es 0 with|some _=>none|none=>XL P kt k es 0)
  |_=>none
  else none
def E0(kind:TypeDesc)(k:ad):∀(es iM:List bE) (i:Nat),ER σ es iM->fZ es=true->Instr.findNow kind k es i=none->Instr.findNow kind k iM i=none:=by
 intro es;induction es with
 |nil=>intro iM i h _ hf;simp[Instr.findNow]at hf
 |cons e es ih=>
  intro iM i h hp hf;obtain⟨e',l',rfl,hk,hv,_,hl⟩:=h.of_cons;simp only[fZ,dz,bA]at hp;have Z6:=gH hp.1 hk;simp only[Instr.findNow]at hf|-;rw[Z6];cases hs:Instr.sameNow kind k e.key with
  |none=>rfl
  |some b=>
   rw[hs]at hf;cases b with
   |true=>simp at hf
   |false=>simp only at hf|-;exact ih l' (i+1) hl hp.2 hf
def wb{kt:ag}{k k':ad}{es iM:List bE}{r:Option (Nat×ad)}(h:xx P kt k es=some r)(hk:VR σ k k')(he:ER σ es iM):
 ∃r',(Instr.findKey kt k' iM).run P w=.ok r' w/\FR σ r r'/\k'=k:=by
 unfold xx at h;split at h
 ·rename_i r0 h0;injection h with h;subst h;unfold WB at h0;split at h0
  ·rename_i hc;have Z6:=gH hc.1 hk;subst Z6;split at h0
   ·rename_i kind hu;split at h0
    ·rename_i r1 h1;injection h0 with h0;subst h0;obtain⟨r',a,b⟩:=SF kind k' es iM 0 r1 he hc.2 h1;exact⟨r',by simp[Instr.findKey,cg hu,a],b,rfl⟩
    ·cases h0
   ·cases h0
  ·cases h0
 ·split at h
  ·rename_i hc;have Z6:=gH hc.1 hk;subst Z6;split at h
   ·rename_i n e hu;split at h
    ·cases h
    ·rename_i h1;obtain⟨r',a,b⟩:=Aw (P:=P) (w:=w) kt k' es iM 0 r he hc.2 h;exact⟨r',by simp[Instr.findKey,cg hu,E0 _ _ es iM 0 he hc.2 h1,a],b,rfl⟩
   ·rename_i fs hu;split at h
    ·cases h
    ·rename_i h1;obtain⟨r',a,b⟩:=Aw (P:=P) (w:=w) kt k' es iM 0 r he hc.2 h;exact⟨r',by simp[Instr.findKey,cg hu,E0 _ _ es iM 0 he hc.2 h1,a],b,rfl⟩
   ·cases h
  ·cases h
def vX(P:ah)(empty:Bool)(kt:ag)(k:ad):Bool:=
 bN k&&(cH P (Instr.checkKey empty 10000 kt k)).isSome
def nI{empty:Bool}{kt:ag}{k k':ad}(h:vX P empty kt k=true)(hk:VR σ k k')(w:ar):(Instr.checkKey empty 10000 kt k').run P w=.ok () w:=by
 simp only[vX,bA]at h;rw[gH h.1 hk];cases hp:cH P (Instr.checkKey empty 10000 kt k)with
 |none=>rw[hp]at h;simp at h
 |some u=>exact uT _ hp w
def I2{z:ad}(h:z.cells.toList.all cC=true):VR σ z z:=by
 cases z with
 |agg cs=>exact VR.Ub (LR.qh (λ_=>fK) h)
 |_=>exact fK (by simpa[Value.cells]using h)
def Ix(hW:bI σ W w.heap){r:Nat}{g:At}{es:List bE}{c:Nat}(hr:W.get r=some (.map es c))(hg:σ r=some g):
 g.s=0/\g.e=1/\∃iM:Array bE,w.heap[g.B]? =some (.map iM c)/\ER σ es iM.toList:=hW.obj r _ g hr hg
def run_getObj_map{B:Nat}{es:Array bE}{c:Nat}(h:w.heap[B]? =some (.map es c)):(getObj B).run P w=.ok (.map es c) w:=by simp[getObj,Sem.run,h]
def oy{B:Nat}{es:Array bE}{c:Nat}(o:rU)(h:w.heap[B]? =some (.map es c)):(setObj B o).run P w=.ok () {w with heap:=w.heap.setIfInBounds B o}:=by simp[setObj,Sem.run,h]
def zU(P:ah)(e:ag)(ok:Bool)(r:Option (Nat×ad)):Option ad:=
 match r with
 |some (_,v)=>some (if ok then .tuple #[v,.bool true]else v)
 |none=>match kG P e with
  |some z=>some (if ok then .tuple #[z,.bool false]else z)
  |none=>none
def oB(P:ah)(W:AW)(t:ag)(m k:ad)(ok:Bool):Option ad:=
 match P.underlying t,m with
 |some (.map kt e),.map none=>if vX P true kt k then zU P e ok none else none
 |some (.map kt e),.map (some r)=>match W.get r with
  |some (.map es _)=>if vX P es.isEmpty kt k then match xx P kt k es with
   |some r=>zU P e ok r
   |none=>none
   else none
  |_=>none
 |_,_=>none
def Pf{a b a' b':ad}(h1:VR σ a a')(h2:VR σ b b'):VR σ (.tuple #[a,b]) (.tuple #[a',b']):=VR.tuple' (by simpa using LR.cons h1 (.cons h2 .nil))
def RX(kt:ag)(d:TypeDesc)(hu:P.underlying kt=some d)(k:ad):(Instr.findKey kt k []).run P w=.ok none w:=by simp[Instr.findKey,cg hu,Instr.findNow]
def Mm{kt:ag}(h:P.underlying kt=none)(empty:Bool)(d:Nat)(k:ad):(Instr.checkKey empty (d+1) kt k).run P w=.halt (.stuck "no such type") w:=by simp[Instr.checkKey,underlying,h]
def RL{empty:Bool}{kt:ag}{k:ad}(h:vX P empty kt k=true):∃d,P.underlying kt=some d:=by
 simp only[vX,bA]at h;cases hp:cH P (Instr.checkKey empty 10000 kt k)with
 |none=>rw[hp]at h;simp at h
 |some u=>
  have hr:=uT (P:=P) _ hp default;cases hd:P.underlying kt with
  |some d=>exact⟨d,rfl⟩
  |none=>exfalso;have h1:(Instr.checkKey empty 10000 kt k).run P default=.halt (.stuck "no such type") default:=Mm hd empty 9999 k;rw[h1]at hr;cases hr
def GX{es:List bE}{iM:Array bE}(h:ER σ es iM.toList):iM.isEmpty=es.isEmpty:=by obtain⟨l⟩:=iM;have h1:=h.1;cases es<;>cases l<;>first|rfl|(simp at h1;done)|simp
def OE(iM:Array bE)(i:Nat):(iM.eraseIdxIfInBounds i).toList=iM.toList.eraseIdx i:=by
 unfold Array.eraseIdxIfInBounds;split
 ·simp
 ·rename_i hi;rw[List.eraseIdx_of_length_le];simp;omega
def ZH(iM:Array bE)(i:Nat)(hi:i<iM.size)(k v:ad):iM.modify i (λe=>{e with key:=k,val:=v})=iM.setIfInBounds i {iM[i]with key:=k,val:=v}:=by
 apply Array.ext_getElem?;intro n;rw[Ai,IH];by_cases hn:i=n
 ·subst hn;simp[hi]
 ·simp[hn]
def Tb(hW:bI σ W w.heap){t:ag}{m k m' k' v:ad}{ok:Bool}(h:oB P W t m k ok=some v)(hm:VR σ m m')(hk:VR σ k k'):
 ∃v',(Instr.lookup t m' k' ok).run P w=.ok v' w/\VR σ v v':=by
 unfold oB at h;split at h
 ·rename_i kt e hu;split at h
  ·rename_i Yd;cases hm;obtain⟨d,hd⟩:=RL Yd;simp only[zU]at h;split at h
   ·rename_i z hz;injection h with h;subst h;obtain⟨Ck,yY⟩:=jd hz w;refine⟨if ok then .tuple #[z,.bool false]else z,?_,?_⟩
    ·simp[Instr.lookup,cg hu,nI Yd hk w,RX kt d hd,Ck]
    ·cases ok
     ·exact I2 yY
     ·exact Pf (I2 yY) (.bool false)
   ·cases h
  ·cases h
 ·rename_i kt e r hu;split at h
  ·rename_i es c hr;split at h
   ·rename_i Yd;split at h
    ·rename_i fr hf;cases hm with
     |map _ g hg=>
      obtain⟨g1,g2,iM,g3,g4⟩:=Ix hW hr hg;obtain⟨r',f1,f2,f3⟩:=wb (w:=w) hf hk g4;have aaQ:=GX g4;cases fr with
      |some p=>
       cases r' with
       |none=>exact f2.elim
       |some p'=>
        simp only[zU]at h;injection h with h;subst h;refine⟨if ok then .tuple #[p'.2,.bool true]else p'.2,?_,?_⟩
        ·simp only[Instr.lookup,cQ,cg hu,cK,run_getObj_map g3,ij,aaQ,nI Yd hk w,f1]
        ·cases ok
         ·exact f2.2
         ·exact Pf f2.2 (.bool true)
      |none=>
       cases r' with
       |some p'=>exact f2.elim
       |none=>
        simp only[zU]at h;split at h
        ·rename_i z hz;injection h with h;subst h;obtain⟨Ck,yY⟩:=jd hz w;refine⟨if ok then .tuple #[z,.bool false]else z,?_,?_⟩
         ·simp only[Instr.lookup,cQ,cg hu,cK,run_getObj_map g3,ij,aaQ,nI Yd hk w,f1,Ck]
         ·cases ok
          ·exact I2 yY
          ·exact Pf (I2 yY) (.bool false)
        ·cases h
    ·cases h
   ·cases h
  ·cases h
 ·cases h
def jI(P:ah)(W:AW)(t:ag)(m k v:ad):Option AW:=
 match P.underlying t,m with
 |some (.map kt _),.map (some r)=>match W.get r with
  |some (.map es c)=>if vX P false kt k then match xx P kt k es with
   |some (some (i,_))=>match es[i]? with
    |some e=>if Instr.sameBits 10000 e.key k=true/\bN e.key=true then some (W.put r (.map (es.set i {e with key:=k,val:=v}) c))else none
    |none=>none
   |some none=>some (W.put r (.map (es++[{key:=k,val:=v,born:=c}]) (c+1)))
   |none=>none
   else none
  |_=>none
 |_,_=>none
def ER.set{es iM:List bE}(h:ER σ es iM)(i:Nat){e e':bE}(hk:VR σ e.key e'.key)(hv:VR σ e.val e'.val)(hb:e.born=e'.born):ER σ (es.set i e) (iM.set i e'):=by
 refine⟨by simp[h.1],λj a b x y=>?_⟩;rw[uk]at x y;by_cases hn:i=j
 ·subst hn;simp only[bi]at x y;split at x
  ·split at y
   ·simp at x y;subst x;subst y;exact⟨hk,hv,hb⟩
   ·cases y
  ·cases x
 ·rw[aq hn]at x y;exact h.2 j a b x y
def ER.snoc{es iM:List bE}(h:ER σ es iM){e e':bE}(hk:VR σ e.key e'.key)(hv:VR σ e.val e'.val)(hb:e.born=e'.born):ER σ (es++[e]) (iM++[e']):=by
 refine⟨by simp[h.1],λj a b x y=>?_⟩;rw[xi]at x y;rw[<-h.1]at y;split at x
 ·rename_i hj;rw[an hj]at y;exact h.2 j a b x y
 ·rename_i hj;rw[aq hj]at y;cases hjj:j-es.length with
  |zero=>rw[hjj]at x y;simp at x y;subst x;subst y;exact⟨hk,hv,hb⟩
  |succ n=>rw[hjj]at x;simp at x
def ER.erase{es iM:List bE}(h:ER σ es iM)(i:Nat):ER σ (es.eraseIdx i) (iM.eraseIdx i):=by
 refine⟨by simp[List.length_eraseIdx,h.1],λj a b x y=>?_⟩;rw[List.getElem?_eraseIdx]at x y;split at x
 ·rename_i hj;rw[an hj]at y;exact h.2 _ a b x y
 ·rename_i hj;rw[aq hj]at y;exact h.2 _ a b x y
def IK(hW:bI σ W w.heap){r:Nat}{g:At}{es es2:List bE}{iM:Array bE}{c c2:Nat}(hr:W.get r=some (.map es c))(hg:σ r=some g)(h1:g.s=0)(h2:g.e=1)(h3:w.heap[g.B]? =some (.map iM c))
 (agL:Array bE)(he:ER σ es2 agL.toList):
 bI σ (W.put r (.map es2 c2)) (w.heap.setIfInBounds g.B (.map agL c2))/\fR σ W w σ (W.put r (.map es2 c2)) {w with heap:=w.heap.setIfInBounds g.B (.map agL c2)}:=by
 have mC:g.B<w.heap.size:=(eS.1 h3).1;exact hW.setObj hr (λ_ hx=>by cases hx) hg ⟨h1,h2⟩ (λc t fr hx=>by rw[h3]at hx;cases hx)
  ⟨h1,h2,agL,by simp[mC],he⟩
def Kg(hW:bI σ W w.heap){t:ag}{m k v m' k' v':ad}{W':AW}(h:jI P W t m k v=some W')(hm:VR σ m m')(hk:VR σ k k')(hv:VR σ v v'):
 ∃w',(Instr.mapUpdate t m' k' v').run P w=.ok () w'/\bI σ W' w'.heap/\fR σ W w σ W' w':=by
 unfold jI at h;split at h
 ·rename_i kt e r hu;split at h
  ·rename_i es c hr;split at h
   ·rename_i Yd;cases hm with
    |map _ g hg=>
     obtain⟨g1,g2,iM,g3,g4⟩:=Ix hW hr hg;split at h
     ·rename_i i u hf;obtain⟨r',f1,f2,f3⟩:=wb (w:=w) hf hk g4;subst f3;split at h
      ·rename_i en hen;split at h
       ·rename_i hsb;injection h with h;subst h;cases r' with
        |none=>exact f2.elim
        |some p=>
         obtain⟨j,u'⟩:=p;obtain⟨rfl,_⟩:=f2;have sf:i<iM.size:=by have h0:=(da.1 hen).1;have:=g4.1;simp at this;omega
         have au3:iM[i]? =some iM[i]:=jN sf;have hee:=g4.2 i en iM[i] hen (by simp[sf]);have auM:iM[i].key=en.key:=gH hsb.2 hee.1;obtain⟨q1,q2⟩:=IK (c2:=c) hW hr hg g1 g2 g3 (iM.setIfInBounds i {iM[i]with key:=k',val:=v'}) (es2:=es.set i {en with key:=k',val:=v})
          (by rw[Oq];exact g4.set i (e:={en with key:=k',val:=v}) (e':={iM[i]with key:=k',val:=v'}) hk hv hee.2.2)
         refine⟨_,?_,q1,q2⟩;have alv:=ZH iM i sf k' v';have Vb:(Instr.keyThatStays (((iM[i]?).map (·.key)).getD k') k').run P w=.ok k' w:=by rw[au3];simp only[dq,oL,auM,Instr.keyThatStays];rw[an hsb.1];rfl
         simp only[Instr.mapUpdate,cQ,cg hu,cK,run_getObj_map g3,nI Yd hk w,f1,Vb,alv];exact oy _ g3
       ·cases h
      ·cases h
     ·rename_i hf;obtain⟨r',f1,f2,f3⟩:=wb (w:=w) hf hk g4;subst f3;injection h with h;subst h;cases r' with
      |some p=>exact f2.elim
      |none=>
       obtain⟨q1,q2⟩:=IK (c2:=c+1) hW hr hg g1 g2 g3 (iM.push {key:=k',val:=v',born:=c}) (es2:=es++[{key:=k',val:=v,born:=c}])
        (by rw[Array.toList_push];exact g4.snoc (e:={key:=k',val:=v,born:=c}) (e':={key:=k',val:=v',born:=c}) hk hv rfl)
       refine⟨_,?_,q1,q2⟩;simp only[Instr.mapUpdate,cQ,cg hu,cK,run_getObj_map g3,nI Yd hk w,f1];exact oy _ g3
     ·cases h
   ·cases h
  ·cases h
 ·cases h
def uA(P:ah)(W:AW)(argTypes:Array ag)(m k:ad):Option AW:=
 match argTypes.toList with
 |t::_=>match P.underlying t,m with
  |some (.map kt _),.map none=>if vX P true kt k then some W else none
  |some (.map kt _),.map (some r)=>match W.get r with
   |some (.map es c)=>if vX P es.isEmpty kt k then match xx P kt k es with
    |some (some (i,_))=>some (W.put r (.map (es.eraseIdx i) c))
    |some none=>some (W.put r (.map es c))
    |none=>none
    else none
   |_=>none
  |_,_=>none
 |[]=>none
def Sf(hW:bI σ W w.heap){argTypes:Array ag}{ty:ag}{m k m' k':ad}{W':AW}(h:uA P W argTypes m k=some W')(hm:VR σ m m')(hk:VR σ k k'):
 ∃w',(Builtin.delete_ argTypes ty #[m',k']).run P w=.ok (.tuple #[]) w'/\bI σ W' w'.heap/\fR σ W w σ W' w':=by
 unfold uA at h;split at h
 ·rename_i t ks vL;have KH:argTypes=(t::ks).toArray:=by rw[<-vL]
  subst KH;split at h
  ·rename_i kt e hu;split at h
   ·rename_i Yd;injection h with h;subst h;cases hm;refine⟨w,?_,hW,fR.refl _ _ _⟩;simp[Builtin.delete_,cg hu,nI Yd hk w]
   ·cases h
  ·rename_i kt e r hu;split at h
   ·rename_i es c hr;split at h
    ·rename_i Yd;cases hm with
     |map _ g hg=>
      obtain⟨g1,g2,iM,g3,g4⟩:=Ix hW hr hg;have aaQ:=GX g4;split at h
      ·rename_i i u hf;obtain⟨r',f1,f2,f3⟩:=wb (w:=w) hf hk g4;subst f3;injection h with h;subst h;cases r' with
       |none=>exact f2.elim
       |some p=>
        obtain⟨j,u'⟩:=p;obtain⟨rfl,_⟩:=f2;obtain⟨q1,q2⟩:=IK (c2:=c) hW hr hg g1 g2 g3 (iM.eraseIdxIfInBounds i) (es2:=es.eraseIdx i)
         (by rw[OE];exact g4.erase i)
        refine⟨_,?_,q1,q2⟩;have hso:=oy (P:=P) (.map (iM.eraseIdxIfInBounds i) c) g3;simp[Builtin.delete_,cg hu,run_getObj_map g3,aaQ,nI Yd hk w,f1,hso]
      ·rename_i hf;obtain⟨r',f1,f2,f3⟩:=wb (w:=w) hf hk g4;subst f3;injection h with h;subst h;cases r' with
       |some p=>exact f2.elim
       |none=>obtain⟨q1,q2⟩:=IK (c2:=c) hW hr hg g1 g2 g3 iM (es2:=es) g4;refine⟨_,?_,q1,q2⟩;have hso:=oy (P:=P) (.map iM c) g3;simp[Builtin.delete_,cg hu,run_getObj_map g3,aaQ,nI Yd hk w,f1,hso]
      ·cases h
    ·cases h
   ·cases h
  ·cases h
 ·cases h
end
end
section
variable [ai]
def DN(P:ah)(t:ag)(cs:Array ad)(off:Nat):Option ad:=
 match YK P t with
 |some true=>match nX P t with
  |some n=>some (.agg (cs.extract off (off+n)))
  |none=>none
 |some false=>cs[off]?
 |none=>none
def adf(P:ah)(g:ag->ad->ad->Option Bool)(xs ys:Array ad):List Field->Option Bool
 |[]=>some true
 |f::fs=>if f.name= "_" then none else match DN P f.type xs f.offset,DN P f.type ys f.offset with
  |some a,some b=>(match g f.type a b with
   |some true=>adf P g xs ys fs
   |some false=>some false
   |none=>none)
  |_,_=>none
def PB(P:ah):Nat->ag->ad->ad->Option Bool
 |0,_,_,_=>none
 |n+1,t,x,y=>match P.underlying t with
  |some (.int _)=>(match x,y with
   |.int k a,.int k' b=>if k=k' then some (a==b)else none
   |_,_=>none)
  |some .bool=>(match x,y with
   |.bool a,.bool b=>some (a==b)
   |_,_=>none)
  |some (.struct fs)=>(match x,y with
   |.agg xs,.agg ys=>if P.stoodInHeld t=true then none else adf P (PB P n) xs ys fs.toList
   |_,_=>none)
  |_=>none
def J8(P:ah)(t:ag)(x y:ad):Option Bool:=match x,y with
 |.agg _,.agg _=>if P.eqGuardType P.depth t=true then none else PB P 8 t x y
 |_,_=>none
def rV(P:ah)(W:AW)(op:BinOp)(t:ag)(x y:ad):Option ad:=
 match x,y with
 |.int k a,.int k' b=>if k=k' then H7 op k a b else none
 |_,_=>match op with
  |.eql=>(match px P W t x y with
   |some b=>some (.bool b)
   |none=>(J8 P t x y).map .bool)
  |.neq=>(match px P W t x y with
   |some b=>some (.bool !b)
   |none=>(J8 P t x y).map λb=>.bool !b)
  |_=>none
def rl(t:ag)(cs:List ad):dH:=match cs with
 |[.pointer none,.slice none 0 0]=>.tc t [.pointer none,.slice none 0 0]
 |cs=>.cells cs
def LQ(P:ah)(o:am)(R:ai.Fr)(W:AW):Option (ad×AW):=
 match o.op with
 |.move x|.assign x=>some (aE R x,W)
 |.pick c a b=>match aE R c with
  |.bool true=>some (aE R a,W)
  |.bool false=>some (aE R b,W)
  |_=>none
 |.alloc t=>match kG P t with
  |some z=>some (W.new (rl t z.cells.toList) λb W'=>(Value.pointer (some ⟨b,0,none⟩),W'))
  |none=>none
 |.box _ x=>some (W.new (.cells (aE R x).cells.toList) λb W'=>(Value.pointer (some ⟨b,0,none⟩),W'))
 |.build t ps=>(CE P R t ps).map λv=>(v,W)
 |.buildSlice t len ps=>nG P R W t len ps
 |.load t a=>(lR P W t (aE R a)).map λv=>(v,W)
 |.store t a x=>(Ct P W t (aE R a) (aE R x)).map λW'=>(ak,W')
 |.nilCheck x=>match aE R x with
  |.pointer (some a)=>some (.pointer (some a),W)
  |.func (.func f) a b=>some (.func (.func f) a b,W)
  |.func (.yield l) a b=>some (.func (.yield l) a b,W)
  |.iface t v=>some (.iface t v,W)
  |_=>none
 |.binOp op t x y _=>match rV P W op t (aE R x) (aE R y)with
  |some v=>some (v,W)
  |none=>(lg P R o).map λv=>(v,W)
 |.unOp .. =>(lg P R o).map λv=>(v,W)
 |.convert s d x=>(Jx P W s d (aE R x) (lg P R o)).map λv=>(v,W)
 |.makeInterface t x=>match P.underlying t with
  |some (.interface _)=>none
  |some _=>some (.iface t (aE R x),W)
  |none=>none
 |.makeFunc (.func f) first kT=>some (.func (.func f) (first.map (aE R)) (kT.map (aE R)),W)
 |.makeMap t r=>match r with
  |none=>some (W.new (.map [] 0) λb W'=>(Value.map (some b),W'))
  |some h=>match P.underlying t,aE R h with
   |some (.map _ _),.int _ _=>some (W.new (.map [] 0) λb W'=>(Value.map (some b),W'))
   |_,_=>none
 |.makeSlice t l c=>pJ P W t (aE R l) (aE R c)
 |.slice t x lo hi mx=>match mz P t (aE R x) (lo.map (aE R)) (hi.map (aE R)) (mx.map (aE R))with
  |some v=>some (v,W)
  |none=>(lg P R o).map λv=>(v,W)
 |.fieldAddr s x f=>match P.underlying s,aE R x with
  |some (.struct fs),.pointer (some a)=>match fs[f]? with
   |some fl=>match nX P fl.type with
    |some (_+1)=>some (.pointer (some (a.add fl.offset)),W)
    |_=>none
   |none=>none
  |_,_=>none
 |.field t x f=>match P.underlying t,aE R x with
  |some (.struct fs),.agg cs=>match fs[f]? with
   |some fl=>(DN P fl.type cs fl.offset).map λv=>(v,W)
   |none=>none
  |_,_=>none
 |.indexAddr t x i=>match P.underlying t,aE R x,kJ (aE R i)with
  |some (.slice e),.slice (some a) len _,some n=>match nX P e with
   |some z=>if n<len then some (.pointer (some (a.add (n*z))),W)else none
   |none=>none
  |some (.array len e),.pointer (some a),some n=>match nX P e with
   |some z=>if n<len then some (.pointer (some (a.add (n*z))),W)else none
   |none=>none
  |_,_,_=>none
 |.index t x i=>match P.underlying t,aE R x,kJ (aE R i)with
  |some (.array len e),.agg cs,some n=>match nX P e with
   |some z=>if n<len then(DN P e cs (n*z)).map λv=>(v,W)else none
   |none=>none
  |_,_,_=>(lg P R o).map λv=>(v,W)
 |.lookup t m k ok=>(oB P W t (aE R m) (aE R k) ok).map λv=>(v,W)
 |.mapUpdate t m k v=>(jI P W t (aE R m) (aE R k) (aE R v)).map λW'=>(ak,W')
 |.extract x i=>match aE R x with
  |.tuple vs=>(vs[i]?).map λv=>(v,W)
  |_=>none
 |.typeAssert x _ t ok=>match P.underlying t,aE R x with
  |some (.interface _),_=>none
  |some _,.iface u v=>if u=t then some (if ok then .tuple #[v,.bool true]else v,W)else none
  |_,_=>none
 |.range t x=>match P.underlying t,aE R x with
  |some .string,.string s=>some (W.new (.qJ s 0) λb W'=>(Value.pointer (some ⟨b,0,none⟩),W'))
  |_,_=>none
 |.next it true=>match aE R it with
  |.pointer (some ⟨b,0,_⟩)=>match W.get b with
   |some (.qJ s pos)=>if pos<s.size then some (.tuple #[.bool true,goInt pos,.int .i32 (Utf8.decode s pos).1],W.put b (.qJ s (pos+(Utf8.decode s pos).2)))else some (.tuple #[.bool false],W)
   |_=>none
  |_=>none
 |_=>none
section
variable {P:ah} {σ:dx} {W:AW} {w:ar}
def VR.jY{b:Bool}{v:ad}(h:VR σ (.bool b) v):v=.bool b:=by cases h;rfl
def VR.CV{b:ByteArray}{v:ad}(h:VR σ (.string b) v):v=.string b:=by cases h;rfl
def VR.xm{a:bg}{v:ad}(h:VR σ (.pointer (some a)) v):∃g,σ a.block=some g/\a.spot=none/\v=.pointer (some ⟨g.B,g.s+a.off,none⟩):=by
 cases h with
 |ptr a g h hs=>exact⟨g,h,hs,rfl⟩
def VR.XV{a:bg}{l c:Nat}{v:ad}(h:VR σ (.slice (some a) l c) v):(∃g c',σ a.block=some g/\a.spot=none/\Mf g a.off l c c'/\v=.slice (some ⟨g.B,g.s+a.off,none⟩) l c')\/(l=0/\∃a',v=.slice (some a') 0 0):=by
 cases h with
 |slice a l c c' g h hs hc=>exact .inl ⟨g,c',h,hs,hc,rfl⟩
 |dO a a' c g h hc=>exact .inr ⟨rfl,a',rfl⟩
def VR.E7{t:ag}{u v:ad}(h:VR σ (.iface t u) v):∃u',VR σ u u'/\v=.iface t u':=by
 cases h with
 |iface t u u' h=>exact⟨u',h,rfl⟩
def VR.Wm{cs:Array ad}{v:ad}(h:VR σ (.agg cs) v):∃cU,LR σ cs.toList cU.toList/\v=.agg cU:=by
 cases h with
 |agg cs cU h1 h2=>exact⟨cU,.CI h1 h2,rfl⟩
def VR.ZQ{cs:Array ad}{v:ad}(h:VR σ (.tuple cs) v):∃cU,LR σ cs.toList cU.toList/\v=.tuple cU:=by
 cases h with
 |tuple cs cU h1 h2=>exact⟨cU,.CI h1 h2,rfl⟩
def VR.mR{fn:Fn}{fs cs:Array ad}{v:ad}(h:VR σ (.func fn fs cs) v):∃LO yj cU,FnR σ fn LO/\LR σ fs.toList yj.toList/\LR σ cs.toList cU.toList/\v=.func LO yj cU:=by
 cases h with
 |func fn LO fs yj cs cU hf h1 h2 h3 h4=>exact⟨LO,yj,cU,hf,.CI h1 h2,.CI h3 h4,rfl⟩
def VR.uS{k:be}{n:Int}{v:ad}(h:VR σ (.int k n) v):v=.int k n:=by cases h;rfl
def Bi{t:ag}{cs cU:Array ad}{off:Nat}{v:ad}(h:DN P t cs off=some v)(hc:LR σ cs.toList cU.toList)(w:ar):
 ∃v',(part t cU off).run P w=.ok v' w/\VR σ v v':=by
 unfold DN at h;split at h
 ·rename_i ha;split at h
  ·rename_i n hn;injection h with h;subst h;refine⟨.agg (cU.extract off (off+n)),by simp[part,wT ha,bU hn],VR.Ub ?_⟩;simp only[Array.toList_extract,P0];exact(hc.drop off).take _
  ·cases h
 ·rename_i ha;obtain⟨v',h1,h2⟩:=hc.get (i:=off) (v:=v) (by simpa using h);refine⟨v',?_,h2⟩;have Gb:cU[off]? =some v':=by simpa using h1
  simp[part,wT ha,Gb]
 ·cases h
def VR.Er{xs:Array ad}{v:ad}(h:VR σ (.agg xs) v):∃ys,v=.agg ys/\LR σ xs.toList ys.toList:=by
 cases h with
 |agg _ cU h1 h2=>exact⟨cU,rfl,by simpa using h1,λi v v' a b=>h2 i v v' (by simpa using a) (by simpa using b)⟩
def ac6:∀(n:Nat) {t:ag} {x y x' y':ad} {b:Bool},PB P n t x y=some b->VR σ x x'->VR σ y y'->∀d,(Op.equalIn (n+d) t x' y').run P w=.ok b w:=by
 intro n;induction n with
 |zero=>intro t x y x' y' b h;cases h
 |succ n ih=>
  intro t x y x' y' b h hx hy d;rw[show n+1+d=(n+d)+1 by omega];unfold PB at h;split at h
  ·rename_i k0 hu;split at h
   ·rename_i k a k' c;split at h
    ·rename_i hk;subst hk;injection h with h;subst h;rw[hx.uS,hy.uS];exact run_equalIn_int w _ t k k0 a c hu
    ·cases h
   ·cases h
  ·rename_i hu;split at h
   ·rename_i a c;injection h with h;subst h;rw[hx.jY,hy.jY];exact run_equalIn_bool' w _ t a c hu
   ·cases h
  ·rename_i fs hu;split at h
   ·rename_i xs ys;split at h
    ·cases h
    rename_i ug;obtain⟨xs',rfl,hxs⟩:=hx.Er;obtain⟨ys',rfl,hys⟩:=hy.Er;have hfo:P.fieldsOf t=fs:=by unfold Program.fieldsOf;rw[hu]
    rw[run_equalIn_struct w (n+d) t xs' ys' (by rw[hfo];exact hu) (by simpa using ug),hfo];generalize fs.toList=l at h;induction l with
    |nil=>injection h with h;subst h;simp[Op.eqFields]
    |cons f l ihl=>
     unfold adf at h;split at h
     ·cases h
     rename_i qC;split at h
     ·rename_i a c ha hc;obtain⟨a',ra,va⟩:=Bi (P:=P) ha hxs w;obtain⟨c',rc,vc⟩:=Bi (P:=P) hc hys w;unfold Op.eqFields;rw[an qC,cQ,ra,cK,cQ,rc,cK,cQ];split at h
      ·rename_i he;rw[ih he va vc d,cK];simpa using ihl h
      ·rename_i he;injection h with h;subst h;rw[ih he va vc d,cK];simp
      ·cases h
     ·cases h
   ·cases h
  ·cases h
def aay(P:ah)(W:AW)(t:ag)(a b:Array ad):px P W t (.agg a) (.agg b)=none:=by
 unfold px;cases P.underlying t with
 |none=>rfl
 |some d=>cases d<;>rfl
def Ns{P:ah}{t:ag}{x y:ad}{b:Bool}(h:J8 P t x y=some b)(W:AW):px P W t x y=none:=by
 unfold J8 at h;split at h
 ·exact aay P W t _ _
 ·cases h
def Qn{t:ag}{x y x' y':ad}{b:Bool}(h:J8 P t x y=some b)(hx:VR σ x x')(hy:VR σ y y')(p q:au):
 (do eqGuard .eql t p q x' y';binOp .eql t x' y':Sem ad).run P w=.ok (.bool b) w/\(do eqGuard .neq t p q x' y';binOp .neq t x' y':Sem ad).run P w=.ok (.bool !b) w:=by
 unfold J8 at h;split at h
 ·rename_i xs ys;split at h
  ·cases h
  rename_i hg;obtain⟨xs',rfl,hxs⟩:=hx.Er;obtain⟨ys',rfl,hys⟩:=hy.Er;have hr:(Op.equalIn 10000 t (.agg xs') (.agg ys')).run P w=.ok b w:=ac6 (w:=w) 8 h hx hy 9992;have QQ:P.eqGuardType P.depth t=false:=by simpa using hg
  refine⟨?_,?_⟩
  ·rw[cQ,run_eqGuard_agg _ _ _ _ _ _ _ QQ,cK,run_eql_struct,hr,cK]
  ·rw[cQ,run_eqGuard_agg _ _ _ _ _ _ _ QQ,cK,run_neq_struct,hr,cK]
 ·cases h
def acQ(hW:bI σ W w.heap){op:BinOp}{t yt:ag}{x y:au}{ρ:au->ad}{u u' v:ad}{dst:Option Tmp}{type:ag}{pos:String}{after:Array Edge}{guard:Option (Nat×Bool)}
 (h:rV P W op t u u'=some v)(hx:VR σ u (ρ x))(hy:VR σ u' (ρ y)):
 ∃v',(execOp ρ {dst,op:=.binOp op t x y yt,type,pos,after,guard}).run P w=.ok (.value v') w/\VR σ v v':=by
 unfold rV at h;split at h
 ·rename_i k a k' b;split at h
  ·rename_i hk;subst hk;have ex:ρ x=.int k a:=hx.uS;have ey:ρ y=.int k b:=hy.uS;refine⟨v,?_,?_⟩
   ·have hg:∀(A B:ad),(eqGuard op t x y (.int k a) (.int k b)).run P w=.ok () w:=by intro _ _;unfold eqGuard;split<;>simp
    simp only[execOp,ex,ey,cQ,hg .nilIface .nilIface,cK];unfold H7 at h;split at h<;>(try(cases h;done))<;>(injection h with h;subst h;try simp only[sr,Ap])<;>
     simp[binOp,Op.intArith,Op.intCmp,bne]<;>(try rfl)
   ·unfold H7 at h;split at h<;>(try(cases h;done))<;>(injection h with h;subst h;try simp only[sr])<;>first|exact .int _ _|exact .bool _
  ·cases h
 ·have key:∀b,px P W t u u'=some b->(Op.equal t (ρ x) (ρ y)).run P w=.ok b w:=λb hb=>acY hW hb hx hy 9999
  have shp:∀b,px P W t u u'=some b->(∀(op:BinOp),(eqGuard op t x y (ρ x) (ρ y)).run P w=.ok () w)/\(binOp .eql t (ρ x) (ρ y)=(do pure (.bool (<-Op.equal t (ρ x) (ρ y)))))/\(binOp .neq t (ρ x) (ρ y)=(do pure (.bool (!(<-Op.equal t (ρ x) (ρ y)))))):=by
   intro b hb;unfold px at hb;split at hb<;>first
    |(cases hb;done)
    |(generalize ρ x=rx at *
      generalize ρ y=ry at *
      cases hx<;>cases hy<;>refine⟨λop=>?_,rfl,rfl⟩<;>(unfold eqGuard;split<;>simp))
  split at h
  ·cases he:px P W t u u' with
   |none=>
    rw[he]at h;cases ht:J8 P t u u' with
    |none=>rw[ht]at h;cases h
    |some b=>rw[ht]at h;simp only[dq,iW]at h;subst h;have:=(Qn (w:=w) ht hx hy x y).1;exact⟨.bool b,by simp only[execOp];rw[cQ,this];rfl,.bool b⟩
   |some b=>rw[he]at h;simp only[iW]at h;subst h;obtain⟨s1,s2,s3⟩:=shp b he;exact⟨.bool b,by simp[execOp,s1,s2,key b he],.bool b⟩
  ·cases he:px P W t u u' with
   |none=>
    rw[he]at h;cases ht:J8 P t u u' with
    |none=>rw[ht]at h;cases h
    |some b=>rw[ht]at h;simp only[dq,iW]at h;subst h;have:=(Qn (w:=w) ht hx hy x y).2;exact⟨.bool (!b),by simp only[execOp];rw[cQ,this];rfl,.bool _⟩
   |some b=>rw[he]at h;simp only[iW]at h;subst h;obtain⟨s1,s2,s3⟩:=shp b he;exact⟨.bool (!b),by simp[execOp,s1,s3,key b he],.bool _⟩
  ·cases h
def lC(P:ah)(σ:dx)(W:AW)(w:ar)(s:Sem Next)(v:ad)(W':AW):Prop:=
 ∃σ' nx v' w',s.run P w=.ok nx w'/\(nx=.value v'\/(nx=.skip/\v'=ak))/\VR σ' v v'/\bI σ' W' w'.heap/\fR σ W w σ' W' w'
def lC.value{s:Sem ad}{v v':ad}{nx:Sem Next}(hn:nx=(do pure (.value (<-s))))(hW:bI σ W w.heap)(h:s.run P w=.ok v' w)(hv:VR σ v v'):lC P σ W w nx v W:=
 ⟨σ,.value v',v',w,by rw[hn];simp[h],.inl rfl,hv,hW,fR.refl _ _ _⟩
def lC.oZ{s:Sem ad}{v:ad}{W':AW}{nx:Sem Next}(hn:nx=(do pure (.value (<-s))))(h:∃σ' v' w',s.run P w=.ok v' w'/\VR σ' v v'/\bI σ' W' w'.heap/\fR σ W w σ' W' w'):lC P σ W w nx v W':=by obtain⟨σ',v',w',h1,h2,h3,h4⟩:=h;exact⟨σ',.value v',v',w',by rw[hn];simp[h1],.inl rfl,h2,h3,h4⟩
def lC.unit{s:Sem Unit}{W':AW}{nx:Sem Next}(hn:nx=(do s;pure .skip))(h:∃w',s.run P w=.ok () w'/\bI σ W' w'.heap/\fR σ W w σ W' w'):lC P σ W w nx ak W':=by obtain⟨w',h1,h2,h3⟩:=h;exact⟨σ,.skip,ak,w',by rw[hn];simp[h1],.inr ⟨rfl,rfl⟩,.undef,h2,h3⟩
def lC.same{v v':ad}{nx:Sem Next}(hn:nx=pure (.value v'))(hW:bI σ W w.heap)(hv:VR σ v v'):lC P σ W w nx v W:=
 ⟨σ,.value v',v',w,by rw[hn];rfl,.inl rfl,hv,hW,fR.refl _ _ _⟩
def lC.aiM{R:ai.Fr}{ρ:au->ad}{o:am}{v:ad}(hW:bI σ W w.heap)(h:lg P R o=some v)(hρ:∀x∈o.op.operands,VR σ (aE R x) (ρ x)):lC P σ W w (execOp ρ o) v W:=by obtain⟨h1,h2⟩:=XN (P:=P) h hρ w;exact⟨σ,.value v,v,w,h1,.inl rfl,h2,hW,fR.refl _ _ _⟩
def agj(hW:bI σ W w.heap)(t:ag){cs cU:List ad}(hc:LR σ cs cU):
 ∃σ' v' w',((do pure (.pointer (some (<-newRow t cU.toArray)))):Sem ad).run P w=.ok v' w'/\VR σ' (.pointer (some ⟨W.next,0,none⟩)) v'/\bI σ' (W.add (.cells cs)) w'.heap/\fR σ W w σ' (W.add (.cells cs)) w':=by
 obtain⟨h1,h2,h3,h4⟩:=CM (P:=P) hW t hc;have hv:=VR.ptr (σ:=cx σ W.next ⟨w.heap.size,0,cs.length⟩) ⟨W.next,0,none⟩ _ h2 rfl;exact⟨_,.pointer (some ⟨w.heap.size,0,none⟩),{w with heap:=w.heap.push (.cells cU.toArray t)},by simp[h1],by simpa using hv,h3,h4⟩
def Nz(t:ag)(cs:List ad):∀ds,rl t cs≠ .ro ds:=by intro ds;unfold rl;split<;>simp
def J3{σ:dx}{h:Array rU}{B:Nat}{t:ag}{cs cU:List ad}(hc:LR σ cs cU)(hB:h[B]? =some (.cells cU.toArray t (0,0))):pw σ h ⟨B,0,cs.length⟩ (rl t cs):=by
 have hl:=hc.1;unfold rl;split
 ·refine⟨rfl,by simp,⟨by simp[maxLen],λ_=>rfl⟩,cU.toArray,hB,by simp,by simpa using hl,λi v hv=>?_⟩;obtain⟨v',a,b⟩:=hc.get hv;exact⟨v',by simpa using a,b⟩
 ·refine⟨cU.toArray,t,(0,0),hB,λ_=>rfl,by simp,by simp[hl],λi v hv=>?_⟩;obtain⟨v',a,b⟩:=hc.get hv;exact⟨v',by simpa using a,b⟩
def adF(hW:bI σ W w.heap)(t:ag){cs cU:List ad}(hc:LR σ cs cU):
 ∃σ' v' w',((do pure (.pointer (some (<-newRow t cU.toArray)))):Sem ad).run P w=.ok v' w'/\VR σ' (.pointer (some ⟨W.next,0,none⟩)) v'/\bI σ' (W.add (rl t cs)) w'.heap/\fR σ W w σ' (W.add (rl t cs)) w':=by
 have hv:=VR.ptr (σ:=cx σ W.next ⟨w.heap.size,0,cs.length⟩) ⟨W.next,0,none⟩ _ dM rfl;obtain⟨h3,h4⟩:=hW.alloc (o:=rl t cs) (x:=.cells cU.toArray t) (e:=cs.length) (J3 (hc.mono (dT hW.fresh)) (by simp)) (Nz t cs);exact⟨_,.pointer (some ⟨w.heap.size,0,none⟩),{w with heap:=w.heap.push (.cells cU.toArray t)},by simp[newRow],by simpa using hv,h3,h4⟩
def UR{R:ai.Fr}{ρ:au->ad}{x:Option au}(h:∀y,x=some y->VR σ (aE R y) (ρ y)):OR σ (x.map (aE R)) (x.map ρ):=by
 cases x with
 |none=>trivial
 |some y=>exact h y rfl
def Bz{R:ai.Fr}{ρ:au->ad}(a:Array au)(h:∀y∈a,VR σ (aE R y) (ρ y)):LR σ (a.map (aE R)).toList (a.map ρ).toList:=by
 refine⟨by simp,λi v v' x y=>?_⟩;simp only[Array.toList_map,ly]at x y;cases hq:a.toList[i]? with
 |none=>rw[hq]at x;cases x
 |some q=>rw[hq]at x y;simp at x y;subst x;subst y;exact h q (by simpa using za hq)
def XE(hW:bI σ W w.heap):
 ∃σ' v' w',((do pure (.map (some (<-newObj (.map #[] 0))))):Sem ad).run P w=.ok v' w'/\VR σ' (.map (some W.next)) v'/\bI σ' (W.add (.map [] 0)) w'.heap/\fR σ W w σ' (W.add (.map [] 0)) w':=by
 have h:=hW.alloc (o:=.map [] 0) (x:=.map #[] 0) (e:=1) ⟨rfl,rfl,#[],by rw[x8];simp,.nil⟩;exact⟨_,.map (some w.heap.size),{w with heap:=w.heap.push (.map #[] 0)},by simp,.map _ _ dM,h.1,h.2⟩
set_option maxHeartbeats 1000000 in
def WF(hW:bI σ W w.heap){o:am}{R:ai.Fr}{ρ:au->ad}{v:ad}{W':AW}(h:LQ P o R W=some (v,W'))(hρ:∀x∈o.op.operands,VR σ (aE R x) (ρ x)):
 lC P σ W w (execOp ρ o) v W':=by
 have Qv:∀u,lg P R o=some u->lC P σ W w (execOp ρ o) u W:=λu hu=>.aiM hW hu hρ
 have jM:∀(x:Option ad),(x.map λv=>(v,W))=some (v,W')->x=some v/\W'=W:=by
  intro x hx;cases x with
  |none=>cases hx
  |some u=>simp at hx;exact⟨by rw[hx.1],hx.2.symm⟩
 have aiY:∀(x:Option AW),(x.map λW'=>(ak,W'))=some (v,W')->x=some W'/\v=ak:=by
  intro x hx;cases x with
  |none=>cases hx
  |some u=>simp at hx;exact⟨by rw[hx.2],hx.1.symm⟩
 obtain⟨dst,op,type,pos,after,guard⟩:=o;cases op<;>simp only[LQ]at h<;>simp only[Op.operands]at hρ;case move x=>injection h with h;injection h with h1 h2;subst h1;subst h2;exact .same rfl hW (hρ x (by simp))
 case assign x=>injection h with h;injection h with h1 h2;subst h1;subst h2;exact .same rfl hW (hρ x (by simp))
 case pick c a b=>
  have hc:=hρ c (by simp);split at h<;>(try(cases h;done))<;>rename_i ub<;>rw[ub]at hc
  ·injection h with h;injection h with h1 h2;subst h1;subst h2;have:=hc.jY;exact⟨σ,.value (ρ a),ρ a,w,by simp[execOp,this,asBool],.inl rfl,hρ a (by simp),hW,fR.refl _ _ _⟩
  ·injection h with h;injection h with h1 h2;subst h1;subst h2;have:=hc.jY;exact⟨σ,.value (ρ b),ρ b,w,by simp[execOp,this,asBool],.inl rfl,hρ b (by simp),hW,fR.refl _ _ _⟩
 case alloc t=>
  split at h
  ·rename_i z hz;injection h with h;rw[AW.dU]at h;injection h with h1 h2;subst h1;subst h2;obtain⟨Ck,yY⟩:=jd hz w;refine .oZ rfl ?_;obtain⟨σ',v',w',a,b,c⟩:=adF (P:=P) hW t (cs:=z.cells.toList) (cU:=z.cells.toList) (IV yY);refine⟨σ',v',w',?_,b,c⟩;rw[<-a];simp[Instr.alloc,Ck,newVar]
  ·cases h
 case box t x=>injection h with h;rw[AW.dU]at h;injection h with h1 h2;subst h1;subst h2;refine .oZ rfl ?_;obtain⟨σ',v',w',a,b,c⟩:=agj (P:=P) hW t (hρ x (by simp)).cells;refine⟨σ',v',w',?_,b,c⟩;rw[<-a];simp[Instr.box,newVar]
 case build t ps=>obtain⟨hb,rfl⟩:=jM _ h;obtain⟨v',h1,h2⟩:=UL hb (λp hp=>hρ p.2 (by simp;exact⟨p.1,by simpa using hp⟩)) w;exact .value rfl hW h1 h2
 case buildSlice t len ps=>exact .oZ rfl (Ii hW h (λp hp=>hρ p.2 (by simp;exact⟨p.1,by simpa using hp⟩)))
 case insert=>cases h
 case load t a=>obtain⟨hb,rfl⟩:=jM _ h;obtain⟨v',h1,h2⟩:=ND hW hb (hρ a (by simp));exact .value rfl hW h1 h2
 case store t a x=>obtain⟨hb,rfl⟩:=aiY _ h;exact .unit rfl (Ug hW hb (hρ a (by simp)) (hρ x (by simp)))
 case ready=>cases h
 case waits=>cases h
 case nilCheck x=>
  have hx:=hρ x (by simp);split at h<;>(try(cases h;done))<;>rename_i ub<;>rw[ub]at hx<;>injection h with h<;>injection h with h1 h2<;>subst h1<;>subst h2
  ·obtain⟨g,_,_,e⟩:=hx.xm;exact⟨σ,.value (ρ x),ρ x,w,by simp[execOp,e],.inl rfl,hx,hW,fR.refl _ _ _⟩
  ·obtain⟨LO,yj,cU,hf,_,_,e⟩:=hx.mR;cases hf;exact⟨σ,.value (ρ x),ρ x,w,by simp[execOp,e],.inl rfl,hx,hW,fR.refl _ _ _⟩
  ·obtain⟨LO,yj,cU,hf,_,_,e⟩:=hx.mR;cases hf;exact⟨σ,.value (ρ x),ρ x,w,by simp[execOp,e],.inl rfl,hx,hW,fR.refl _ _ _⟩
  ·obtain⟨u',_,e⟩:=hx.E7;exact⟨σ,.value (ρ x),ρ x,w,by simp[execOp,e],.inl rfl,hx,hW,fR.refl _ _ _⟩
 case binOp op t x y yt=>
  split at h
  ·rename_i u hb;injection h with h;injection h with h1 h2;subst h1;subst h2;obtain⟨v',h1,h2⟩:=acQ (dst:=dst) (type:=type) (pos:=pos) (after:=after) (guard:=guard) (yt:=yt) hW hb (hρ x (by simp)) (hρ y (by simp));exact⟨σ,.value v',v',w,h1,.inl rfl,h2,hW,fR.refl _ _ _⟩
  ·obtain⟨hb,rfl⟩:=jM _ h;exact Qv _ hb
 case unOp=>obtain⟨hb,rfl⟩:=jM _ h;exact Qv _ hb
 case convert s d x=>
  obtain⟨hb,rfl⟩:=jM _ h;unfold Jx at hb;split at hb
  ·rename_i a0 n0 c0 DZ;obtain⟨v',a,b⟩:=Mp hW hb (by rw[<-DZ];exact hρ x (by simp));exact .value rfl hW a b
  ·exact Qv _ hb
 case sliceToArrayPointer=>cases h
 case makeInterface t x=>
  split at h
  ·cases h
  ·rename_i d hd hu;injection h with h;injection h with h1 h2;subst h1;subst h2;refine .value rfl hW (v':=.iface t (ρ x)) ?_ (.iface _ _ _ (hρ x (by simp)));simp only[Instr.makeInterface,cQ,cg hu,cK];cases d<;>first|rfl|exact absurd rfl (hd _)
  ·cases h
 case makeFunc fn first kT=>
  cases fn<;>(try(simp only[]at h;cases h;done));rename_i f0;simp only at h;injection h with h;injection h with h1 h2;subst h1;subst h2;have k1:=Bz first (λy hy=>hρ y (by simp[hy]))
  have k2:=Bz kT (λy hy=>hρ y (by simp[hy]));exact .value (s:=Instr.makeFunc (.func f0) (first.map ρ) (kT.map ρ)) rfl hW rfl (.func _ _ _ _ _ _ (.func f0) k1.arr.1 k1.arr.2 k2.arr.1 k2.arr.2)
 case makeMap t r=>
  split at h
  ·injection h with h;rw[AW.dU]at h;injection h with h1 h2;subst h1;subst h2;refine .oZ rfl ?_;obtain⟨σ',v',w',a,b,c⟩:=XE (P:=P) hW;exact⟨σ',v',w',by rw[<-a];simp[Instr.makeMap],b,c⟩
  ·rename_i hh;split at h
   ·rename_i kt e kd n hu he;injection h with h;rw[AW.dU]at h;injection h with h1 h2;subst h1;subst h2;refine .oZ rfl ?_;obtain⟨σ',v',w',a,b,c⟩:=XE (P:=P) hW;have hv:=hρ hh (by simp);rw[he]at hv;exact⟨σ',v',w',by rw[<-a];simp[Instr.makeMap,cg hu,hv.uS,asInt,asIntOf],b,c⟩
   ·cases h
 case makeChan=>cases h
 case makeSlice t l c=>exact .oZ rfl (La hW h (hρ l (by simp)) (hρ c (by simp)))
 case slice t x lo hi mx=>
  split at h
  ·rename_i u hs;injection h with h;injection h with h1 h2;subst h1;subst h2;obtain⟨v',a,b⟩:=VI hs (hρ x (by simp)) (UR (λy hy=>hρ y (by simp[hy]))) (UR (λy hy=>hρ y (by simp[hy]))) (UR (λy hy=>hρ y (by simp[hy]))) w;exact .value rfl hW a b
  ·obtain⟨hb,rfl⟩:=jM _ h;exact Qv _ hb
 case fieldAddr s x f=>
  split at h
  ·rename_i fs a hu DZ;split at h
   ·rename_i fl wO;split at h
    ·rename_i n hn;injection h with h;injection h with h1 h2;subst h1;subst h2;have hx:=hρ x (by simp);rw[DZ]at hx;obtain⟨g,hg,wN,e⟩:=hx.xm;refine .value rfl hW (v':=.pointer (some ⟨g.B,g.s+(a.add fl.offset).off,none⟩)) ?_ (.ptr _ g (by rw[jp];exact hg) (sV _ _ wN));simp[Instr.fieldAt,cg hu,wO,e,Instr.sureAddr,fieldPlace,bU hn,dv,uG,gV]
    ·cases h
   ·cases h
  ·cases h
 case field t x f=>
  split at h
  ·rename_i fs cs hu DZ;split at h
   ·rename_i fl wO;obtain⟨hb,rfl⟩:=jM _ h;have hx:=hρ x (by simp);rw[DZ]at hx;obtain⟨cU,hc,e⟩:=hx.Wm;obtain⟨v',a,b⟩:=Bi (P:=P) hb hc w;exact .value rfl hW (by simp[Instr.field,cg hu,wO,e,asAgg,a]) b
   ·cases h
  ·cases h
 case indexAddr t x i=>
  have hi:=hρ i (by simp);have hx:=hρ x (by simp);split at h
  ·rename_i e a len cap n hu DZ hn;obtain⟨k,sf⟩:=A8 hn hi;rw[DZ]at hx;split at h
   ·rename_i z hz;split at h
    ·rename_i mC;injection h with h;injection h with h1 h2;subst h1;subst h2;rcases hx.XV with⟨g,c',hg,wN,hc,e'⟩|⟨h0,_⟩
     ·refine .value rfl hW (v':=.pointer (some ⟨g.B,g.s+(a.add (n*z)).off,none⟩)) ?_ (.ptr _ g (by rw[jp];exact hg) (sV _ _ wN));simp[Instr.indexAt,sf,e',asIntOf,cg hu,mC,bU hz,dv,uG,gV]
     ·omega
    ·cases h
   ·cases h
  ·rename_i len e a n hu DZ hn;obtain⟨k,sf⟩:=A8 hn hi;rw[DZ]at hx;split at h
   ·rename_i z hz;split at h
    ·rename_i mC;injection h with h;injection h with h1 h2;subst h1;subst h2;obtain⟨g,hg,wN,e'⟩:=hx.xm;refine .value rfl hW (v':=.pointer (some ⟨g.B,g.s+(a.add (n*z)).off,none⟩)) ?_ (.ptr _ g (by rw[jp];exact hg) (sV _ _ wN));simp[Instr.indexAt,sf,e',asIntOf,cg hu,Instr.sureAddr,mC,bU hz,dv,uG,gV]
    ·cases h
   ·cases h
  ·cases h
 case index t x i=>
  have hi:=hρ i (by simp);have hx:=hρ x (by simp);split at h
  ·rename_i len e cs n hu DZ hn;obtain⟨k,sf⟩:=A8 hn hi;rw[DZ]at hx;split at h
   ·rename_i z hz;split at h
    ·rename_i mC;obtain⟨hb,rfl⟩:=jM _ h;obtain⟨cU,hc,e'⟩:=hx.Wm;obtain⟨v',a,b⟩:=Bi (P:=P) hb hc w;exact .value rfl hW (by simp[Instr.index,sf,e',asIntOf,cg hu,mC,bU hz,a]) b
    ·cases h
   ·cases h
  ·obtain⟨hb,rfl⟩:=jM _ h;exact Qv _ hb
 case lookup t m k ok=>obtain⟨hb,rfl⟩:=jM _ h;obtain⟨v',a,b⟩:=Tb hW hb (hρ m (by simp)) (hρ k (by simp));exact .value rfl hW a b
 case mapUpdate t m k u=>obtain⟨hb,rfl⟩:=aiY _ h;exact .unit rfl (Kg hW hb (hρ m (by simp)) (hρ k (by simp)) (hρ u (by simp)))
 case mapEntry=>cases h
 case entryStore=>cases h
 case range t x=>
  split at h
  ·rename_i s hu DZ;injection h with h;rw[AW.dU]at h;injection h with h1 h2;subst h1;subst h2;have hx:=hρ x (by simp);rw[DZ]at hx;have hal:=hW.alloc (o:=.qJ s 0) (x:=.stringIter s 0) (e:=1) ⟨rfl,rfl,by rw[x8];simp⟩;have hv:=VR.ptr (σ:=cx σ W.next ⟨w.heap.size,0,1⟩) ⟨W.next,0,none⟩ _ dM rfl;exact .oZ rfl ⟨_,.pointer (some ⟨w.heap.size,0,none⟩),{w with heap:=w.heap.push (.stringIter s 0)},by simp[Instr.range,cg hu,hx.CV],by simpa using hv,hal.1,hal.2⟩
  ·cases h
 case next it isS=>
  cases isS<;>simp only at h
  ·cases h
  have hx:=hρ it (by simp);split at h
  ·rename_i b sp hit;rw[hit]at hx;obtain⟨g,hg,wN,e⟩:=hx.xm;split at h
   ·rename_i s ps dX;obtain⟨g1,g2,g3⟩:=hW.obj b _ g dX hg;have hgo:(getObj g.B).run P w=.ok (.stringIter s ps) w:=by simp[getObj,Sem.run,g3]
    have e2:ρ it=.pointer (some ⟨g.B,0,none⟩):=by rw[e];simp[g1]
    split at h
    ·rename_i mC;injection h with h;injection h with h1 h2;subst h1;subst h2;have aus:g.B<w.heap.size:=(eS.1 g3).1;have hso:(setObj g.B (.stringIter s (ps+(Utf8.decode s ps).2))).run P w=.ok () {w with heap:=w.heap.setIfInBounds g.B (.stringIter s (ps+(Utf8.decode s ps).2))}:=by simp[setObj,Sem.run,g3]
     have hq:=hW.setObj (o':=.qJ s (ps+(Utf8.decode s ps).2)) (x:=.stringIter s (ps+(Utf8.decode s ps).2)) dX (λ_ hx=>by cases hx) hg ⟨g1,g2⟩ (λc t fr hx=>by rw[g3]at hx;cases hx) ⟨g1,g2,by simp[aus]⟩;exact .oZ rfl ⟨σ,.tuple #[.bool true,goInt ps,.int .i32 (Utf8.decode s ps).1],_,by simp[Instr.next,e2,hgo,mC,hso],VR.tuple' (by simpa[goInt]using LR.cons (.bool true) (.cons (.int _ _) (.cons (.int _ _) .nil))),hq.1,hq.2⟩
    ·rename_i mC;injection h with h;injection h with h1 h2;subst h1;subst h2;exact .value rfl hW (v':=.tuple #[.bool false]) (by simp[Instr.next,e2,hgo,mC]) (VR.tuple' (by simpa using LR.cons (.bool false) .nil))
   ·cases h
  ·cases h
 case entry=>cases h
 case typeAssert x xt t ok=>
  split at h
  ·cases h
  ·rename_i d u v0 hd hu DZ;split at h
   ·rename_i hut;subst hut;injection h with h;injection h with h1 h2;subst h1;subst h2;have hx:=hρ x (by simp);rw[DZ]at hx;obtain⟨u',h1,e⟩:=hx.E7;refine .value rfl hW (v':=if ok then .tuple #[u',.bool true]else u') ?_ ?_
    ·simp only[Instr.typeAssert,cQ,cg hu,cK,e];cases d<;>first|(simp;done)|exact absurd rfl (hd _)
    ·cases ok
     ·exact h1
     ·exact Pf h1 (.bool true)
   ·cases h
  ·cases h
 case extract x i=>
  split at h
  ·rename_i vs DZ;obtain⟨hb,rfl⟩:=jM _ h;have hx:=hρ x (by simp);rw[DZ]at hx;obtain⟨cU,hc,e⟩:=hx.ZQ;obtain⟨v',a,b⟩:=hc.get (i:=i) (v:=v) (by simpa using hb);have a':cU[i]? =some v':=by simpa using a
   exact .value rfl hW (v':=v') (by simp[Instr.extract,e,a']) b
  ·cases h
 case call=>cases h
 case go=>cases h
 case defer=>cases h
 case panic=>cases h
 case send=>cases h
 case recv=>cases h
 case select=>cases h
end
end
section
variable [ai]
abbrev Callee:=ad->List ad->AW->Option (ad×AW)
def FE(ro:Option Nat):Fence:={Fence.wide with round:=ro}
def kY(P:ah)(o:am)(b:Builtin)(argTypes:Array ag)(args:List ad)(R:ai.Fr)(W:AW):Option (ad×AW):=
 match b,args with
 |.len,[.slice _ n _]=>match(argTypes[0]?).bind P.underlying with
  |some (.slice _)=>some (goInt n,W)
  |_=>none
 |.len,[.map none]=>match(argTypes[0]?).bind P.underlying with
  |some (.map _ _)=>some (goInt 0,W)
  |_=>none
 |.len,[.map (some r)]=>match(argTypes[0]?).bind P.underlying,W.get r with
  |some (.map _ _),some (.map es _)=>some (goInt es.length,W)
  |_,_=>none
 |.append,[s,x]=>EV P W argTypes s x
 |.copy,[d,x]=>WV P W argTypes d x
 |.clear,[x]=>(PE P W argTypes x).map λW'=>(.tuple #[],W')
 |.delete,[m,k]=>(uA P W argTypes m k).map λW'=>(.tuple #[],W')
 |.unsafeSliceData,[x]=>(xu x).map λv=>(v,W)
 |.unsafeString,[p,n]=>qd P W argTypes p n
 |_,_=>(lg P R o).map λv=>(v,W)
def vW(P:ah)(t:ag)(name:String):Option jD:=
 match P.info? t,P.underlying t with
 |some i,some d=>match i.methods.find? (·.name==name)with
  |some m=>match m.path.toList,m.func,d with
   |[],some (f,true),.pointer _=>if 0<P.types.size then some f else none
   |_,_,_=>none
  |none=>none
 |_,_=>none
def js(P:ah)(call:Callee)(o:am)(R:ai.Fr)(W:AW):Option (ad×AW):=
 match o.op with
 |.call c=>match c.callee with
  |.builtin b=>kY P o b c.argTypes (c.args.toList.map (aE R)) R W
  |.value f=>call (aE R f) (c.args.toList.map (aE R)) W
  |.invoke r name=>match aE R r with
   |.iface t v=>match vW P t name with
    |some f=>call (.func (.func f) #[] #[]) (v::c.args.toList.map (aE R)) W
    |none=>none
   |_=>none
 |_=>LQ P o R W
def H1:ad->Option bg:=Value.rec (motive_1:=λ_=>Option bg) (motive_2:=λ_=>PUnit) (motive_3:=λ_=>PUnit) (λ_=>none) (λ_ _=>none) (λ_ _=>none) (λ_ _ _=>none) (λ_=>none) (λa=>a) (λ_ _ _=>none) (λ_=>none) (λ_=>none) (λ_ _ _ _ _=>none) (none) (λ_ _ _=>none) (none) (λ_ _=>none) (λ_ _=>none) (λ_ _=>.unit) .unit (λ_ _ _ _=>.unit)
def aiW:ad->Option Bool:=Value.rec (motive_1:=λ_=>Option Bool) (motive_2:=λ_=>PUnit) (motive_3:=λ_=>PUnit) (λb=>some b) (λ_ _=>none) (λ_ _=>none) (λ_ _ _=>none) (λ_=>none) (λ_=>none) (λ_ _ _=>none) (λ_=>none) (λ_=>none) (λ_ _ _ _ _=>none) (none) (λ_ _ _=>none) (none) (λ_ _=>none) (λ_ _=>none) (λ_ _=>.unit) .unit (λ_ _ _ _=>.unit)
def aps:ad->Option (be×Int):=Value.rec (motive_1:=λ_=>Option (be×Int)) (motive_2:=λ_=>PUnit) (motive_3:=λ_=>PUnit) (λ_=>none) (λk n=>some (k,n)) (λ_ _=>none) (λ_ _ _=>none) (λ_=>none) (λ_=>none) (λ_ _ _=>none) (λ_=>none) (λ_=>none) (λ_ _ _ _ _=>none) (none) (λ_ _ _=>none) (none) (λ_ _=>none) (λ_ _=>none) (λ_ _=>.unit) .unit (λ_ _ _ _=>.unit)
def aae:ad->Option Nat:=Value.rec (motive_1:=λ_=>Option Nat) (motive_2:=λ_=>PUnit) (motive_3:=λ_=>PUnit) (λ_=>none) (λ_ n=>Int.rec (motive:=λ_=>Option Nat) (λn=>some n) (λ_=>none) n) (λ_ _=>none) (λ_ _ _=>none) (λ_=>none) (λ_=>none) (λ_ _ _=>none) (λ_=>none) (λ_=>none) (λ_ _ _ _ _=>none) (none) (λ_ _ _=>none) (none) (λ_ _=>none) (λ_ _=>none) (λ_ _=>.unit) .unit (λ_ _ _ _=>.unit)
def vSl:ad->Option (bg×Nat):=Value.rec (motive_1:=λ_=>Option (bg×Nat)) (motive_2:=λ_=>PUnit) (motive_3:=λ_=>PUnit) (λ_=>none) (λ_ _=>none) (λ_ _=>none) (λ_ _ _=>none) (λ_=>none) (λ_=>none) (λa l _=>Option.rec (motive:=λ_=>Option (bg×Nat)) none (λa=>some (a,l)) a) (λ_=>none) (λ_=>none) (λ_ _ _ _ _=>none) (none) (λ_ _ _=>none) (none) (λ_ _=>none) (λ_ _=>none) (λ_ _=>.unit) .unit (λ_ _ _ _=>.unit)
def apB:ad->Option (Array ad):=Value.rec (motive_1:=λ_=>Option (Array ad)) (motive_2:=λ_=>PUnit) (motive_3:=λ_=>PUnit) (λ_=>none) (λ_ _=>none) (λ_ _=>none) (λ_ _ _=>none) (λ_=>none) (λ_=>none) (λ_ _ _=>none) (λ_=>none) (λ_=>none) (λ_ _ _ _ _=>none) (none) (λ_ _ _=>none) (none) (λ_ _=>none) (λv _=>some v) (λ_ _=>.unit) .unit (λ_ _ _ _=>.unit)
def abB(v:ad):aae v=kJ v:=by cases v<;>first|rfl|(rename_i k n;cases n<;>rfl)
def VZ(P:ah)(W:AW)(t:ag)(a:bg):Option (ad×AW):=
 match YK P t with
 |some false=>match aH W a.block with
  |some cs=>(ahA cs a.off).map λv=>(v,W)
  |none=>none
 |some true=>match nX P t with
  |some n=>(pD W a.block a.off n).map λl=>(.agg l.toArray,W)
  |none=>none
 |none=>none
def aa4(P:ah)(W:AW)(t:ag)(v:ad):(match H1 v with|some a=>VZ P W t a|none=>none)=(lR P W t v).map λv=>(v,W):=by
 cases v with
 |pointer a=>
  cases a with
  |none=>rfl
  |some a=>
   show VZ P W t a=_;unfold VZ lR;cases YK P t with
   |none=>rfl
   |some b=>
    cases b with
    |false=>simp only;cases aH W a.block<;>rfl
    |true=>
     simp only;cases nX P t with
     |none=>rfl
     |some n=>simp only;cases pD W a.block a.off n<;>rfl
 |_=>rfl
def N5(P:ah)(W:AW)(t:ag)(a:bg)(v:ad):Option (ad×AW):=
 match nX P t with
 |some n=>if v.cells.size=n then(rG W a.block a.off v.cells.toList).map λW'=>(ak,W')else none
 |none=>none
def ZN(P:ah)(W:AW)(t:ag)(x v:ad):(match H1 x with|some a=>N5 P W t a v|none=>none)=(Ct P W t x v).map λW'=>(ak,W'):=by
 cases x with
 |pointer a=>
  cases a with
  |none=>rfl
  |some a=>
   show N5 P W t a v=_;unfold N5 Ct;cases nX P t with
   |none=>rfl
   |some n=>simp only;split<;>rfl
 |_=>rfl
def aad:BinOp->be->Int->Int->Option ad:=BinOp.rec (motive:=λ_=>be->Int->Int->Option ad) (λk a b=>some (CR k (Hc k (a+b)))) (λk a b=>some (CR k (Hc k (a-b)))) (λk a b=>some (CR k (Hc k (a*b)))) (λ_ _ _=>none) (λ_ _ _=>none) (λ_ _ _=>none) (λ_ _ _=>none) (λ_ _ _=>none) (λ_ _ _=>none) (λ_ _ _=>none) (λ_ _ _=>none) (λ_ a b=>some (.bool (decide (a=b)))) (λ_ a b=>some (.bool (!decide (a=b)))) (λ_ a b=>some (.bool (decide (a<b)))) (λ_ a b=>some (.bool (decide (a<=b)))) (λ_ a b=>some (.bool (decide (b<a)))) (λ_ a b=>some (.bool (decide (b<=a))))
def acu(op:BinOp)(k:be)(a b:Int):aad op k a b=H7 op k a b:=by cases op<;>rfl
def aog(P:ah)(W:AW)(op:BinOp)(t:ag)(x y:ad):Option ad:=
 match aps x with
 |some (k,a)=>match aps y with
  |some (k',b)=>if k=k' then aad op k a b else none
  |none=>rV P W op t x y
 |none=>rV P W op t x y
def agr(P:ah)(W:AW)(op:BinOp)(t:ag)(x y:ad):aog P W op t x y=rV P W op t x y:=by
 cases x with
 |int k a=>
  cases y with
  |int k' b=>show(if k=k' then aad op k a b else none)=_;rw[acu];rfl
  |_=>rfl
 |_=>rfl
def Vu(P:ah)(s:ag)(f:Nat):Option Nat:=match P.underlying s with
 |some (.struct fs)=>match fs[f]? with
  |some fl=>match nX P fl.type with
   |some (_+1)=>some fl.offset
   |_=>none
  |none=>none
 |_=>none
def abx(P:ah)(t:ag):Option (Option Nat×Nat):=match P.underlying t with
 |some (.slice e)=>(nX P e).map λz=>(none,z)
 |some (.array n e)=>(nX P e).map λz=>(some n,z)
 |_=>none
def ahk{X:Type}(v:ad)(a b:X):(match aiW v with|some true=>some a|some false=>some b|none=>none)=(match v with|.bool true=>some a|.bool false=>some b|_=>none):=by
 cases v with
 |bool c=>cases c<;>rfl
 |_=>rfl
def Vv(W:AW)(v:ad)(i:Nat):(match apB v with|some vs=>(vs[i]?).map λv=>(v,W)|none=>none)=(match v with|.tuple vs=>(vs[i]?).map λv=>(v,W)|_=>none):=by cases v<;>rfl
def OM(P:ah)(W:AW)(s:ag)(v:ad)(f:Nat):
 (match H1 v with
 |some a=>(match Vu P s f with
  |some k=>some (Value.pointer (some (a.add k)),W)
  |none=>none)
 |none=>none)=(match P.underlying s,v with
 |some (.struct fs),.pointer (some a)=>match fs[f]? with
  |some fl=>match nX P fl.type with
   |some (_+1)=>some (.pointer (some (a.add fl.offset)),W)
   |_=>none
  |none=>none
 |_,_=>none):=by
 unfold Vu;generalize P.underlying s=u
 have yW:∀(o:Option TypeDesc) (v:ad),H1 v=none->(match o,v with
  |some (.struct fs),.pointer (some a)=>match fs[f]? with
   |some fl=>match nX P fl.type with
    |some (_+1)=>some (Value.pointer (some (a.add fl.offset)),W)
    |_=>none
   |none=>none
  |_,_=>none)=none:=by
  intro o v hv;split
  ·cases hv
  ·rfl
 cases hv:H1 v with
 |none=>exact(yW u v hv).symm
 |some a=>
  obtain rfl:v=.pointer (some a):=by
   cases v with
   |pointer b=>cases b with|none=>cases hv|some b=>injection hv with hv;rw[hv]
   |_=>cases hv
  cases u with
  |none=>rfl
  |some d=>
   cases d with
   |struct fs=>
    simp only;cases fs[f]? with
    |none=>rfl
    |some fl=>
     simp only;cases nX P fl.type with
     |none=>rfl
     |some n=>cases n<;>rfl
   |_=>rfl
def PN(P:ah)(W:AW)(t:ag)(v i:ad):
 (match abx P t with
 |some (none,z)=>(match vSl v with
  |some (a,len)=>(match aae i with
   |some n=>(match Nat.blt n len with
    |true=>some (Value.pointer (some (a.add (n*z))),W)
    |false=>none)
   |none=>none)
  |none=>none)
 |some (some len,z)=>(match H1 v with
  |some a=>(match aae i with
   |some n=>(match Nat.blt n len with
    |true=>some (.pointer (some (a.add (n*z))),W)
    |false=>none)
   |none=>none)
  |none=>none)
 |none=>none)=(match P.underlying t,v,kJ i with
 |some (.slice e),.slice (some a) len _,some n=>match nX P e with
  |some z=>if n<len then some (.pointer (some (a.add (n*z))),W)else none
  |none=>none
 |some (.array len e),.pointer (some a),some n=>match nX P e with
  |some z=>if n<len then some (.pointer (some (a.add (n*z))),W)else none
  |none=>none
 |_,_,_=>none):=by
 rw[abB];have key:∀(n len:Nat) (u:Option (ad×AW)),(match Nat.blt n len with|true=>u|false=>none)=if n<len then u else none:=by
  intro n len u;by_cases h:n<len
  ·have h1:Nat.blt n len=true:=by rw[jH];exact h
   rw[an h,h1]
  ·rw[aq h];cases hb:Nat.blt n len with
   |true=>exact absurd (by rw[jH]at hb;exact hb) h
   |false=>rfl
 simp only[key];unfold abx;generalize kJ i=k;generalize P.underlying t=u;cases u with
 |none=>rfl
 |some d=>
  cases d with
  |slice e=>
   cases hz:nX P e with
   |none=>cases v with
    |slice a l c=>cases a<;>cases k<;>simp[hz]
    |_=>simp[hz]
   |some z=>cases v with
    |slice a l c=>cases a<;>cases k<;>simp[hz,vSl]
    |_=>simp[hz,vSl]
  |array n e=>
   cases hz:nX P e with
   |none=>cases v with
    |pointer a=>cases a<;>cases k<;>simp[hz]
    |_=>simp[hz]
   |some z=>cases v with
    |pointer a=>cases a<;>cases k<;>simp[hz,H1]
    |_=>simp[hz,H1]
  |_=>rfl
def aqE(x:au)(P:ah)(call:Callee)(o:am)(R:ai.Fr)(W:AW):Option (ad×AW):=
 some (aE R x,W)
def afs(x:au)(P:ah)(call:Callee)(o:am)(R:ai.Fr)(W:AW):Option (ad×AW):=
 some (aE R x,W)
def anM(c:au)(a:au)(b:au)(P:ah)(call:Callee)(o:am)(R:ai.Fr)(W:AW):Option (ad×AW):=
 match aiW (aE R c)with
  |some true=>some (aE R a,W)
  |some false=>some (aE R b,W)
  |none=>none
def alT(t:ag)(P:ah)(call:Callee)(o:am)(R:ai.Fr)(W:AW):Option (ad×AW):=
 match kG P t with
  |some z=>some (W.new (rl t z.cells.toList) λb W'=>(Value.pointer (some ⟨b,0,none⟩),W'))
  |none=>none
def at3(t:ag)(x:au)(P:ah)(call:Callee)(o:am)(R:ai.Fr)(W:AW):Option (ad×AW):=
 some (W.new (.cells (aE R x).cells.toList) λb W'=>(Value.pointer (some ⟨b,0,none⟩),W'))
def alp(t:ag)(ps:Array (Nat×au))(P:ah)(call:Callee)(o:am)(R:ai.Fr)(W:AW):Option (ad×AW):=
 (CE P R t ps).map λv=>(v,W)
def Sx(t:ag)(n:Nat)(ps:Array (Nat×au))(P:ah)(call:Callee)(o:am)(R:ai.Fr)(W:AW):Option (ad×AW):=
 nG P R W t n ps
def ahC(_t:ag)(_m:au)(_k:au)(_v:au)(P:ah)(call:Callee)(o:am)(R:ai.Fr)(W:AW):Option (ad×AW):=
 js P call o R W
def apO(t:ag)(a:au)(P:ah)(call:Callee)(o:am)(R:ai.Fr)(W:AW):Option (ad×AW):=
 match H1 (aE R a)with
  |some a=>VZ P W t a
  |none=>none
def akr(t:ag)(a:au)(x:au)(P:ah)(call:Callee)(o:am)(R:ai.Fr)(W:AW):Option (ad×AW):=
 match H1 (aE R a)with
  |some a=>N5 P W t a (aE R x)
  |none=>none
def amo(_g:Nat)(P:ah)(call:Callee)(o:am)(R:ai.Fr)(W:AW):Option (ad×AW):=
 js P call o R W
def ajI(_g:Nat)(P:ah)(call:Callee)(o:am)(R:ai.Fr)(W:AW):Option (ad×AW):=
 js P call o R W
def ZL(_x:au)(P:ah)(call:Callee)(o:am)(R:ai.Fr)(W:AW):Option (ad×AW):=
 js P call o R W
def Uj(op:BinOp)(t:ag)(x:au)(y:au)(yt:ag)(P:ah)(call:Callee)(o:am)(R:ai.Fr)(W:AW):Option (ad×AW):=
 match aog P W op t (aE R x) (aE R y)with
  |some v=>some (v,W)
  |none=>(lg P R o).map λv=>(v,W)
def aqF(op:UnOp)(t:ag)(x:au)(P:ah)(call:Callee)(o:am)(R:ai.Fr)(W:AW):Option (ad×AW):=
 (lg P R o).map λv=>(v,W)
def ace(s:ag)(d:ag)(x:au)(P:ah)(call:Callee)(o:am)(R:ai.Fr)(W:AW):Option (ad×AW):=
 (Jx P W s d (aE R x) (lg P R o)).map λv=>(v,W)
def zG(_d:ag)(_x:au)(P:ah)(call:Callee)(o:am)(R:ai.Fr)(W:AW):Option (ad×AW):=
 js P call o R W
def K1(_t:ag)(_x:au)(P:ah)(call:Callee)(o:am)(R:ai.Fr)(W:AW):Option (ad×AW):=
 js P call o R W
def XZ(_fn:Fn)(_first:Array au)(_captured:Array au)(P:ah)(call:Callee)(o:am)(R:ai.Fr)(W:AW):Option (ad×AW):=
 js P call o R W
def adp(_t:ag)(_r:Option au)(P:ah)(call:Callee)(o:am)(R:ai.Fr)(W:AW):Option (ad×AW):=
 js P call o R W
def Yi(_t:ag)(_s:au)(P:ah)(call:Callee)(o:am)(R:ai.Fr)(W:AW):Option (ad×AW):=
 js P call o R W
def Ve(t:ag)(l:au)(c:au)(P:ah)(call:Callee)(o:am)(R:ai.Fr)(W:AW):Option (ad×AW):=
 pJ P W t (aE R l) (aE R c)
def ald(t:ag)(x:au)(lo:Option au)(hi:Option au)(mx:Option au)(P:ah)(call:Callee)(o:am)(R:ai.Fr)(W:AW):Option (ad×AW):=
 match mz P t (aE R x) (lo.map (aE R)) (hi.map (aE R)) (mx.map (aE R))with
  |some v=>some (v,W)
  |none=>(lg P R o).map λv=>(v,W)
def UO(s:ag)(x:au)(f:Nat)(P:ah)(call:Callee)(o:am)(R:ai.Fr)(W:AW):Option (ad×AW):=
 match H1 (aE R x)with
  |some a=>(match Vu P s f with
   |some k=>some (.pointer (some (a.add k)),W)
   |none=>none)
  |none=>none
def akc(t:ag)(x:au)(f:Nat)(P:ah)(call:Callee)(o:am)(R:ai.Fr)(W:AW):Option (ad×AW):=
 match P.underlying t,aE R x with
  |some (.struct fs),.agg cs=>match fs[f]? with
   |some fl=>(DN P fl.type cs fl.offset).map λv=>(v,W)
   |none=>none
  |_,_=>none
def UX(t:ag)(x:au)(i:au)(P:ah)(call:Callee)(o:am)(R:ai.Fr)(W:AW):Option (ad×AW):=
 match abx P t with
  |some (none,z)=>(match vSl (aE R x)with
   |some (a,len)=>(match aae (aE R i)with
    |some n=>(match Nat.blt n len with
     |true=>some (.pointer (some (a.add (n*z))),W)
     |false=>none)
    |none=>none)
   |none=>none)
  |some (some len,z)=>(match H1 (aE R x)with
   |some a=>(match aae (aE R i)with
    |some n=>(match Nat.blt n len with
     |true=>some (.pointer (some (a.add (n*z))),W)
     |false=>none)
    |none=>none)
   |none=>none)
  |none=>none
def amO(_t:ag)(_x:au)(_i:au)(P:ah)(call:Callee)(o:am)(R:ai.Fr)(W:AW):Option (ad×AW):=
 js P call o R W
def ahY(t:ag)(m:au)(k:au)(ok:Bool)(P:ah)(call:Callee)(o:am)(R:ai.Fr)(W:AW):Option (ad×AW):=
 (oB P W t (aE R m) (aE R k) ok).map λv=>(v,W)
def Vk(t:ag)(m:au)(k:au)(v:au)(P:ah)(call:Callee)(o:am)(R:ai.Fr)(W:AW):Option (ad×AW):=
 (jI P W t (aE R m) (aE R k) (aE R v)).map λW'=>(ak,W')
def YV(_t:ag)(_m:au)(_k:au)(P:ah)(call:Callee)(o:am)(R:ai.Fr)(W:AW):Option (ad×AW):=
 js P call o R W
def SK(_t:ag)(_m:au)(_s:au)(_v:au)(P:ah)(call:Callee)(o:am)(R:ai.Fr)(W:AW):Option (ad×AW):=
 js P call o R W
def ajm(_t:ag)(_x:au)(P:ah)(call:Callee)(o:am)(R:ai.Fr)(W:AW):Option (ad×AW):=
 js P call o R W
def an9(_it:au)(_s:Bool)(P:ah)(call:Callee)(o:am)(R:ai.Fr)(W:AW):Option (ad×AW):=
 js P call o R W
def ajD(_it:au)(P:ah)(call:Callee)(o:am)(R:ai.Fr)(W:AW):Option (ad×AW):=
 js P call o R W
def SL(_x:au)(_t:ag)(_a:ag)(_ok:Bool)(P:ah)(call:Callee)(o:am)(R:ai.Fr)(W:AW):Option (ad×AW):=
 js P call o R W
def aa3(x:au)(i:Nat)(P:ah)(call:Callee)(o:am)(R:ai.Fr)(W:AW):Option (ad×AW):=
 match apB (aE R x)with
  |some vs=>(vs[i]?).map λv=>(v,W)
  |none=>none
def apm(c:Call)(P:ah)(call:Callee)(o:am)(R:ai.Fr)(W:AW):Option (ad×AW):=
 match c.callee with
  |.builtin b=>kY P o b c.argTypes (c.args.toList.map (aE R)) R W
  |.value f=>call (aE R f) (c.args.toList.map (aE R)) W
  |.invoke r name=>match aE R r with
   |.iface t v=>match vW P t name with
    |some f=>call (.func (.func f) #[] #[]) (v::c.args.toList.map (aE R)) W
    |none=>none
   |_=>none
def hGo(_c:Call)(P:ah)(call:Callee)(o:am)(R:ai.Fr)(W:AW):Option (ad×AW):=
 js P call o R W
def al8(_c:Call)(P:ah)(call:Callee)(o:am)(R:ai.Fr)(W:AW):Option (ad×AW):=
 js P call o R W
def alH(_x:au)(P:ah)(call:Callee)(o:am)(R:ai.Fr)(W:AW):Option (ad×AW):=
 js P call o R W
def aqT(_c:au)(_x:au)(P:ah)(call:Callee)(o:am)(R:ai.Fr)(W:AW):Option (ad×AW):=
 js P call o R W
def aqw(_t:ag)(_c:au)(_ok:Bool)(P:ah)(call:Callee)(o:am)(R:ai.Fr)(W:AW):Option (ad×AW):=
 js P call o R W
def ah3(_cs:Array SelectCase)(_bl:Bool)(P:ah)(call:Callee)(o:am)(R:ai.Fr)(W:AW):Option (ad×AW):=
 js P call o R W
def atE:Op->ah->Callee->am->ai.Fr->AW->Option (ad×AW):=
 Op.rec (motive:=λ_=>ah->Callee->am->ai.Fr->AW->Option (ad×AW)) aqE afs anM alT at3 alp Sx ahC apO akr amo ajI ZL Uj aqF ace zG K1 XZ adp Yi Ve ald UO akc UX amO ahY Vk YV SK ajm an9 ajD SL aa3 apm hGo al8 alH aqT aqw ah3
def vM(P:ah)(call:Callee)(o:am)(R:ai.Fr)(W:AW):Option (ad×AW):=atE o.op P call o R W
def BA(P:ah)(call:Callee)(o:am)(R:ai.Fr)(W:AW):vM P call o R W=js P call o R W:=by
 obtain⟨dst,op,type,pos,after,guard⟩:=o;cases op with
 |pick c a b=>exact ahk (aE R c) _ _
 |load t a=>exact aa4 P W t (aE R a)
 |store t a x=>exact ZN P W t (aE R a) (aE R x)
 |binOp op t x y yt=>show Uj op t x y yt P call ⟨dst,.binOp op t x y yt,type,pos,after,guard⟩ R W=_;unfold Uj;rw[agr];rfl
 |extract x i=>exact Vv W (aE R x) i
 |fieldAddr s x f=>exact OM P W s (aE R x) f
 |indexAddr t x i=>exact PN P W t (aE R x) (aE R i)
 |_=>rfl
def B0(P:ah)(f':ad)(cZ:List ad)(w:ar)(R:ad->ar->Prop):Prop:=
 match f' with
 |.func (.func i) fs cs=>(callFunc i (fs++cZ.toArray++cs)).run P w=.ok (.enter i (fs++cZ.toArray++cs)) w/\
  CallsIn (FE none) 0 P i (fs++cZ.toArray++cs) w (λe w'=>∃v,e=.returned v/\R v w')
 |.func (.yield l) fs _=>∃f tmps aB4 bd,(Instr.yield l (fs++cZ.toArray)).run P w=.ok (.round l f tmps aB4 bd) w/\
  RoundIn (FE none) 0 P l f tmps aB4 bd w (λe w'=>∃v,e=.returned v/\R v w')
 |_=>False
def cl(P:ah)(ng:List Nat)(call:Callee):Prop:=
 ∀f args W v W',call f args W=some (v,W')->∀σ w f' cZ,bI σ W w.heap->BM σ ng->VR σ f f'->LR σ args cZ->
  B0 P f' cZ w (λv' w'=>∃σ',VR σ' v v'/\bI σ' W' w'.heap/\fR σ W w σ' W' w')
section
variable {P:ah} {σ:dx} {W:AW} {w:ar}
def Of(hW:bI σ W w.heap){b:Builtin}{R:ai.Fr}{ρ:au->ad}{v:ad}{W':AW}{dst:Option Tmp}{type:ag}{pos:String}{after:Array Edge}{guard:Option (Nat×Bool)}{args:Array au}{argTypes:Array ag}
 (h:kY P {dst,op:=.call {callee:=.builtin b,args,argTypes},type,pos,after,guard} b argTypes (args.toList.map (aE R)) R W=some (v,W'))(hρ:∀x∈args,VR σ (aE R x) (ρ x)):
 lC P σ W w (execOp ρ {dst,op:=.call {callee:=.builtin b,args,argTypes},type,pos,after,guard}) v W':=by
 have jM:∀(x:Option ad),(x.map λv=>(v,W))=some (v,W')->x=some v/\W'=W:=by
  intro x hx;cases x with
  |none=>cases hx
  |some u=>simp at hx;exact⟨by rw[hx.1],hx.2.symm⟩
 have ah8:∀(x:Option AW),(x.map λW'=>(Value.tuple #[],W'))=some (v,W')->x=some W'/\v=.tuple #[]:=by
  intro x hx;cases x with
  |none=>cases hx
  |some u=>simp at hx;exact⟨by rw[hx.2],hx.1.symm⟩
 have IS:execOp ρ {dst,op:=.call {callee:=.builtin b,args,argTypes},type,pos,after,guard}=builtin b argTypes type (args.map λ|.const _=>true|_=>false) (args.map ρ):=by simp[execOp,resolve,invoke];rfl
 have db:LR σ (args.toList.map (aE R)) (args.map ρ).toList:=by have:=Bz args hρ;simpa using this
 unfold kY at h;split at h
 ·rename_i A n c BX;rw[BX]at db;obtain⟨x',l',e1,hx,hl⟩:=db.of_cons;have:=hl.of_nil;subst this;have e2:args.map ρ=#[x']:=by rw[<-jO (xs:=args.map ρ),e1]
  split at h
  ·rename_i e hu;injection h with h;injection h with h1 h2;subst h1;subst h2;rw[IS,e2];cases ha:argTypes[0]? with
   |none=>rw[ha]at hu;cases hu
   |some t=>rw[ha]at hu;simp only[bM]at hu;refine .value (s:=Builtin.len_ argTypes type #[x']) rfl hW (v':=goInt n) ?_ (.int _ _);cases hx<;>simp[Builtin.len_,ha,cg hu]
  ·cases h
 ·rename_i BX;rw[BX]at db;obtain⟨x',l',e1,hx,hl⟩:=db.of_cons;have:=hl.of_nil;subst this;have e2:args.map ρ=#[x']:=by rw[<-jO (xs:=args.map ρ),e1]
  split at h
  ·rename_i k e hu;injection h with h;injection h with h1 h2;subst h1;subst h2;rw[IS,e2];cases ha:argTypes[0]? with
   |none=>rw[ha]at hu;cases hu
   |some t=>rw[ha]at hu;simp only[bM]at hu;refine .value (s:=Builtin.len_ argTypes type #[x']) rfl hW (v':=goInt 0) ?_ (.int _ _);cases hx;simp[Builtin.len_,ha,cg hu]
  ·cases h
 ·rename_i r BX;rw[BX]at db;obtain⟨x',l',e1,hx,hl⟩:=db.of_cons;have:=hl.of_nil;subst this;have e2:args.map ρ=#[x']:=by rw[<-jO (xs:=args.map ρ),e1]
  split at h
  ·rename_i k e es c hu hr;injection h with h;injection h with h1 h2;subst h1;subst h2;rw[IS,e2];cases ha:argTypes[0]? with
   |none=>rw[ha]at hu;cases hu
   |some t=>
    rw[ha]at hu;simp only[bM]at hu;cases hx with
    |map _ g hg=>
     obtain⟨_,_,iM,g3,g4⟩:=Ix hW hr hg;refine .value (s:=Builtin.len_ argTypes type #[.map (some g.B)]) rfl hW (v':=goInt es.length) ?_ (.int _ _);have dS:iM.size=es.length:=by have:=g4.1;simp at this;omega
     simp[Builtin.len_,ha,cg hu,run_getObj_map g3,dS]
  ·cases h
 ·rename_i s x BX;rw[BX]at db;obtain⟨s',l',e1,hs,hl⟩:=db.of_cons;obtain⟨x',l'',e3,hx,C0⟩:=hl.of_cons;have:=C0.of_nil;subst this;subst e3;have e2:args.map ρ=#[s',x']:=by rw[<-jO (xs:=args.map ρ),e1]
  rw[IS,e2];exact .oZ (s:=Builtin.append_ argTypes type #[s',x']) rfl (O7 hW h hs hx)
 ·rename_i s x BX;rw[BX]at db;obtain⟨s',l',e1,hs,hl⟩:=db.of_cons;obtain⟨x',l'',e3,hx,C0⟩:=hl.of_cons;have:=C0.of_nil;subst this;subst e3;have e2:args.map ρ=#[s',x']:=by rw[<-jO (xs:=args.map ρ),e1]
  rw[IS,e2];obtain⟨v',w',a,b,c,d⟩:=Zx (ty:=type) hW h hs hx;exact .oZ (s:=Builtin.copy_ argTypes type #[s',x']) rfl ⟨σ,v',w',a,b,c,d⟩
 ·rename_i x BX;rw[BX]at db;obtain⟨x',l',e1,hx,hl⟩:=db.of_cons;have:=hl.of_nil;subst this;have e2:args.map ρ=#[x']:=by rw[<-jO (xs:=args.map ρ),e1]
  rw[IS,e2];obtain⟨hc,rfl⟩:=ah8 _ h;obtain⟨w',a,b,c⟩:=Us (ty:=type) hW hc hx;exact .oZ (s:=Builtin.clear_ argTypes type #[x']) rfl ⟨σ,.tuple #[],w',a,.undef,b,c⟩
 ·rename_i s x BX;rw[BX]at db;obtain⟨s',l',e1,hs,hl⟩:=db.of_cons;obtain⟨x',l'',e3,hx,C0⟩:=hl.of_cons;have:=C0.of_nil;subst this;subst e3;have e2:args.map ρ=#[s',x']:=by rw[<-jO (xs:=args.map ρ),e1]
  rw[IS,e2];obtain⟨hc,rfl⟩:=ah8 _ h;obtain⟨w',a,b,c⟩:=Sf (ty:=type) hW hc hs hx;exact .oZ (s:=Builtin.delete_ argTypes type #[s',x']) rfl ⟨σ,.tuple #[],w',a,.undef,b,c⟩
 ·rename_i x BX;rw[BX]at db;obtain⟨x',l',e1,hx,hl⟩:=db.of_cons;have:=hl.of_nil;subst this;have e2:args.map ρ=#[x']:=by rw[<-jO (xs:=args.map ρ),e1]
  rw[IS,e2];obtain⟨hc,rfl⟩:=jM _ h;obtain⟨v',a,b⟩:=Ki (P:=P) (w:=w) (ts:=argTypes) (ty:=type) hc hx;exact .oZ (s:=Builtin.unsafeSliceData_ argTypes type #[x']) rfl ⟨σ,v',w,a,b,hW,fR.refl _ _ _⟩
 ·rename_i s x BX;rw[BX]at db;obtain⟨s',l',e1,hs,hl⟩:=db.of_cons;obtain⟨x',l'',e3,hx,C0⟩:=hl.of_cons;have:=C0.of_nil;subst this;subst e3;have e2:args.map ρ=#[s',x']:=by rw[<-jO (xs:=args.map ρ),e1]
  rw[IS,e2];exact .oZ (s:=Builtin.unsafeString_ argTypes type #[s',x']) rfl (D3 hW h hs hx)
 ·obtain⟨hb,rfl⟩:=jM _ h;exact .aiM hW hb (λx hx=>by simp only[Op.operands,Call.operands]at hx;exact hρ x (by simpa using hx))
def VA{t:ag}{name:String}{f:jD}(h:vW P t name=some f)(v:ad)(w:ar):(method (P.types.size+Made.depth) t v name).run P w=.ok (f,v) w:=by
 unfold vW at h;split at h
 ·rename_i i d hi hd;split at h
  ·rename_i m hm;split at h
   ·rename_i g e hp hf;split at h
    ·rename_i h0;injection h with h;subst h;obtain⟨n,hn⟩:∃n,P.types.size+Made.depth=n+1:=⟨P.types.size+Made.depth-1,by omega⟩;rw[hn];simp[method,typeInfo,hi,hm,hp,follow,hf,receiverAt,cg hd,Place.get]
    ·cases h
   ·cases h
  ·cases h
 ·cases h
def KR(ro:Option Nat):(FE ro).depth=none:=rfl
def JY{ro ro':Option Nat}{n:Nat}{f:jD}{args:Array ad}{w:ar}{R:Ending->ar->Prop}(h:CallsIn (FE ro) n P f args w R):CallsIn (FE ro') n P f args w R:=h
def VK{ro ro':Option Nat}{n l:Nat}{f:jD}{tmps:Array ad}{aB4 bd:bV}{w:ar}{R:Ending->ar->Prop}(h:RoundIn (FE ro) n P l f tmps aB4 bd w R):RoundIn (FE ro') n P l f tmps aB4 bd w R:=h
def Nk{ro:Option Nat}{o:am}{a:bw}{v:ad}{W':AW}{next:bw->ar->Prop}{Q:dr->bw->ar->Prop}(G8:∀c,o.op≠ .defer c)(h:lC P σ W w (execOp a.eval o) v W')
 (hn:∀σ' v' w',VR σ' v v'->bI σ' W' w'.heap->fR σ W w σ' W' w'->next (a.put o.dst v') w'):o.wpIn (FE ro) 0 P a w next Q:=by
 refine⟨λf _=>trivial,?_⟩;rw[Oper.semAt_eq _ _ _ G8];obtain⟨σ',nx,v',w',hr,hx,h1,h2,h3⟩:=h;rw[hr];rcases hx with rfl|⟨rfl,rfl⟩
 ·exact hn σ' v' w' h1 h2 h3
 ·exact hn σ' ak w' h1 h2 h3
def Lo{ro:Option Nat}{o:am}{a:bw}{v:ad}{W':AW}{next:bw->ar->Prop}{Q:dr->bw->ar->Prop}{f':ad}{cZ:List ad}(G8:∀c,o.op≠ .defer c)
 (hf:∀i fs cs,f'=.func (.func i) fs cs->(execOp a.eval o).run P w=(callFunc i (fs++cZ.toArray++cs)).run P w)
 (hy:∀l fs cs,f'=.func (.yield l) fs cs->(execOp a.eval o).run P w=(Instr.yield l (fs++cZ.toArray)).run P w)
 (h:B0 P f' cZ w (λv' w'=>∃σ',VR σ' v v'/\bI σ' W' w'.heap/\fR σ W w σ' W' w'))
 (hn:∀σ' v' w',VR σ' v v'->bI σ' W' w'.heap->fR σ W w σ' W' w'->next (a.put o.dst v') w'):o.wpIn (FE ro) 0 P a w next Q:=by
 refine⟨λf _=>trivial,?_⟩;rw[Oper.semAt_eq _ _ _ G8];unfold B0 at h;split at h
 ·rename_i i fs cs;obtain⟨h1,h2⟩:=h;rw[hf i fs cs rfl,h1];refine⟨λhd=>by rw[KR]at hd;simp at hd,?_⟩;refine pf (JY h2) ?_;rintro e w' ⟨u,rfl,σ',k1,k2,k3⟩;exact hn σ' u w' k1 k2 k3
 ·rename_i l fs cs;obtain⟨f,tmps,aB4,bd,h1,h2⟩:=h;rw[hy l fs cs rfl,h1];refine⟨λhd=>by rw[KR]at hd;simp at hd,?_⟩;refine RoundIn.mono (VK h2) ?_;rintro e w' ⟨u,rfl,σ',k1,k2,k3⟩;exact hn σ' u w' k1 k2 k3
 ·exact h.elim
def OQ{ng:List Nat}{call:Callee}(hc:cl P ng call)(hW:bI σ W w.heap)(hG:BM σ ng){ro:Option Nat}{o:am}{R:ai.Fr}{a:bw}{v:ad}{W':AW}{next:bw->ar->Prop}{Q:dr->bw->ar->Prop}
 (h:vM P call o R W=some (v,W'))(hρ:∀x∈o.op.operands,VR σ (aE R x) (a.eval x))
 (hn:∀σ' v' w',VR σ' v v'->bI σ' W' w'.heap->fR σ W w σ' W' w'->next (a.put o.dst v') w'):o.wpIn (FE ro) 0 P a w next Q:=by
 rw[BA]at h;unfold js at h;split at h
 ·rename_i c vO;obtain⟨dst,op,type,pos,after,guard⟩:=o;simp only at vO;subst vO;obtain⟨callee,args,argTypes⟩:=c;have db:∀x∈args,VR σ (aE R x) (a.eval x):=λx hx=>hρ x (by simp[Op.operands,Call.operands,hx])
  have hl:LR σ (args.toList.map (aE R)) (args.map a.eval).toList:=by simpa using Bz args db
  split at h
  ·rename_i b hb;simp only at hb h;subst hb;exact Nk (λ_ hx=>by cases hx) (Of hW h db) hn
  ·rename_i f hb;simp only at hb h;subst hb;have hf:=hρ f (by simp[Op.operands,Call.operands]);refine Lo (λ_ hx=>by cases hx) ?_ ?_ (hc _ _ _ _ _ h σ w _ _ hW hG hf hl) hn
   ·intro i fs cs e;rw[jO];simp[execOp,resolve,e,Deferred.ofValue,invoke]
   ·intro l fs cs e;rw[jO];simp[execOp,resolve,e,Deferred.ofValue,invoke]
  ·rename_i r name hb;simp only at hb h;subst hb;have hr:=hρ r (by simp[Op.operands,Call.operands]);split at h
   ·rename_i t u Sa;rw[Sa]at hr;obtain⟨u',hu,e⟩:=hr.E7;split at h
    ·rename_i f hm;refine Lo (f':=.func (.func f) #[] #[]) (cZ:=u'::(args.map a.eval).toList) (λ_ hx=>by cases hx) ?_ ?_ (hc _ _ _ _ _ h σ w _ _ hW hG (.func _ _ _ _ _ _ (.func f) rfl (λi v v' x=>by simp at x) rfl (λi v v' x=>by simp at x)) (.cons hu hl)) hn
     ·intro i fs cs e';injection e' with e1 e2 e3;injection e1 with e1;subst e1;subst e2;subst e3;have hx:(#[a.eval r]++args.map a.eval).extract 1 (args.size+1)=args.map a.eval:=by apply qk.1;simp[P0];exact ou (by simp)
      have h0:(#[a.eval r]++args.map a.eval)[0]? =some (.iface t u'):=by rw[Dj];simp[e]
      have vS:(#[a.eval r]++args.map a.eval).size=args.size+1:=by simp;omega
      have hgo:(invoke (.fn (.method name) #[]) (#[a.eval r]++args.map a.eval)).run P w=(callFunc f (#[u']++args.map a.eval)).run P w:=by rw[show invoke (.fn (.method name) #[]) (#[a.eval r]++args.map a.eval)=(match(#[a.eval r]++args.map a.eval)[0]? with|some recv=>callMethod recv name ((#[a.eval r]++args.map a.eval).extract 1 (#[a.eval r]++args.map a.eval).size)|none=>stuck "call: a method without a receiver")from by unfold invoke;split<;>simp_all];rw[h0];simp only[vS,hx,callMethod,cQ,run_program,cK,VA hm u' w]
      have e3:(#[]:Array ad)++(u'::(args.map a.eval).toList).toArray++#[]=#[u']++args.map a.eval:=by apply qk.1;simp
      rw[e3,<-hgo];simp[execOp,resolve]
     ·intro l fs cs e';injection e' with e1 e2 e3;cases e1
    ·cases h
   ·cases h
 ·rename_i hnc;refine Nk ?_ (WF hW h hρ) hn;intro c hx;unfold LQ at h;rw[hx]at h;cases h
end
end
section
variable [ai]
def Grow(W W':AW):Prop:=∀b o,W.get b=some o->W'.get b=some o
def Grow.refl(W:AW):Grow W W:=λ_ _ h=>h
def Grow.add{W:AW}(hf:W.get W.next=none)(o:dH):Grow W (W.add o):=λb o' h=>by
 have:W.next≠b:=λe=>by subst e;rw[hf]at h;cases h
 rw[AW.aG _ _ this];exact h
def NL(o:am)(R R':ai.Fr):Prop:=∀x∈o.op.operands,aE R' x=aE R x
def SP{P:ah}{o:am}{R R':ai.Fr}(h:NL o R R'):lg P R' o=lg P R o:=by
 unfold lg;have e1:o.op.operands.toList.all (λx=>bN (aE R' x))=o.op.operands.toList.all (λx=>bN (aE R x)):=by rw[um];simp only[dd,Array.mem_toList_iff];exact⟨λk x hx=>by rw[<-h x hx];exact k x hx,λk x hx=>by rw[h x hx];exact k x hx⟩
 rw[e1];cases hn:Bc o.op with
 |false=>rfl
 |true=>rw[execOp_congr o (λcs b hs=>by rw[hs]at hn;cases hn) (λx hx=>h x hx)]
def JQ{P:ah}{W W':AW}{t:ag}{x y:ad}(hx:bN x=true):px P W' t x y=px P W t x y:=by
 unfold px;split;case h_3=>simp[bN,eI,cC]at hx
 all_goals first
  |rfl
  |(simp only[*];done)
  |skip
 all_goals(split<;>first|rfl|(simp_all;done)|skip)
def NA{P:ah}{W W':AW}(hg:Grow W W'){t:ag}{x y:ad}{b:Bool}(h:px P W t x y=some b):px P W' t x y=some b:=by
 unfold px at h|-;split at h<;>try exact h
 split at h<;>try(cases h;done)
 split at h<;>try(cases h;done)
 rename_i ca cb h1 h2;rw[hg _ _ h1,hg _ _ h2];exact h
def EQ{W W':AW}(hg:Grow W W'){b:Nat}{cs:List ad}(h:aH W b=some cs):aH W' b=some cs:=by
 unfold aH at h|-;split at h
 ·rename_i cU h1;rw[hg _ _ h1];exact h
 ·rename_i cU h1;rw[hg _ _ h1];exact h
 ·rename_i t' cU h1;rw[hg _ _ h1];exact h
 ·cases h
def J0{W W':AW}(hg:Grow W W'){b off n:Nat}{l:List ad}(h:pD W b off n=some l):pD W' b off n=some l:=by
 rw[ka]at h|-;split at h
 ·rename_i cs hc;rw[EQ hg hc];exact h
 ·cases h
def K2{W W':AW}(hg:Grow W W'){x:ad}{n:Nat}{l:List ad}(h:cp W x n=some l):cp W' x n=some l:=by
 unfold cp at h|-;split at h
 ·exact h
 ·split at h
  ·rename_i h0;rw[an h0];exact h
  ·rename_i h0;rw[aq h0];split at h
   ·cases h
   ·rename_i h1;rw[aq h1];exact J0 hg h
 ·cases h
def TC{P:ah}{W W':AW}(hg:Grow W W'){s d:ag}{x v:ad}{alt:Option ad}(h:Jx P W s d x alt=some v):Jx P W' s d x alt=some v:=by
 unfold Jx at h|-;split at h
 ·rename_i a n c;show wi P W' s d (.slice (some a) n c)=some v;unfold wi at h|-;dsimp only at h|-;split at h
  ·rename_i e hs hd;split at h
   ·rename_i he;split at h
    ·rename_i cs nT;rw[K2 hg nT];exact h
    ·cases h
   ·cases h
  ·cases h
 ·exact h
def Ut{P:ah}{W W':AW}(hg:Grow W W'){t:ag}{x v:ad}(h:lR P W t x=some v):lR P W' t x=some v:=by
 unfold lR at h|-;split at h
 ·rename_i a;split at h
  ·rename_i ha;split at h
   ·rename_i cs hc;simp only[EQ hg hc];exact h
   ·cases h
  ·rename_i ha;split at h
   ·rename_i n hn;cases hr:pD W a.block a.off n with
    |none=>rw[hr]at h;cases h
    |some l=>rw[hr]at h;rw[J0 hg hr];exact h
   ·cases h
  ·cases h
 ·cases h
def OA{P:ah}{W W':AW}(hg:Grow W W'){t:ag}{m k v:ad}{ok:Bool}(h:oB P W t m k ok=some v):oB P W' t m k ok=some v:=by
 unfold oB at h|-;split at h
 ·exact h
 ·rename_i kt e r hu;split at h
  ·rename_i es c hr;simp only[hg _ _ hr];exact h
  ·cases h
 ·cases h
def Rt{R R':ai.Fr}{ps:Array (Nat×au)}(h:∀p∈ps.toList,aE R' p.2=aE R p.2):parts R' ps=parts R ps:=by unfold parts;exact List.map_congr_left λp hp=>by rw[h p hp]
set_option maxHeartbeats 1000000 in
def AU{P:ah}{call:Callee}{o:am}{R:ai.Fr}{W W1:AW}{v:ad}(hk:jW o<=1)(h:vM P call o R W=some (v,W1)):
 W1=W/\∀R' W',NL o R R'->(jW o=0\/Grow W W')->vM P call o R' W'=some (v,W'):=by
 have jM:∀(x:Option ad),(x.map λv=>(v,W))=some (v,W1)->x=some v/\W1=W:=by
  intro x hx;cases x with
  |none=>cases hx
  |some u=>simp at hx;exact⟨by rw[hx.1],hx.2.symm⟩
 have hpc:∀R',NL o R R'->lg P R' o=lg P R o:=λR' ha=>SP ha
 obtain⟨dst,op,type,pos,after,guard⟩:=o;cases op<;>simp only[jW]at hk<;>(try(exfalso;omega))<;>simp only[BA,js,LQ]at h|- <;>simp only[NL,Op.operands]at hpc|-;case move x=>injection h with h;injection h with h1 h2;subst h1;subst h2;exact⟨rfl,λR' W' ha _=>by rw[ha x (by simp)]⟩
 case assign x=>injection h with h;injection h with h1 h2;subst h1;subst h2;exact⟨rfl,λR' W' ha _=>by rw[ha x (by simp)]⟩
 case pick c a b=>
  split at h<;>(try(cases h;done))<;>rename_i ub<;>injection h with h<;>injection h with h1 h2<;>subst h1<;>subst h2<;>
   exact⟨rfl,λR' W' ha _=>by rw[ha c (by simp),ha a (by simp),ha b (by simp),ub]⟩
 case build t ps=>
  obtain⟨hb,rfl⟩:=jM _ h;refine⟨rfl,λR' W' ha _=>?_⟩;have:CE P R' t ps=CE P R t ps:=by unfold CE;rw[Rt λp hp=>ha p.2 (by simp;exact⟨p.1,by simpa using hp⟩)]
  rw[this,hb];rfl
 case nilCheck x=>
  split at h<;>(try(cases h;done))<;>rename_i ub<;>injection h with h<;>injection h with h1 h2<;>subst h1<;>subst h2<;>
   exact⟨rfl,λR' W' ha _=>by rw[ha x (by simp),ub]⟩
 case unOp op t x=>obtain⟨hb,rfl⟩:=jM _ h;exact⟨rfl,λR' W' ha _=>by rw[hpc R' (λy hy=>ha y hy),hb];rfl⟩
 case convert s d x=>obtain⟨hb,rfl⟩:=jM _ h;refine⟨rfl,λR' W' ha hg=>?_⟩;have F2:Grow W1 W':=hg.resolve_left (by simp[jW]);rw[ha x (by simp),hpc R' (λy hy=>ha y hy),TC F2 hb];rfl
 case makeInterface t x=>
  split at h
  ·cases h
  ·rename_i d hd hu;injection h with h;injection h with h1 h2;subst h1;subst h2;exact⟨rfl,λR' W' ha _=>by rw[ha x (by simp)]⟩
  ·cases h
 case slice t x lo hi mx=>
  have key:∀R',(∀y∈#[x]++lo.toArray++hi.toArray++mx.toArray,aE R' y=aE R y)->mz P t (aE R' x) (lo.map (aE R')) (hi.map (aE R')) (mx.map (aE R'))=mz P t (aE R x) (lo.map (aE R)) (hi.map (aE R)) (mx.map (aE R)):=by
   intro R' ha;have e1:aE R' x=aE R x:=ha x (by simp);have e2:lo.map (aE R')=lo.map (aE R):=by
    cases lo with
    |none=>rfl
    |some y=>simp only[dq];rw[ha y (by simp)]
   have e3:hi.map (aE R')=hi.map (aE R):=by
    cases hi with
    |none=>rfl
    |some y=>simp only[dq];rw[ha y (by simp)]
   have e4:mx.map (aE R')=mx.map (aE R):=by
    cases mx with
    |none=>rfl
    |some y=>simp only[dq];rw[ha y (by simp)]
   rw[e1,e2,e3,e4]
  split at h
  ·rename_i u hs;injection h with h;injection h with h1 h2;subst h1;subst h2;exact⟨rfl,λR' W' ha _=>by rw[key R' (λy hy=>ha y (by simpa using hy)),hs]⟩
  ·rename_i hs;obtain⟨hb,rfl⟩:=jM _ h;exact⟨rfl,λR' W' ha _=>by rw[key R' (λy hy=>ha y (by simpa using hy)),hs,hpc R' (λy hy=>ha y hy),hb];rfl⟩
 case fieldAddr s x f=>
  split at h
  ·rename_i fs a hu DZ;split at h
   ·rename_i fl wO;split at h
    ·rename_i n hn;injection h with h;injection h with h1 h2;subst h1;subst h2;exact⟨rfl,λR' W' ha _=>by rw[ha x (by simp)];simp[hu,DZ,wO,hn]⟩
    ·cases h
   ·cases h
  ·cases h
 case field t x f=>
  split at h
  ·rename_i fs cs hu DZ;split at h
   ·rename_i fl wO;obtain⟨hb,rfl⟩:=jM _ h;exact⟨rfl,λR' W' ha _=>by rw[ha x (by simp)];simp[hu,DZ,wO,hb]⟩
   ·cases h
  ·cases h
 case indexAddr t x i=>
  have:W1=W:=by split at h<;>(try(cases h;done))<;>split at h<;>(try(cases h;done))<;>split at h<;>(try(cases h;done))<;>(injection h with h;injection h with h1 h2;exact h2.symm)
  subst this;refine⟨rfl,λR' W' ha _=>?_⟩;rw[ha x (by simp),ha i (by simp)];split at h<;>(try(cases h;done))<;>rename_i z hz<;>split at h<;>(try(cases h;done))<;>split at h<;>(try(cases h;done))<;>(injection h with h;injection h with h1 h2;simp[*])
 case index t x i=>
  split at h
  ·rename_i len e cs n hu DZ hi0;split at h
   ·rename_i z hz;split at h
    ·rename_i mC;obtain⟨hb,rfl⟩:=jM _ h;exact⟨rfl,λR' W' ha _=>by rw[ha x (by simp),ha i (by simp)];simp[hu,DZ,hi0,hz,mC,hb]⟩
    ·cases h
   ·cases h
  ·rename_i yW;obtain⟨hb,rfl⟩:=jM _ h;refine⟨rfl,λR' W' ha _=>?_⟩;rw[ha x (by simp),ha i (by simp)];split
   ·rename_i len e cs n hu DZ hi0;exact absurd hi0 (by intro hi0;exact yW _ _ _ _ hu DZ hi0)
   ·rw[hpc R' (λy hy=>ha y hy),hb];rfl
 case extract x i=>
  split at h
  ·rename_i vs DZ;obtain⟨hb,rfl⟩:=jM _ h;exact⟨rfl,λR' W' ha _=>by rw[ha x (by simp),DZ];simp[hb]⟩
  ·cases h
 case typeAssert x s t ok=>
  split at h
  ·cases h
  ·rename_i yW u v0 hu DZ;split at h
   ·rename_i hut;injection h with h;injection h with h1 h2;subst h1;subst h2;exact⟨rfl,λR' W' ha _=>by rw[ha x (by simp)];simp[hu,DZ,hut]⟩
   ·cases h
  ·cases h
 case load t a=>obtain⟨hb,rfl⟩:=jM _ h;refine⟨rfl,λR' W' ha hg=>?_⟩;have F2:Grow W1 W':=hg.resolve_left (by simp[jW]);rw[ha a (by simp),Ut F2 hb];rfl
 case lookup t m k ok=>obtain⟨hb,rfl⟩:=jM _ h;refine⟨rfl,λR' W' ha hg=>?_⟩;have F2:Grow W1 W':=hg.resolve_left (by simp[jW]);rw[ha m (by simp),ha k (by simp),OA F2 hb];rfl
 case makeFunc fn first kT=>
  cases fn<;>(try(simp only[]at hk;exfalso;omega));rename_i f0;simp only at h|-;injection h with h;injection h with h1 h2;subst h1;subst h2;refine⟨rfl,λR' W' ha _=>?_⟩;have e1:first.map (aE R')=first.map (aE R):=Array.map_congr_left λy hy=>ha y (by simp[hy])
  have e2:kT.map (aE R')=kT.map (aE R):=Array.map_congr_left λy hy=>ha y (by simp[hy])
  rw[e1,e2]
 case binOp op t x y yt=>
  by_cases vO:op=.eql\/op=.neq
  ·have fe:∀W',(jW (⟨dst,.binOp op t x y yt,type,pos,after,guard⟩:am)=0\/Grow W W')->Grow W W':=λW' hg=>hg.resolve_left (by rcases vO with rfl|rfl<;>simp[jW])
   split at h
   ·rename_i u hb;injection h with h;injection h with h1 h2;subst h1;subst h2;refine⟨rfl,λR' W' ha hg=>?_⟩;have F2:=fe W' hg;have:rV P W' op t (aE R x) (aE R y)=some u:=by
     unfold rV at hb|-;split at hb
     ·exact hb
     ·split at hb
      ·cases he:px P W t (aE R x) (aE R y)with
       |none=>
        rw[he]at hb;cases ht:J8 P t (aE R x) (aE R y)with
        |none=>rw[ht]at hb;cases hb
        |some b=>rw[Ns ht W',<-ht];rw[ht]at hb|-;exact hb
       |some b=>rw[he]at hb;simp only[NA F2 he];exact hb
      ·cases he:px P W t (aE R x) (aE R y)with
       |none=>
        rw[he]at hb;cases ht:J8 P t (aE R x) (aE R y)with
        |none=>rw[ht]at hb;cases hb
        |some b=>rw[Ns ht W',<-ht];rw[ht]at hb|-;exact hb
       |some b=>rw[he]at hb;simp only[NA F2 he];exact hb
      ·cases hb
    rw[ha x (by simp),ha y (by simp),this]
   ·rename_i hb;obtain⟨hp,rfl⟩:=jM _ h;refine⟨rfl,λR' W' ha hg=>?_⟩;have pP:bN (aE R x)=true:=by
     unfold lg at hp;split at hp
     ·rename_i hc;simp only[bA,dd,Array.mem_toList_iff]at hc;exact hc.2 x (by simp[Op.operands])
     ·cases hp
    have:rV P W' op t (aE R x) (aE R y)=none:=by
     rw[<-hb];unfold rV;split
     ·rfl
     ·split
      ·rw[JQ pP]
      ·rw[JQ pP]
      ·rfl
    rw[ha x (by simp),ha y (by simp),this,hpc R' (λy hy=>ha y hy),hp];rfl
  ·have wj:∀W',rV P W' op t (aE R x) (aE R y)=rV P W op t (aE R x) (aE R y):=by
    intro W';unfold rV;split
    ·rfl
    ·cases op<;>simp at vO|-
   split at h
   ·rename_i u hb;injection h with h;injection h with h1 h2;subst h1;subst h2;exact⟨rfl,λR' W' ha hg=>by rw[ha x (by simp),ha y (by simp),wj W',hb]⟩
   ·rename_i hb;obtain⟨hp,rfl⟩:=jM _ h;exact⟨rfl,λR' W' ha hg=>by rw[ha x (by simp),ha y (by simp),wj W',hb,hpc R' (λy hy=>ha y hy),hp];rfl⟩
 case call c=>
  obtain⟨callee,args,argTypes⟩:=c;cases callee with
  |value f=>simp only at hk;exfalso;omega
  |invoke r name=>simp only at hk;exfalso;omega
  |builtin b=>
   cases b<;>(try(simp only at hk;exfalso;omega));simp only at h|-;have db:∀R',(∀y∈(Call.operands {callee:=.builtin .len,args,argTypes}),aE R' y=aE R y)->args.toList.map (aE R')=args.toList.map (aE R):=λR' ha=>List.map_congr_left λy hy=>ha y (by simp only[Call.operands];simpa using hy)
   unfold kY at h;split at h
   ·rename_i n c hl;split at h
    ·rename_i e hu;injection h with h;injection h with h1 h2;subst h1;subst h2;exact⟨rfl,λR' W' ha hg=>by unfold kY;rw[db R' ha,hl];simp only[hu]⟩
    ·cases h
   ·rename_i hl;split at h
    ·rename_i k e hu;injection h with h;injection h with h1 h2;subst h1;subst h2;exact⟨rfl,λR' W' ha hg=>by unfold kY;rw[db R' ha,hl];simp only[hu]⟩
    ·cases h
   ·rename_i r hl;split at h
    ·rename_i k e es c hu hr;injection h with h;injection h with h1 h2;subst h1;subst h2;refine⟨rfl,λR' W' ha hg=>?_⟩;have F2:Grow W W':=hg.resolve_left (by simp[jW]);unfold kY;rw[db R' ha,hl];simp only[hu,F2 _ _ hr]
    ·cases h
   ·rename_i hb hl;cases hb
   ·rename_i hb hl;cases hb
   ·rename_i hb hl;cases hb
   ·rename_i hb hl;cases hb
   ·rename_i hb hl;cases hb
   ·rename_i hb hl;cases hb
   ·rename_i h1 h2 h3 _ _ _ _ _ _;obtain⟨hp,rfl⟩:=jM _ h;refine⟨rfl,λR' W' ha hg=>?_⟩;unfold kY;rw[db R' ha];split
    ·rename_i hl;exact absurd hl (h1 _ _ _ rfl)
    ·rename_i hl;exact absurd hl (h2 rfl)
    ·rename_i hl;exact absurd hl (h3 _ rfl)
    ·rename_i hb hl;cases hb
    ·rename_i hb hl;cases hb
    ·rename_i hb hl;cases hb
    ·rename_i hb hl;cases hb
    ·rename_i hb hl;cases hb
    ·rename_i hb hl;cases hb
    ·rw[hpc R' (λy hy=>ha y hy),hp];rfl
end
section
variable [ai]
def xM{P:ah}{σ:dx}{b:Nat}(hb:σ b=none)(w:ar)(t:ag){cs cU:List ad}(hc:LR σ cs cU):
 (newRow t cU.toArray).run P w=.ok ⟨w.heap.size,0,none⟩ {w with heap:=w.heap.push (.cells cU.toArray t)}/\
 pw (cx σ b ⟨w.heap.size,0,cs.length⟩) (w.heap.push (.cells cU.toArray t)) ⟨w.heap.size,0,cs.length⟩ (.cells cs):=by
 refine⟨by simp[newRow],⟨cU.toArray,t,(0,0),by simp,λ_=>rfl,by simp,by simp[hc.1],λi v hv=>?_⟩⟩;obtain⟨v',a,b⟩:=hc.get hv;exact⟨v',by simpa using a,b.mono (dT hb)⟩
def Lays(P:ah)(R:ai.Fr)(o:am)(obj:dH)(mk:Nat->ad):Prop:=
 ∀(σ:dx) (ρ:au->ad) (w:ar) (b:Nat),(∀x∈o.op.operands,VR σ (aE R x) (ρ x))->σ b=none->
  ∃v' x e,(execOp ρ o).run P w=.ok (.value v') {w with heap:=w.heap.push x}/\VR (cx σ b ⟨w.heap.size,0,e⟩) (mk b) v'/\pw (cx σ b ⟨w.heap.size,0,e⟩) (w.heap.push x) ⟨w.heap.size,0,e⟩ obj
def Lays.agree{P:ah}{R R':ai.Fr}{o:am}{obj:dH}{mk:Nat->ad}(h:Lays P R o obj mk)(ha:NL o R R'):Lays P R' o obj mk:=
 λσ ρ w b hρ hb=>h σ ρ w b (λx hx=>by rw[<-ha x hx];exact hρ x hx) hb
def acp{P:ah}{R:ai.Fr}{o:am}{t:ag}{cs:List ad}(h:∀(σ:dx) (ρ:au->ad) (w:ar),(∀x∈o.op.operands,VR σ (aE R x) (ρ x))->
 ∃cU,LR σ cs cU/\(execOp ρ o).run P w=((do pure (.value (.pointer (some (<-newRow t cU.toArray))))):Sem Next).run P w):
 Lays P R o (.cells cs) (λb=>.pointer (some ⟨b,0,none⟩)):=by
 intro σ ρ w b hρ hb;obtain⟨cU,hc,hr⟩:=h σ ρ w hρ;obtain⟨h1,h2⟩:=xM (P:=P) hb w t hc;refine⟨.pointer (some ⟨w.heap.size,0,none⟩),.cells cU.toArray t,cs.length,by rw[hr];simp only[cQ,h1,cK,ij],?_,h2⟩;have:=VR.ptr (σ:=cx σ b ⟨w.heap.size,0,cs.length⟩) ⟨b,0,none⟩ _ dM rfl;simpa using this
def Zf{P:ah}{R:ai.Fr}{o:am}{t:ag}{cs:List ad}(h:∀(σ:dx) (ρ:au->ad) (w:ar),(∀x∈o.op.operands,VR σ (aE R x) (ρ x))->
 ∃cU,LR σ cs cU/\(execOp ρ o).run P w=((do pure (.value (.pointer (some (<-newRow t cU.toArray))))):Sem Next).run P w):
 Lays P R o (rl t cs) (λb=>.pointer (some ⟨b,0,none⟩)):=by
 intro σ ρ w b hρ hb;obtain⟨cU,hc,hr⟩:=h σ ρ w hρ;obtain⟨h1,_⟩:=xM (P:=P) hb w t hc;refine⟨.pointer (some ⟨w.heap.size,0,none⟩),.cells cU.toArray t,cs.length,by rw[hr];simp only[cQ,h1,cK,ij],?_,J3 (hc.mono (dT hb)) (by simp)⟩;have:=VR.ptr (σ:=cx σ b ⟨w.heap.size,0,cs.length⟩) ⟨b,0,none⟩ _ dM rfl;simpa using this
set_option maxHeartbeats 1000000 in
def aei{P:ah}{call:Callee}{o:am}{R:ai.Fr}{W W1:AW}{v:ad}(hk:jW o=2)(h:vM P call o R W=some (v,W1)):
 ∃obj mk,(∀cs,obj≠ .ro cs)/\v=mk W.next/\W1=W.add obj/\Lays P R o obj mk:=by
 obtain⟨dst,op,type,pos,after,guard⟩:=o;cases op<;>simp only[jW]at hk<;>(try(exfalso;omega))<;>simp only[BA,js,LQ]at h;case alloc t=>
  split at h
  ·rename_i z hz;injection h with h;rw[AW.dU]at h;injection h with h1 h2;refine⟨rl t z.cells.toList,λb=>.pointer (some ⟨b,0,none⟩),Nz t _,h1.symm,h2.symm,Zf (t:=t) λσ ρ w hρ=>?_⟩;obtain⟨Ck,yY⟩:=jd hz w;refine⟨z.cells.toList,IV yY,?_⟩;simp[execOp,Instr.alloc,Ck,newVar]
  ·cases h
 case box t x=>injection h with h;rw[AW.dU]at h;injection h with h1 h2;refine⟨.cells (aE R x).cells.toList,λb=>.pointer (some ⟨b,0,none⟩),λ_=>by simp,h1.symm,h2.symm,acp (t:=t) λσ ρ w hρ=>?_⟩;refine⟨(ρ x).cells.toList,(hρ x (by simp[Op.operands])).cells,?_⟩;simp[execOp,Instr.box,newVar]
 case buildSlice t len ps=>
  replace h:=ye h;unfold rY at h;split at h
  ·rename_i e hu;split at h
   ·rename_i n z hn hz;split at h
    ·rename_i hc;obtain⟨hc1,hc2,hc3⟩:=hc;split at h
     ·rename_i c hf;injection h with h;rw[AW.dU]at h;injection h with h1 h2;refine⟨.cells c.toList,λb=>.slice (some ⟨b,0,none⟩) len len,λ_=>by simp,h1.symm,h2.symm,?_⟩;intro σ ρ w b hρ hb;have hp:=FN (σ:=σ) (R:=R) (ρ:=ρ) ps (λp hp=>hρ p.2 (by simp[Op.operands];exact⟨p.1,by simpa using hp⟩));obtain⟨Ck,yY⟩:=jd hz w;obtain⟨pT,h1,h2⟩:=EB _ _ _ _ _ _ hp (LR.qh (σ:=σ) (λ_=>fK) hc3) hf;obtain⟨k1,k2⟩:=xM (P:=P) hb w e (cs:=c.toList) (cU:=pT.toList) h2;refine⟨.slice (some ⟨w.heap.size,0,none⟩) len len,.cells pT.toList.toArray e,c.toList.length,?_,?_,k2⟩
      ·have acv:¬len*n>2^ 24:=by omega
       simp only[jO]at k1;have:(Instr.buildSlice t len (ps.map λ(i,x)=>(i,ρ x))).run P w=.ok (.slice (some ⟨w.heap.size,0,none⟩) len len) {w with heap:=w.heap.push (.cells pT e)}:=by
        by_cases h0:len*n=0
        ·rw[xN h0]at h1;simp only[Instr.buildSlice,cQ,cg hu,cK,bU hn,aq acv,ij,an h0];rw[show(Array.map (λx=>(#[]:Array ad)[x % (#[]:Array ad).size]!) (Array.range (len*n)))=#[]by rw[h0];simp,h1];simp[k1]
        ·rw[Bm h0]at h1;simp only[Instr.buildSlice,cQ,cg hu,cK,bU hn,aq acv,ij,aq h0,Ck];rw[show(Array.map (λx=>z.cells[x % z.cells.size]!) (Array.range (len*n)))=P3 z (len*n)from rfl,h1];simp[k1]
       simp only[execOp,cQ,this,cK,ij,jO]
      ·have:=VR.slice (σ:=cx σ b ⟨w.heap.size,0,c.toList.length⟩) ⟨b,0,none⟩ len len len _ dM rfl (.known len hc2);simpa using this
     ·cases h
    ·cases h
   ·cases h
  ·cases h
 case makeSlice t l c=>
  unfold pJ at h;split at h
  ·rename_i e hu;split at h
   ·rename_i n z bytes kl l0 kc c0 hn hz hbt hel hec;split at h
    ·rename_i ws;obtain⟨c1,c2,c3,c4⟩:=ws;injection h with h;rw[AW.dU]at h;injection h with h1 h2;refine⟨.cells (kF z (c0*n)).toList,λb=>.slice (some ⟨b,0,none⟩) l0 c0,λ_=>by simp,h1.symm,h2.symm,?_⟩;intro σ ρ w b hρ hb;have hl:=hρ l (by simp[Op.operands]);have hc:=hρ c (by simp[Op.operands]);rw[hel]at hl;rw[hec]at hc;have Cy:=hl.uS;have yT:=hc.uS;obtain⟨Ck,yY⟩:=jd hz w;have hi:∃i,P.info? e=some i/\i.bytes=bytes:=by
      cases hi:P.info? e with
      |none=>rw[hi]at hbt;cases hbt
      |some i=>rw[hi]at hbt;simp at hbt;exact⟨i,rfl,hbt⟩
     obtain⟨i,hi,hib⟩:=hi;have Su:LR σ (kF z (c0*n)).toList (kF z (c0*n)).toList:=LR.qh (λ_=>fK) c4;obtain⟨k1,k2⟩:=xM (P:=P) hb w e Su;refine⟨.slice (some ⟨w.heap.size,0,none⟩) l0 c0,.cells (kF z (c0*n)).toList.toArray e,_,?_,?_,k2⟩
     ·have:(Instr.makeSlice t (ρ l) (ρ c)).run P w=.ok (.slice (some ⟨w.heap.size,0,none⟩) l0 c0) {w with heap:=w.heap.push (.cells (kF z (c0*n)).toList.toArray e)}:=by
       rw[Cy,yT];have hwl:IntKind.i64.wrap (Int.ofNat l0)=(l0:Int):=EU (by omega);have hwc:IntKind.i64.wrap (Int.ofNat c0)=(c0:Int):=EU c2;have Kk:(typeInfo e).run P w=.ok i w:=by simp[typeInfo,hi]
       have aou:(bytes:Int)*(c0:Int)<=281474976710656:=by
        have:((c0*bytes:Nat):Int)<=281474976710656:=by omega
        rw[Int.natCast_mul,Int.mul_comm]at this;exact this
       simp only[jO]at k1;have VF:¬(((decide ((c0:Int)<0)||decide ((i.bytes:Int)*(c0:Int)>2^ 48))||decide ((l0:Int)<0)||decide ((l0:Int)>(c0:Int)))=true):=by rw[hib];simp;omega
       simp only[Instr.makeSlice,cQ,cg hu,cK,asInt,asIntOf,ij,Kk,hwl,hwc];rw[aq (by simpa using VF)];by_cases h0:c0*n=0
       ·rw[xN h0]at k1|-;simp only[cQ,run_askRoom,cK,vq,bU hn,an h0,ij];rw[show(Array.map (λx=>(#[]:Array ad)[x % (#[]:Array ad).size]!) (Array.range (c0*n)))=#[]by rw[h0];simp,k1];simp
       ·rw[Bm h0]at k1|-;simp only[cQ,run_askRoom,cK,vq,bU hn,aq h0,Ck,ij];rw[show(Array.map (λx=>z.cells[x % z.cells.size]!) (Array.range (c0*n)))=P3 z (c0*n)from rfl,k1];simp
      simp only[execOp,cQ,this,cK,ij]
     ·have:=VR.slice (σ:=cx σ b ⟨w.heap.size,0,(kF z (c0*n)).toList.length⟩) ⟨b,0,none⟩ l0 c0 c0 _ dM rfl (.known c0 (by unfold eJ;omega));simpa using this
    ·cases h
   ·cases h
  ·cases h
 case binOp op t x y yt=>split at hk<;>omega
 case makeFunc fn a b=>cases fn<;>simp only[]at hk<;>omega
 case call c=>obtain⟨callee,args,argTypes⟩:=c;cases callee<;>simp only at hk<;>(try omega);rename_i b;cases b<;>simp only at hk<;>omega
section
variable {σ:dx} {W:AW} {w:ar}
def bI.ghost(h:bI σ W w.heap)(o:dH):bI σ (W.add o) w.heap:=by
 have fe:∀{c:Nat} {g:At},σ c=some g->c≠W.next:=λhc e=>by have:=(h.qP _ _ hc).1;omega
 refine⟨?_,?_,?_,?_⟩
 ·intro c hc;have yT:W.next+1<=c:=hc;rw[AW.aG _ _ (by omega)];exact h.free c (by omega)
 ·intro c g hc;have:=h.qP c g hc;simp only[AW.av];omega
 ·intro c o2 g hc hg;rw[AW.aG _ _ (bh (fe hg))]at hc;exact h.obj c o2 g hc hg
 ·intro b1 b2 o1 o2 g1 g2 Qd h1 h2 k1 k2 hr;rw[AW.aG _ _ (bh (fe k1))]at h1;rw[AW.aG _ _ (bh (fe k2))]at h2;exact h.vN _ _ _ _ _ _ Qd h1 h2 k1 k2 hr
def bI.bind(h:bI σ W w.heap){b e:Nat}{o:dH}{x:rU}(hb:W.get b=some o)(E1:σ b=none)
 (BW:pw (cx σ b ⟨w.heap.size,0,e⟩) (w.heap.push x) ⟨w.heap.size,0,e⟩ o):
 bI (cx σ b ⟨w.heap.size,0,e⟩) W (w.heap.push x):=by
 have hs:Sub σ (cx σ b ⟨w.heap.size,0,e⟩):=dT E1;have gE:∀B,B<w.heap.size->(w.heap.push x)[B]? =w.heap[B]? :=λB hB=>by rw[x8];rw[bL]
 have sS:∀c g,cx σ b ⟨w.heap.size,0,e⟩ c=some g->(c=b/\g=⟨w.heap.size,0,e⟩)\/(c≠b/\σ c=some g):=λc g hc=>by
  unfold cx at hc;split at hc
  ·rename_i hx;injection hc with hc;exact .inl ⟨hx,hc.symm⟩
  ·rename_i hx;exact .inr ⟨hx,hc⟩
 have hbn:b<W.next:=by
  rcases qf b W.next with h1|h1
  ·exact h1
  ·rw[h.free b h1]at hb;cases hb
 refine⟨h.free,?_,?_,?_⟩
 ·intro c g hc;rcases sS c g hc with⟨rfl,rfl⟩|⟨_,h2⟩
  ·exact⟨hbn,by simp⟩
  ·have:=h.qP c g h2;simp;omega
 ·intro c o2 g hc hk;rcases sS c g hk with⟨rfl,rfl⟩|⟨h1,h2⟩
  ·rw[hb]at hc;injection hc with hc;subst hc;exact BW
  ·exact((h.obj c o2 g hc h2).mono hs).same (gE _ (h.qP c g h2).2)
 ·intro b1 b2 o1 o2 g1 g2 Qd h1 h2 k1 k2 hr;rcases sS b1 g1 k1 with⟨rfl,rfl⟩|⟨x1,y1⟩
  ·rcases sS b2 g2 k2 with⟨rfl,rfl⟩|⟨x2,y2⟩
   ·exact absurd rfl Qd
   ·have:=(h.qP _ _ y2).2;exact .inl (by simp only[ne_eq];omega)
  ·rcases sS b2 g2 k2 with⟨rfl,rfl⟩|⟨x2,y2⟩
   ·have:=(h.qP _ _ y1).2;exact .inl (by simp only[ne_eq];omega)
   ·exact h.vN _ _ _ _ _ _ Qd h1 h2 y1 y2 hr
def fR.Zs{σ0:dx}{W0:AW}{w0:ar}(h:fR σ0 W0 w0 σ W w)(hw:W.get W.next=none)(o:dH):fR σ0 W0 w0 σ (W.add o) w:=
 ⟨h.sub,λb cs x=>by
   have h1:=h.ro b cs x;have:W.next≠b:=λe=>by subst e;rw[hw]at h1;cases h1
   rw[AW.aG _ _ this];exact h1,
   h.size,h.os,h.tape,h.output,h.keep,λb o2 h1 h2=>by
    obtain⟨a1,a2⟩:=h.ghost b o2 h1 h2;have:W.next≠b:=λe=>by subst e;rw[hw]at a1;cases a1
    exact⟨by rw[AW.aG _ _ this];exact a1,a2⟩,h.grow⟩
def fR.bind{σ0:dx}{W0:AW}{w0:ar}(h:fR σ0 W0 w0 σ W w){b e:Nat}(E1:σ b=none)(h0:W0.get b=none){x:rU}{o:dH}(BW:pw (cx σ b ⟨w.heap.size,0,e⟩) (w.heap.push x) ⟨w.heap.size,0,e⟩ o)(uN:∀cs,o≠ .ro cs):
 fR σ0 W0 w0 (cx σ b ⟨w.heap.size,0,e⟩) W {w with heap:=w.heap.push x}:=by
 have hs:Sub σ (cx σ b ⟨w.heap.size,0,e⟩):=dT E1;refine⟨h.sub.trans hs,h.ro,by have:=h.size;simp;omega,h.os,h.tape,h.output,?_,?_,?_⟩
 ·intro B hB hm;rw[<-h.keep B hB hm];have:=h.size;show(w.heap.push x)[B]? =_;rw[x8,bL]
 ·intro c o2 h1 h2;obtain⟨a1,a2⟩:=h.ghost c o2 h1 h2;have:c≠b:=λe=>by subst e;rw[h0]at h1;cases h1
  exact⟨a1,by unfold cx;rw[aq this];exact a2⟩
 ·intro c g hk hB;unfold cx at hk;split at hk
  ·injection hk with hk;subst hk;have:=h.size;simp at hB;omega
  ·exact h.grow c g hk hB
end
end
section
variable [ai]
def WM{d:Option Tmp}{l:List Tmp}:Ro d l=true<->∃t,d=some t/\t∈l:=by
 cases d with
 |none=>simp[Ro]
 |some d=>simp[Ro,xy]
def wD{d:Option Tmp}{l:List Tmp}(h:Ro d l=false){t:Tmp}(ht:d=some t):t∉l:=λhm=>by have:=WM.2 ⟨t,ht,hm⟩;rw[h]at this;cases this
def jA(ops:Array am)(R:ai.Fr)(o:am):Bool:=
 match o.guard with
 |none=>true
 |some (j,w)=>match(ops[j]?).bind (·.dst)with
  |some t=>(match du R t with|.bool b=>b==w|_=>false)
  |none=>false
def Sg{ops:Array am}{o:am}{t:Tmp}(h:Operand.tmp t∈o.op.operands):t∈o.looksAt ops:=by unfold Oper.looksAt;refine mj.2 (.inl (List.mem_filterMap.2 ⟨.tmp t,by simpa using h,rfl⟩))
def GV{ops:Array am}{o:am}{j:Nat}{w:Bool}{t:Tmp}(h:o.guard=some (j,w))(ht:(ops[j]?).bind (·.dst)=some t):t∈o.looksAt ops:=by unfold Oper.looksAt;refine mj.2 (.inr ?_);rw[h];simp only;rw[ht];simp
def R7{R R':ai.Fr}{x:au}(h:∀t,x=.tmp t->du R' t=du R t):aE R' x=aE R x:=by
 cases x with
 |tmp t=>exact h t rfl
 |_=>rfl
def DG{ops:Array am}{o:am}{R R':ai.Fr}(h:∀t∈o.looksAt ops,du R' t=du R t):NL o R R'/\jA ops R' o=jA ops R o:=by
 refine⟨λx hx=>R7 λt ht=>h t (Sg (by rw[<-ht];exact hx)),?_⟩;unfold jA;split
 ·rfl
 ·rename_i j w hg;split
  ·rename_i t ht;rw[h t (GV hg ht)]
  ·rfl
def VR.YF{σ:dx}{v:ad}{b:Bool}(h:VR σ v (.bool b)):v=.bool b:=by cases h;rfl
def Gq{ops:Array am}{o:am}{σ:dx}{R:ai.Fr}{a:bw}(h:∀t∈o.looksAt ops,VR σ (du R t) (a.tmps.getD t ak)):
 Region.wanted o (yielded ops a.tmps)=jA ops R o:=by
 unfold Region.wanted jA;cases hg:o.guard with
 |none=>rfl
 |some jw=>
  obtain⟨j,w⟩:=jw;simp only;unfold yielded;cases ht:(ops[j]?).bind (·.dst)with
  |none=>rfl
  |some t=>
   have hv:=h t (GV hg ht);simp only[bM];cases hq:a.tmps[t]? with
   |none=>
    have he:a.tmps.getD t ak=ak:=by simp[hq]
    rw[he]at hv;have:∀b,du R t≠ .bool b:=λb hb=>by rw[hb]at hv;have:=hv.jY;simp[ak]at this
    simp only;first
     |rfl
     |(split
       ·rename_i b hb;exact absurd hb (this b)
       ·rfl)
   |some u=>
    have he:a.tmps.getD t ak=u:=by simp[hq]
    rw[he]at hv;cases hr:du R t with
    |bool b=>rw[hr]at hv;have:=hv.jY;subst this;simp
    |_=>
     simp only;split
     ·rename_i b hb;injection hb with hb;subst hb;have:=hv.YF;rw[hr]at this;cases this
     ·rfl
def nK(P:ah)(call:Callee)(ops:Array am)(o:am)(R:ai.Fr)(W:AW):Option (ai.Fr×AW):=
 if jA ops R o then
  match vM P call o R W with
  |some (v,W')=>some (iJ R o.dst v,W')
  |none=>none
 else some (iJ R o.dst ak,W)
def tL(P:ah)(call:Callee)(ops:Array am):List am->ai.Fr->AW->Option (ai.Fr×AW)
 |[],R,W=>some (R,W)
 |o::l,R,W=>match nK P call ops o R W with
  |some (R',W')=>tL P call ops l R' W'
  |none=>none
def De(a b:ByteArray):Bool:=decide (a.data.toList=b.data.toList)
def Gt(a b:bg):Bool:=Nat.beq a.block b.block&&Nat.beq a.off b.off&&a.spot.isNone&&b.spot.isNone
def Ax:ad->ad->Bool
 |.bool a,.bool b=>a==b
 |.int k a,.int j b=>decide (k=j)&&decide (a=b)
 |.string a,.string b=>De a b
 |.pointer none,.pointer none=>true
 |.pointer (some a),.pointer (some b)=>Gt a b
 |.slice none l c,.slice none l' c'=>Nat.beq l l'&&Nat.beq c c'
 |.slice (some a) l c,.slice (some b) l' c'=>Gt a b&&Nat.beq l l'&&Nat.beq c c'
 |.map none,.map none=>true
 |.map (some a),.map (some b)=>Nat.beq a b
 |.nilFunc,.nilFunc=>true
 |.nilIface,.nilIface=>true
 |.func (.func f) a b,.func (.func g) c d=>Nat.beq f g&&a.isEmpty&&b.isEmpty&&c.isEmpty&&d.isEmpty
 |_,_=>false
def Y6:List ad->List ad->Bool
 |[],[]=>true
 |a::l,b::m=>Ax a b&&Y6 l m
 |_,_=>false
def iw:ad->ad->Bool
 |.agg a,.agg b=>Y6 a.toList b.toList
 |.tuple a,.tuple b=>Y6 a.toList b.toList
 |.iface t a,.iface u b=>Nat.beq t u&&Ax a b
 |a,b=>Ax a b
def Lz{a b:ByteArray}(h:De a b=true):a=b:=by have:=DS h;cases a;cases b;simp only[ByteArray.mk.injEq];exact qk.1 this
def MV{a b:bg}(h:Gt a b=true):a=b:=by simp only[Gt,bA,fo]at h;obtain⟨⟨⟨h1,h2⟩,h3⟩,h4⟩:=h;obtain⟨b1,o1,s1⟩:=a;obtain⟨b2,o2,s2⟩:=b;cases s1<;>cases s2<;>simp_all
def Vo{a b:ad}(h:Ax a b=true):a=b:=by
 unfold Ax at h;split at h<;>first
  |rfl
  |(simp at h;done)
  |(simp only[bA,fo,uw,iA]at h;simp[h];done)
  |(rw[Lz h];done)
  |(rw[MV h];done)
  |(simp only[bA,fo]at h;obtain⟨⟨h1,h2⟩,h3⟩:=h;rw[MV h1,h2,h3];done)
  |(simp only[bA,fo,Bq]at h;obtain⟨⟨⟨⟨h1,h2⟩,h3⟩,h4⟩,h5⟩:=h;subst h1 h2 h3 h4 h5;rfl)
def abJ{a b:List ad}(h:Y6 a b=true):a=b:=by
 induction a generalizing b with
 |nil=>cases b with|nil=>rfl|cons x l=>cases h
 |cons x l ih=>
  cases b with
  |nil=>cases h
  |cons y m=>simp only[Y6,bA]at h;rw[Vo h.1,ih h.2]
def adb{a b:ad}(h:iw a b=true):a=b:=by
 unfold iw at h;split at h
 ·rw[qk.1 (abJ h)]
 ·rw[qk.1 (abJ h)]
 ·simp only[bA,fo]at h;rw[h.1,Vo h.2]
 ·exact Vo h
def ur(P:ah)(call:Callee)(ops:Array am)(R:ai.Fr)(W:AW)(j:Nat):Bool:=
 match ops[j]? with
 |none=>false
 |some o=>if jA ops R o then
  match vM P call o R W with
  |some (v,_)=>(match o.dst with|some t=>iw v (du R t)|none=>true)
  |none=>false
  else true
def mJ(P:ah)(call:Callee)(ops:Array am):List (Nat×List Nat)->ai.Fr->AW->Option (ai.Fr×AW)
 |[],R,W=>some (R,W)
 |(i,re)::l,R,W=>match ops[i]? with
  |none=>none
  |some o=>match nK P call ops o R W with
   |some (R',W')=>if re.all (ur P call ops R' W')then mJ P call ops l R' W' else none
   |none=>none
def U8{P:ah}{call:Callee}{ops:Array am}:∀(l:List Nat) (R:ai.Fr) (W:AW),(∀i∈l,i<ops.size)->
 mJ P call ops (l.map λi=>(i,[])) R W=tL P call ops (l.filterMap λi=>ops[i]?) R W:=by
 intro l;induction l with
 |nil=>intro R W _;rfl
 |cons i l ih=>
  intro R W h;have hi:i<ops.size:=h i (by simp);have hg:ops[i]? =some ops[i]:=jN hi;simp only[mc,mJ,hg,List.filterMap_cons,tL];split
  ·rename_i R' W' hs;simp only[wU,bi];exact ih R' W' λj hj=>h j (by simp[hj])
  ·rfl
def pn{R:ai.Fr}{d:Option Tmp}{v:ad}{t:Tmp}(h:d≠some t):du (iJ R d v) t=du R t:=by
 cases d with
 |none=>rfl
 |some d=>exact xp R v (λe=>h (by rw[e]))
def Bu{R:ai.Fr}{d:Option Tmp}{v:ad}{t:Tmp}(h:d=some t):du (iJ R d v) t=v:=by subst h;exact Bf R t v
def jt{a:bw}{d:Option Tmp}{v:ad}{t:Tmp}(h:d≠some t):(a.put d v).tmps.getD t ak=a.tmps.getD t ak:=by
 cases d with
 |none=>rfl
 |some d=>
  have:d≠t:=λe=>h (by rw[e])
  simp[Act.put,F1 this]
def tC{a:bw}{d:Option Tmp}{v:ad}{t:Tmp}(h:d=some t)(ht:t<a.tmps.size):(a.put d v).tmps.getD t ak=v:=by subst h;simp[Act.put,ht]
def Ky{a:bw}{d:Option Tmp}{v:ad}:(a.put d v).tmps.size=a.tmps.size:=by cases d<;>simp[Act.put]
end
section
variable [ai]
def WA{a b:Nat}(h:Nat.beq a b=false):a≠b:=λe=>by rw[e,uC]at h;cases h
def aaN{A:List Nat}{o:am}{j:Nat}(h:Nat.testBit (AA A o) j=true):
 ∃e∈o.after,Region.binds .any e=true/\(j=e.on\/Nat.testBit (A.getD e.on 0) j=true):=by
 have key:∀l:List Edge,Nat.testBit (l.foldr (λe m=>if Region.binds .any e then Nat.lor (Nat.lor (2^ e.on) (A.getD e.on 0)) m else m) 0) j=true->
  ∃e∈l,Region.binds .any e=true/\(j=e.on\/Nat.testBit (A.getD e.on 0) j=true):=by
  intro l;induction l with
  |nil=>intro h;simp at h
  |cons e l ih=>
   intro h;simp only[List.foldr_cons]at h;split at h
   ·rename_i hb;have h':Nat.testBit ((2^ e.on|||A.getD e.on 0)|||(l.foldr (λe m=>if Region.binds .any e then Nat.lor (Nat.lor (2^ e.on) (A.getD e.on 0)) m else m) 0)) j=true:=h;rw[Nat.testBit_or,Nat.testBit_or,pd,pd]at h';rcases h' with(h1|h1)|h1
    ·rw[Nat.testBit_two_pow]at h1;exact⟨e,by simp,hb,.inl (DS h1).symm⟩
    ·exact⟨e,by simp,hb,.inr h1⟩
    ·obtain⟨e',a,b⟩:=ih h1;exact⟨e',by simp[a],b⟩
   ·obtain⟨e',a,b⟩:=ih h;exact⟨e',by simp[a],b⟩
 obtain⟨e,a,b⟩:=key o.after.toList h;exact⟨e,by simpa using a,b⟩
structure ajx (ops:Array am) (A:List Nat) (pre:List JG) (i:Nat) (re:List Nat) (ks:List (Nat×List Nat)) (o:am) (e:Bool):Prop where
 op:ops[i]? =some o
 early:e=true->jW o<3/\Ro o.dst (o.looksAt ops)=false/\∀d∈pre,Ro o.dst (mU ops d.o)=false
 new:∀d∈pre,d.i≠i
 top:∀ed∈o.after,Region.binds .any ed=true->∃d∈pre,d.i=ed.on
 held:∀d∈pre,d.early=true->Nat.testBit (A.getD i 0) d.i=true\/(Ro d.o.dst (o.looksAt ops)=false/\(e=true\/(Ro o.dst (mU ops d.o)=false/\(jW d.o=0\/jW d.o=2\/d.i∈re))))
 last:e=true\/∀k∈ks,∃ok,ops[k.1]? =some ok/\∃ed∈ok.after,Region.binds .any ed=true/\∀d∈pre,d.i≠ed.on
 go:Gz ops A (⟨i,o,e⟩::pre) ks=true
def Hx{ops:Array am}{A:List Nat}{pre:List JG}{i:Nat}{re:List Nat}{ks:List (Nat×List Nat)}(h:Gz ops A pre ((i,re)::ks)=true):
 ∃o e,ajx ops A pre i re ks o e:=by
 unfold Gz at h;split at h
 ·cases h
 ·rename_i o ho;simp only[bA]at h;obtain⟨⟨⟨⟨h1,h2⟩,h3⟩,h4⟩,h5⟩:=h;refine⟨o,_,⟨ho,?_,?_,?_,?_,?_,h5⟩⟩
  ·intro he;simp only[bA,dd,uW]at he;obtain⟨⟨a,b⟩,c⟩:=he;exact⟨by simpa[jH]using a,b,c⟩
  ·intro d hd;rw[dd]at h1;have:=h1 d hd;exact WA (by simpa only[uW]using this)
  ·intro ed hed hb;rw[dd]at h2;have:=h2 ed (by simpa using hed);rw[hb]at this;simpa using this
  ·intro d hd hde;rw[dd]at h3;have:=h3 d hd;rw[hde]at this;simp only[Bool.not_true,Bool.false_or,pd,bA,uW,fo,xy,or_assoc]at this;simpa only[bA,uW,or_assoc]using this
  ·rw[pd]at h4;refine h4.imp id λh4=>?_
   intro k hk;rw[dd]at h4;have:=h4 k hk;split at this
   ·rename_i ok mD;rw[xA]at this;obtain⟨ed,hed,hq⟩:=this;simp only[bA,dd,uW]at hq;refine⟨ok,mD,ed,by simpa using hed,hq.1,λd hd=>?_⟩;have:=hq.2 d hd;exact WA this
   ·cases this
section
variable {P:ah} {call:Callee} {ops:Array am} {A:List Nat} {nt:Nat} {ng:List Nat} {σ0:dx} {W0:AW} {w0:ar} {ds:List eA}
def Yc(P:ah)(call:Callee)(ops:Array am)(W0:AW)(bd:Nat->Option Nat)(σ:dx)(R:ai.Fr)(W:AW)(d:JG):Prop:=
 (jA ops R d.o=false/\bd d.i=none/\∀t,d.o.dst=some t->du R t=ak)\/
 (jA ops R d.o=true/\bd d.i=none/\jW d.o<=1/\∃v,vM P call d.o R W=some (v,W)/\∀t,d.o.dst=some t->du R t=v)\/
 (jA ops R d.o=true/\∃obj mk x,Lays P R d.o obj mk/\(∀t,d.o.dst=some t->du R t=mk x)/\W.get x=some obj/\W0.get x=none/\σ x=none/\bd d.i=some x/\∀cs,obj≠ .ro cs)
def zp{o:am}{t:Tmp}(h:t∈o.looksAt ops):t∈mU ops o:=by unfold mU;simp[h]
def sx{o:am}{t:Tmp}(h:o.dst=some t):t∈mU ops o:=by unfold mU;simp[h]
def Yc.mono{bd Zr:Nat->Option Nat}{σ σ':dx}{R R':ai.Fr}{W W':AW}{d:JG}(h:Yc P call ops W0 bd σ R W d)
 (hb:Zr d.i=bd d.i)(hR:∀t∈mU ops d.o,du R' t=du R t)(hg:Grow W W')(hσ:∀x o,W.get x=some o->σ x=none->σ' x=none):
 Yc P call ops W0 Zr σ' R' W' d:=by
 obtain⟨ha,hw⟩:=DG (ops:=ops) (o:=d.o) λt ht=>hR t (zp ht)
 rcases h with⟨h1,h2,h3⟩|⟨h1,h2,h3,v,h4,h5⟩|⟨h1,obj,mk,x,h2,h3,h4,h5,h6,h7⟩
 ·exact .inl ⟨by rw[hw];exact h1,by rw[hb];exact h2,λt ht=>by rw[hR t (sx ht)];exact h3 t ht⟩
 ·exact .inr (.inl ⟨by rw[hw];exact h1,by rw[hb];exact h2,h3,v,(AU h3 h4).2 R' W' ha (.inr hg),λt ht=>by rw[hR t (sx ht)];exact h5 t ht⟩)
 ·exact .inr (.inr ⟨by rw[hw];exact h1,obj,mk,x,h2.agree ha,λt ht=>by rw[hR t (sx ht)];exact h3 t ht,hg _ _ h4,h5,hσ _ _ h4 h6,by rw[hb];exact h7⟩)
structure J (P:ah) (call:Callee) (ops:Array am) (A:List Nat) (nt:Nat) (ng:List Nat) (σ0:dx) (W0:AW) (w0:ar) (ds:List eA)
 (pre:List JG) (listed:Array Bool) (bd:Nat->Option Nat) (σ:dx) (R:ai.Fr) (W:AW) (a:bw) (w:ar):Prop where
 FL:bI σ W w.heap
 UE:BM σ ng
 ext:fR σ0 W0 w0 σ W w
 Tv:a.tmps.size=nt
 dfs:a.defers=ds
 Cc:listed.size=ops.size
 X7:∀t,t<nt->(∀d∈pre,listed.getD d.i true=false->d.o.dst≠some t)->VR σ (du R t) (a.tmps.getD t ak)
 sub:∀i,i<ops.size->listed.getD i true=true->∃d∈pre,d.i=i
 op:∀d∈pre,ops[d.i]? =some d.o
 early:∀d∈pre,d.early=false->listed.getD d.i true=true
 kind:∀d∈pre,d.early=true->jW d.o<3
 down:∀i j,i<ops.size->listed.getD i true=true->Nat.testBit (A.getD i 0) j=true->listed.getD j true=true
 XB:∀d∈pre,∀d'∈pre,d'.early=true->Ro d'.o.dst (d.o.looksAt ops)=true->Nat.testBit (A.getD d.i 0) d'.i=true/\d.i≠d'.i
 qL:∀d∈pre,listed.getD d.i true=false->Yc P call ops W0 bd σ R W d
 inj:∀d∈pre,∀d'∈pre,listed.getD d.i true=false->listed.getD d'.i true=false->∀x,bd d.i=some x->bd d'.i=some x->d.i=d'.i
def J.advance{pre:List JG}{listed:Array Bool}{bd:Nat->Option Nat}{σ:dx}{R R':ai.Fr}{W W':AW}{a:bw}{w:ar}{i:Nat}{re:List Nat}{ks:List (Nat×List Nat)}{o:am}
 (hJ:J P call ops A nt ng σ0 W0 w0 ds pre listed bd σ R W a w)(hh:ajx ops A pre i re ks o true)(hs:nK P call ops o R W=some (R',W')):
 ∃Zr,J P call ops A nt ng σ0 W0 w0 ds (⟨i,o,true⟩::pre) listed Zr σ R' W' a w:=by
 obtain⟨hk3,aim,Oh⟩:=hh.early rfl;have hi:i<ops.size:=(eS.1 hh.op).1;have Ue:listed.getD i true=false:=by
  cases hq:listed.getD i true with
  |false=>rfl
  |true=>obtain⟨d,hd,e⟩:=hJ.sub i hi hq;exact absurd e (hh.new d hd)
 have SI:W.get W.next=none:=hJ.FL.free _ (aR _);have build:∀(Zr:Nat->Option Nat) (u:ad),R'=iJ R o.dst u->bI σ W' w.heap->fR σ0 W0 w0 σ W' w->Grow W W'->(∀k,k≠i->Zr k=bd k)->
  Yc P call ops W0 Zr σ R' W' ⟨i,o,true⟩->(∀x,Zr i=some x->W.get x=none)->J P call ops A nt ng σ0 W0 w0 ds (⟨i,o,true⟩::pre) listed Zr σ R' W' a w:=by
  intro Zr u hR' hwr Tj hg hbd Wr hbx;have FX:∀d∈pre,∀t∈mU ops d.o,du R' t=du R t:=λd hd t ht=>by rw[hR'];exact pn λe=>wD (Oh d hd) e ht
  have gE:∀d∈pre,listed.getD d.i true=false->Yc P call ops W0 Zr σ R' W' d:=λd hd hl=>(hJ.qL d hd hl).mono (hbd _ (hh.new d hd)) (FX d hd) hg (λ_ _ _ h=>h)
  have hpx:∀d∈pre,listed.getD d.i true=false->∀x,bd d.i=some x->∃ob,W.get x=some ob:=by
   intro d hd hl x hx;rcases hJ.qL d hd hl with⟨_,h2,_⟩|⟨_,h2,_⟩|⟨_,obj,mk,y,_,_,h4,_,_,h7⟩
   ·rw[h2]at hx;cases hx
   ·rw[h2]at hx;cases hx
   ·rw[h7.1]at hx;injection hx with hx;subst hx;exact⟨obj,h4⟩
  refine⟨hwr,hJ.UE,Tj,hJ.Tv,hJ.dfs,hJ.Cc,?_,?_,?_,?_,?_,hJ.down,?_,?_,?_⟩
  ·intro t ht yW;have h1:o.dst≠some t:=yW ⟨i,o,true⟩ (by simp) Ue;rw[hR',pn h1];exact hJ.X7 t ht λd hd=>yW d (by simp[hd])
  ·intro k hk hl;obtain⟨d,hd,e⟩:=hJ.sub k hk hl;exact⟨d,by simp[hd],e⟩
  ·intro d hd;rcases eU.1 hd with rfl|hd
   ·exact hh.op
   ·exact hJ.op d hd
  ·intro d hd he;rcases eU.1 hd with rfl|hd
   ·cases he
   ·exact hJ.early d hd he
  ·intro d hd he;rcases eU.1 hd with rfl|hd
   ·exact hk3
   ·exact hJ.kind d hd he
  ·intro d hd d' ke he nH;rcases eU.1 hd with rfl|hd
   ·rcases eU.1 ke with rfl|ke
    ·simp only at nH;rw[aim]at nH;cases nH
    ·rcases hh.held d' ke he with h1|⟨h1,_⟩
     ·exact⟨h1,λe=>hh.new d' ke e.symm⟩
     ·simp only at nH;rw[h1]at nH;cases nH
   ·rcases eU.1 ke with rfl|ke
    ·exfalso;have h1:=Oh d hd;obtain⟨t,ht,hm⟩:=WM.1 nH;exact wD h1 ht (zp hm)
    ·exact hJ.XB d hd d' ke he nH
  ·intro d hd hl;rcases eU.1 hd with rfl|hd
   ·exact Wr
   ·exact gE d hd hl
  ·intro d hd d' ke hl Cy x hx hx';rcases eU.1 hd with rfl|hd
   ·rcases eU.1 ke with rfl|ke
    ·rfl
    ·rw[hbd _ (hh.new d' ke)]at hx';obtain⟨ob,h1⟩:=hpx d' ke Cy x hx';rw[hbx x hx]at h1;cases h1
   ·rcases eU.1 ke with rfl|ke
    ·rw[hbd _ (hh.new d hd)]at hx;obtain⟨ob,h1⟩:=hpx d hd hl x hx;rw[hbx x hx']at h1;cases h1
    ·rw[hbd _ (hh.new d hd)]at hx;rw[hbd _ (hh.new d' ke)]at hx';exact hJ.inj d hd d' ke hl Cy x hx hx'
 have Z2:∀u,(∀t∈o.looksAt ops,du (iJ R o.dst u) t=du R t):=λu t ht=>pn λe=>wD aim e ht
 unfold nK at hs;split at hs
 ·rename_i hw;split at hs
  ·rename_i v W1 vO;injection hs with hs;injection hs with LP Du;subst LP;subst Du;obtain⟨ha,hwa⟩:=DG (Z2 v);by_cases hk1:jW o<=1
   ·obtain⟨hW1,hk⟩:=AU hk1 vO;subst hW1;refine⟨λk=>if k=i then none else bd k,build _ v rfl hJ.FL hJ.ext (.refl _) (λk hk=>by simp[hk]) (.inr (.inl ⟨by rw[hwa];exact hw,by simp,hk1,v,hk _ _ ha (.inr (.refl _)),λt ht=>Bu ht⟩)) (λx hx=>by simp at hx)⟩
   ·have WS:jW o=2:=by omega
    obtain⟨obj,mk,uN,rfl,rfl,hl⟩:=aei WS vO;have awh:W0.get W.next=none:=by
     cases hq:W0.get W.next with
     |none=>rfl
     |some ob=>
      cases hq2:σ0 W.next with
      |none=>rw[(hJ.ext.ghost _ _ hq hq2).1]at SI;cases SI
      |some g=>have:=(hJ.FL.qP _ _ (hJ.ext.sub _ _ hq2)).1;omega
    refine⟨λk=>if k=i then some W.next else bd k,build _ _ rfl (hJ.FL.ghost obj) (hJ.ext.Zs SI obj) (.add SI obj) (λk hk=>by simp[hk])
     (.inr (.inr ⟨by rw[hwa];exact hw,obj,mk,W.next,hl.agree ha,λt ht=>Bu ht,AW.aL _ _,awh,hJ.FL.fresh,by simp,uN⟩)) (λx hx=>by simp at hx;subst hx;exact SI)⟩
  ·cases hs
 ·rename_i hw;injection hs with hs;injection hs with LP Du;subst LP;subst Du;obtain⟨ha,hwa⟩:=DG (Z2 ak);refine⟨λk=>if k=i then none else bd k,build _ ak rfl hJ.FL hJ.ext (.refl _) (λk hk=>by simp[hk]) (.inl ⟨by rw[hwa];simpa using hw,by simp,λt ht=>Bu ht⟩) (λx hx=>by simp at hx)⟩
end
end
section
variable [ai]
def dK{l:Array Bool}{i:Nat}(h:i<l.size)(d:Bool):(l.setIfInBounds i true).getD i d=true:=by simp[h]
def bm{l:Array Bool}{i j:Nat}(h:i≠j)(d:Bool):(l.setIfInBounds i true).getD j d=l.getD j d:=by simp[F1 h]
def Po{l:Array Bool}{i:Nat}(h:l.getD i false=true):l.getD i true=true/\i<l.size:=by
 by_cases hi:i<l.size
 ·simp[hi]at h|-;exact h
 ·simp[hi]at h
def Qr{ops:Array am}{nt:Nat}{ng:List Nat}(mD:∀(i:Nat) (o:am),ops[i]? =some o->oK nt ng o=true){i:Nat}{o:am}(ho:ops[i]? =some o){t:Tmp}(ht:t∈o.looksAt ops):t<nt:=by
 unfold Oper.looksAt at ht;rcases mj.1 ht with h|h
 ·obtain⟨x,hx,e⟩:=List.mem_filterMap.1 h;have:=mD i o ho;simp only[oK,bA,dd]at this;have h2:=this.1 x hx;cases x with
  |tmp u=>simp only[iW]at e;subst e;simpa[sA,jH]using h2
  |_=>cases e
 ·split at h
  ·rename_i g b hg;cases hq:(ops[g]?).bind (·.dst)with
   |none=>rw[hq]at h;simp at h
   |some u=>
    rw[hq]at h;simp at h;subst h;cases hg:ops[g]? with
    |none=>rw[hg]at hq;cases hq
    |some og=>rw[hg]at hq;simp only[bM]at hq;have:=mD g og hg;simp only[oK,hq,bA]at this;simpa[jH]using this.2
  ·simp at h
def xQ{ops:Array am}{nt:Nat}{ng:List Nat}{σ:dx}{R:ai.Fr}{a:bw}(hG:BM σ ng){o:am}(mD:oK nt ng o=true)
 (h:∀t∈o.looksAt ops,VR σ (du R t) (a.tmps.getD t ak)):∀x∈o.op.operands,VR σ (aE R x) (a.eval x):=by
 intro x hx;simp only[oK,bA,dd]at mD;have hk:=mD.1 x (by simpa using hx);cases x with
 |tmp t=>exact h t (Sg hx)
 |const v=>exact jJ hk
 |global g=>obtain⟨e,he⟩:=hG g (xy.1 hk);have:=VR.ptr (σ:=σ) ⟨g,0,none⟩ _ he rfl;simpa[aE,Act.eval]using this
 |func f=>exact .func _ _ _ _ _ _ (.func f) rfl (λi v v' h=>by simp at h) rfl (λi v v' h=>by simp at h)
def abi{o:am}(h:jW o<3):∀c,o.op≠ .defer c:=λc e=>by unfold jW at h;rw[e]at h;simp at h
section
variable {P:ah} {call:Callee} {ops:Array am} {A:List Nat} {nt:Nat} {ng:List Nat} {σ0:dx} {W0:AW} {w0:ar} {ds:List eA}
def J.anc{pre:List JG}{listed:Array Bool}{bd:Nat->Option Nat}{σ:dx}{R:ai.Fr}{W:AW}{a:bw}{w:ar}
 (hJ:J P call ops A nt ng σ0 W0 w0 ds pre listed bd σ R W a w)(hA:∀(i:Nat) (o:am),ops[i]? =some o->A.getD i 0=AA A o)
 {i:Nat}{o:am}(ho:ops[i]? =some o)(hr:∀e∈o.after,Region.binds .any e=true->listed.getD e.on false=true){j:Nat}(hj:Nat.testBit (A.getD i 0) j=true):
 listed.getD j true=true:=by
 rw[hA i o ho]at hj;obtain⟨e,he,hb,h|h⟩:=aaN hj
 ·rw[h];exact(Po (hr e he hb)).1
 ·have:=Po (hr e he hb);exact hJ.down e.on j (by rw[<-hJ.Cc];exact this.2) this.1 h
def J.mark{pre:List JG}{listed:Array Bool}{bd:Nat->Option Nat}{σ σ':dx}{R:ai.Fr}{W:AW}{a:bw}{w w':ar}
 (hJ:J P call ops A nt ng σ0 W0 w0 ds pre listed bd σ R W a w){d:JG}(hd:d∈pre)(v':ad)(hs:Sub σ σ')(hw:bI σ' W w'.heap)(he:fR σ0 W0 w0 σ' W w')
 (hv:∀t,d.o.dst=some t->VR σ' (du R t) v')(hx:∀d'∈pre,d'.i≠d.i->listed.getD d'.i true=false->∀x,bd d'.i=some x->σ x=none->(∃o,W.get x=some o)->σ' x=none)
 (PI:∀j,Nat.testBit (A.getD d.i 0) j=true->listed.getD j true=true):
 J P call ops A nt ng σ0 W0 w0 ds pre (listed.setIfInBounds d.i true) bd σ' R W (a.put d.o.dst v') w':=by
 have hi:d.i<listed.size:=by rw[hJ.Cc];exact(eS.1 (hJ.op d hd)).1
 have Cs:∀k,listed.getD k true=true->(listed.setIfInBounds d.i true).getD k true=true:=λk hk=>by
  by_cases e:d.i=k
  ·subst e;exact dK hi _
  ·rw[bm e];exact hk
 have Hi:∀k,(listed.setIfInBounds d.i true).getD k true=false->k≠d.i/\listed.getD k true=false:=λk hk=>by
  by_cases e:d.i=k
  ·subst e;rw[dK hi]at hk;cases hk
  ·rw[bm e]at hk;exact⟨bh e,hk⟩
 refine⟨hw,hJ.UE.mono hs,he,by rw[Ky];exact hJ.Tv,by rw[tO];exact hJ.dfs,by simp[hJ.Cc],?_,?_,hJ.op,?_,hJ.kind,?_,hJ.XB,?_,?_⟩
 ·intro t ht yW;by_cases hdt:d.o.dst=some t
  ·rw[tC hdt (by rw[hJ.Tv];exact ht)];exact hv t hdt
  ·rw[jt hdt];refine(hJ.X7 t ht λd' ke hl=>?_).mono hs;by_cases e:d'.i=d.i
   ·have h1:=hJ.op d' ke;have h2:=hJ.op d hd;rw[e,h2]at h1;injection h1 with h1;rw[<-h1];exact hdt
   ·exact yW d' ke (by rw[bm (bh e)];exact hl)
 ·intro k hk hl;by_cases e:d.i=k
  ·exact⟨d,hd,e⟩
  ·rw[bm e]at hl;exact hJ.sub k hk hl
 ·intro d' ke h;exact Cs _ (hJ.early d' ke h)
 ·intro k j hk hl hb;by_cases e:d.i=k
  ·subst e;exact Cs _ (PI j hb)
  ·rw[bm e]at hl;exact Cs _ (hJ.down k j hk hl hb)
 ·intro d' ke hl;obtain⟨h1,h2⟩:=Hi _ hl;rcases hJ.qL d' ke h2 with k|k|⟨k1,obj,mk,x,k2,k3,k4,k5,k6,k7⟩
  ·exact .inl k
  ·exact .inr (.inl k)
  ·exact .inr (.inr ⟨k1,obj,mk,x,k2,k3,k4,k5,hx d' ke h1 h2 x k7.1 k6 ⟨_,k4⟩,k7⟩)
 ·intro d1 h1 d2 h2 l1 l2;exact hJ.inj d1 h1 d2 h2 (Hi _ l1).2 (Hi _ l2).2
def J.looks{pre:List JG}{listed:Array Bool}{bd:Nat->Option Nat}{σ:dx}{R:ai.Fr}{W:AW}{a:bw}{w:ar}
 (hJ:J P call ops A nt ng σ0 W0 w0 ds pre listed bd σ R W a w)(mD:∀(i:Nat) (o:am),ops[i]? =some o->oK nt ng o=true){i:Nat}{o:am}(ho:ops[i]? =some o)
 (hp:∀d∈pre,listed.getD d.i true=false->Ro d.o.dst (o.looksAt ops)=false):∀t∈o.looksAt ops,VR σ (du R t) (a.tmps.getD t ak):=
 λt ht=>hJ.X7 t (Qr mD ho ht) λd hd hl e=>wD (hp d hd hl) e ht
def J.xX{pre:List JG}{listed:Array Bool}{bd:Nat->Option Nat}{σ:dx}{R:ai.Fr}{W:AW}{a:bw}{w:ar}
 (hJ:J P call ops A nt ng σ0 W0 w0 ds pre listed bd σ R W a w){d:JG}(hd:d∈pre)(hl:listed.getD d.i true=false):d.early=true:=by
 cases he:d.early with
 |true=>rfl
 |false=>rw[hJ.early d hd he]at hl;cases hl
def J.aqn(hc:cl P ng call)(mD:∀(i:Nat) (o:am),ops[i]? =some o->oK nt ng o=true)(hA:∀(i:Nat) (o:am),ops[i]? =some o->A.getD i 0=AA A o)
 {pre:List JG}{listed:Array Bool}{bd:Nat->Option Nat}{σ:dx}{R:ai.Fr}{W:AW}{a:bw}{w:ar}
 (hJ:J P call ops A nt ng σ0 W0 w0 ds pre listed bd σ R W a w){d:JG}(hd:d∈pre)(hl:listed.getD d.i true=false)
 (hr:∀e∈d.o.after,Region.binds .any e=true->listed.getD e.on false=true){ro:Option Nat}{K:bw->ar->Prop}{Q:dr->bw->ar->Prop}
 (hK:∀σ' a' w',J P call ops A nt ng σ0 W0 w0 ds pre (listed.setIfInBounds d.i true) bd σ' R W a' w'->K a' w'):wpOpIn (FE ro) 0 P ops Q d.i K a w:=by
 have ho:=hJ.op d hd;have PI:∀j,Nat.testBit (A.getD d.i 0) j=true->listed.getD j true=true:=λj hj=>hJ.anc hA ho hr hj
 have Hz:=hJ.looks mD ho (λd' ke Cy=>by
  cases hq:Ro d'.o.dst (d.o.looksAt ops)with
  |false=>rfl
  |true=>have:=PI _ (hJ.XB d hd d' ke (hJ.xX ke Cy) hq).1;rw[Cy]at this;cases this);have hρ:=xQ hJ.UE (mD _ _ ho) Hz;have hwe:=Gq Hz;have hk3:=hJ.kind d hd (hJ.xX hd hl);have G8:=abi hk3;unfold wpOpIn;rw[ho];simp only[hwe];rcases hJ.qL d hd hl with⟨h1,h2,h3⟩|⟨h1,h2,h3,v,h4,h5⟩|⟨h1,obj,mk,x,h2,h3,h4,h5,h6,h7⟩
 ·rw[h1,aq (by simp)];refine⟨λf _=>trivial,hK σ _ w (hJ.mark hd ak (.refl _) hJ.FL hJ.ext (λt ht=>by rw[h3 t ht];exact .undef) (λ_ _ _ _ _ _ h _=>h) PI)⟩
 ·rw[h1,an rfl];refine OQ hc hJ.FL hJ.UE h4 hρ λσ' v' w' hv hw he=>?_
  exact hK σ' _ w' (hJ.mark hd v' he.sub hw (hJ.ext.trans he) (λt ht=>by rw[h5 t ht];exact hv) (λd' _ _ _ x _ h6 ⟨ob,hx⟩=>(he.ghost _ _ hx h6).2) PI)
 ·rw[h1,an rfl];obtain⟨v',xo,e,r1,r2,r3⟩:=h2 σ a.eval w x hρ h6;refine⟨λf _=>trivial,?_⟩;rw[Oper.semAt_eq _ _ _ G8,r1];refine hK (cx σ x ⟨w.heap.size,0,e⟩) _ _ (hJ.mark hd v' (dT h6) (hJ.FL.bind h4 h6 r3) (hJ.ext.bind h6 h5 r3 h7.2) (λt ht=>by rw[h3 t ht];exact r2) ?_ PI);intro d' ke fe Cy y hy hσ _;have:y≠x:=λe=>by subst e;exact fe (hJ.inj d' ke d hd Cy hl y hy h7.1)
  unfold cx;rw[aq this];exact hσ
def J.force(hc:cl P ng call)(mD:∀(i:Nat) (o:am),ops[i]? =some o->oK nt ng o=true)(hA:∀(i:Nat) (o:am),ops[i]? =some o->A.getD i 0=AA A o)
 {pre:List JG}{listed:Array Bool}{bd:Nat->Option Nat}{σ:dx}{R R':ai.Fr}{W W':AW}{a:bw}{w:ar}{i:Nat}{re:List Nat}{ks:List (Nat×List Nat)}{o:am}
 (hJ:J P call ops A nt ng σ0 W0 w0 ds pre listed bd σ R W a w)(hh:ajx ops A pre i re ks o false)(hs:nK P call ops o R W=some (R',W'))(Sa:re.all (ur P call ops R' W')=true)
 (hr:∀e∈o.after,Region.binds .any e=true->listed.getD e.on false=true){ro:Option Nat}{K:bw->ar->Prop}{Q:dr->bw->ar->Prop}
 (hK:∀σ' a' w',J P call ops A nt ng σ0 W0 w0 ds (⟨i,o,false⟩::pre) (listed.setIfInBounds i true) bd σ' R' W' a' w'->K a' w'):wpOpIn (FE ro) 0 P ops Q i K a w:=by
 have ho:=hh.op;have hi:i<listed.size:=by rw[hJ.Cc];exact(eS.1 ho).1
 have PI:∀j,Nat.testBit (A.getD i 0) j=true->listed.getD j true=true:=λj hj=>hJ.anc hA ho hr hj
 have Wr:∀d∈pre,listed.getD d.i true=false->Ro d.o.dst (o.looksAt ops)=false/\Ro o.dst (mU ops d.o)=false/\(jW d.o=0\/jW d.o=2\/d.i∈re):=by
  intro d hd hl;rcases hh.held d hd (hJ.xX hd hl)with h1|⟨h1,h2⟩
  ·rw[PI _ h1]at hl;cases hl
  ·rcases h2 with h2|⟨h2,h3⟩
   ·cases h2
   ·exact⟨h1,h2,h3⟩
 have Hz:=hJ.looks mD ho (λd hd hl=>(Wr d hd hl).1);have hρ:=xQ hJ.UE (mD _ _ ho) Hz;have hwe:=Gq Hz;have Hi:∀k,(listed.setIfInBounds i true).getD k true=false->k≠i/\listed.getD k true=false:=λk hk=>by
  by_cases e:i=k
  ·subst e;rw[dK hi]at hk;cases hk
  ·rw[bm e]at hk;exact⟨bh e,hk⟩
 have Cs:∀k,listed.getD k true=true->(listed.setIfInBounds i true).getD k true=true:=λk hk=>by
  by_cases e:i=k
  ·subst e;exact dK hi _
  ·rw[bm e];exact hk
 have build:∀(σ':dx) (u u':ad) (w':ar),R'=iJ R o.dst u->VR σ' u u'->bI σ' W' w'.heap->fR σ W w σ' W' w'->
  J P call ops A nt ng σ0 W0 w0 ds (⟨i,o,false⟩::pre) (listed.setIfInBounds i true) bd σ' R' W' (a.put o.dst u') w':=by
  intro σ' u u' w' hR' hu hw he;refine⟨hw,hJ.UE.mono he.sub,hJ.ext.trans he,by rw[Ky];exact hJ.Tv,by rw[tO];exact hJ.dfs,by simp[hJ.Cc],?_,?_,?_,?_,?_,?_,?_,?_,?_⟩
  ·intro t ht yW;by_cases hdt:o.dst=some t
   ·rw[tC hdt (by rw[hJ.Tv];exact ht),hR',Bu hdt];exact hu
   ·rw[jt hdt,hR',pn hdt];refine(hJ.X7 t ht λd' ke hl=>?_).mono he.sub;exact yW d' (by simp[ke]) (by rw[bm (bh (hh.new d' ke))];exact hl)
  ·intro k hk hl;by_cases e:i=k
   ·exact⟨⟨i,o,false⟩,by simp,e⟩
   ·rw[bm e]at hl;obtain⟨d,hd,e⟩:=hJ.sub k hk hl;exact⟨d,by simp[hd],e⟩
  ·intro d hd;rcases eU.1 hd with rfl|hd
   ·exact ho
   ·exact hJ.op d hd
  ·intro d hd h;rcases eU.1 hd with rfl|hd
   ·exact dK hi _
   ·exact Cs _ (hJ.early d hd h)
  ·intro d hd h;rcases eU.1 hd with rfl|hd
   ·cases h
   ·exact hJ.kind d hd h
  ·intro k j hk hl hb;by_cases e:i=k
   ·subst e;exact Cs _ (PI j hb)
   ·rw[bm e]at hl;exact Cs _ (hJ.down k j hk hl hb)
  ·intro d hd d' ke hde nH;rcases eU.1 ke with rfl|ke
   ·cases hde
   ·rcases eU.1 hd with rfl|hd
    ·rcases hh.held d' ke hde with h1|⟨h1,_⟩
     ·exact⟨h1,λe=>hh.new d' ke e.symm⟩
     ·simp only at nH;rw[h1]at nH;cases nH
    ·exact hJ.XB d hd d' ke hde nH
  ·intro d hd hl;rcases eU.1 hd with rfl|hd
   ·rw[dK hi]at hl;cases hl
   ·have Cy:=(Hi _ hl).2;obtain⟨g1,g2,g3⟩:=Wr d hd Cy;have FX:∀t∈mU ops d.o,du R' t=du R t:=λt ht=>by rw[hR'];exact pn λe=>wD g2 e ht
    obtain⟨ha,hwd⟩:=DG (ops:=ops) (o:=d.o) λt ht=>FX t (zp ht)
    rcases hJ.qL d hd Cy with⟨h1,h2,h3⟩|⟨h1,h2,h3,v,h4,h5⟩|⟨h1,obj,mk,x,h2,h3,h4,h5,h6,h7⟩
    ·exact .inl ⟨by rw[hwd];exact h1,h2,λt ht=>by rw[FX t (sx ht)];exact h3 t ht⟩
    ·refine .inr (.inl ⟨by rw[hwd];exact h1,h2,h3,?_⟩);rcases g3 with g3|g3|g3
     ·exact⟨v,(AU h3 h4).2 R' W' ha (.inl g3),λt ht=>by rw[FX t (sx ht)];exact h5 t ht⟩
     ·omega
     ·have Z2:=dd.1 Sa d.i g3;unfold ur at Z2;rw[hJ.op d hd]at Z2;simp only[hwd,h1,bi]at Z2;split at Z2
      ·rename_i u W2 vO;have:=(AU h3 vO).1;subst this;refine⟨u,vO,λt ht=>?_⟩;rw[ht]at Z2;exact(adb Z2).symm
      ·cases Z2
    ·obtain⟨k1,k2⟩:=he.ghost _ _ h4 h6;exact .inr (.inr ⟨by rw[hwd];exact h1,obj,mk,x,h2.agree ha,λt ht=>by rw[FX t (sx ht)];exact h3 t ht,k1,h5,k2,h7⟩)
  ·intro d1 h1 d2 h2 l1 l2 x hx1 hx2;rcases eU.1 h1 with rfl|h1
   ·rw[dK hi]at l1;cases l1
   ·rcases eU.1 h2 with rfl|h2
    ·rw[dK hi]at l2;cases l2
    ·exact hJ.inj d1 h1 d2 h2 (Hi _ l1).2 (Hi _ l2).2 x hx1 hx2
 unfold wpOpIn;rw[ho];simp only[hwe];unfold nK at hs;split at hs
 ·rename_i hw;rw[an hw];split at hs
  ·rename_i v W1 vO;injection hs with hs;injection hs with LP Du;subst LP;subst Du;exact OQ hc hJ.FL hJ.UE vO hρ λσ' v' w' hv hw' he=>hK σ' _ w' (build σ' v v' w' rfl hv hw' he)
  ·cases hs
 ·rename_i hw;rw[aq hw];injection hs with hs;injection hs with LP Du;subst LP;subst Du;exact⟨λf _=>trivial,hK σ _ w (build σ ak ak w rfl .undef hJ.FL (.refl _ _ _))⟩
end
end
section
variable [ai]
def unl(n:Nat)(l:Array Bool):Nat:=(List.range n).countP λi=> !l.getD i true
def NR{α:Type}{p q:α->Bool}{x:α}:∀{l:List α},x∈l->p x=true->q x=false->(∀y,q y=true->p y=true)->l.countP q<l.countP p:=by
 intro l;induction l with
 |nil=>intro h;cases h
 |cons y l ih=>
  intro h hp hq hi;have aM:l.countP q<=l.countP p:=List.countP_mono_left λz _ hz=>hi z hz
  rcases eU.1 h with rfl|h
  ·rw[List.countP_cons,List.countP_cons,hp,hq];simp;omega
  ·have:=ih h hp hq hi;rw[List.countP_cons,List.countP_cons];cases hqy:q y with
   |true=>rw[hi y hqy];simp;omega
   |false=>cases p y<;>simp<;>omega
def IP{n i:Nat}{l:Array Bool}(hi:i<n)(hs:i<l.size)(h:l.getD i true=false):unl n (l.setIfInBounds i true)<unl n l:=by
 refine NR (x:=i) (by simpa using hi) (by rw[h];rfl) (by rw[dK hs];rfl) λy hy=>?_
 by_cases e:i=y
 ·subst e;rw[dK hs]at hy;cases hy
 ·rw[bm e]at hy;exact hy
def RN{n:Nat}{l:Array Bool}(h:unl n l=0){i:Nat}(hi:i<n):l.getD i true=true:=by unfold unl at h;rw[List.countP_eq_zero]at h;have:=h i (by simpa using hi);simpa using this
section
variable {P:ah} {call:Callee} {ops:Array am} {A:List Nat} {nt:Nat} {ng:List Nat} {σ0:dx} {W0:AW} {w0:ar} {ds:List eA}
inductive HJ (ops:Array am):List JG->Prop where
 |nil:HJ ops []
 |cons (d:JG) (pre:List JG) (h:HJ ops pre) (ht:∀e∈d.o.after,Region.binds .any e=true->∃d'∈pre,d'.i=e.on) (ho:ops[d.i]? =some d.o):HJ ops (d::pre)
def HJ.ready{listed:Array Bool}(vS:listed.size=ops.size):∀{pre:List JG},HJ ops pre->(∃d∈pre,listed.getD d.i true=false)->Region.ready .any ops listed≠[]:=by
 intro pre h;induction h with
 |nil=>rintro⟨d,hd,_⟩;cases hd
 |cons d pre h ht ho ih=>
  rintro⟨d',ke,hl⟩ hr;by_cases IS:∃d∈pre,listed.getD d.i true=false
  ·exact ih IS hr
  ·rcases eU.1 ke with rfl|ke
   ·have:d'.i∈Region.ready .any ops listed:=rO.2 ⟨hl,d'.o,ho,λe he hb=>by
     obtain⟨d2,h2,e2⟩:=ht e he hb;have C0:listed.getD d2.i true=true:=by
      cases hq:listed.getD d2.i true with
      |true=>rfl
      |false=>exact absurd ⟨d2,h2,hq⟩ IS
     have hir:d2.i<ops.size:=by
      have:∀{pre},HJ ops pre->∀d∈pre,d.i<ops.size:=by
       intro pre h;induction h with
       |nil=>intro d hd;cases hd
       |cons d pre h ht ho ih=>
        intro d' ke;rcases eU.1 ke with rfl|ke
        ·exact(eS.1 ho).1
        ·exact ih d' ke
      exact this h d2 h2
     rw[<-e2];simp only[AB]at C0|-;rw[jN (by omega)]at C0|-;exact C0⟩;rw[hr]at this;cases this
   ·exact IS ⟨d',ke,hl⟩
def ab6(hc:cl P ng call)(mD:∀(i:Nat) (o:am),ops[i]? =some o->oK nt ng o=true)(hA:∀(i:Nat) (o:am),ops[i]? =some o->A.getD i 0=AA A o)
 {ro:Option Nat}{Q:dr->bw->ar->Prop}{Rf:ai.Fr}{Wf:AW}
 (hQ:∀σ' a' w',fy nt σ' Rf a'.tmps->a'.defers=ds->bI σ' Wf w'.heap->fR σ0 W0 w0 σ' Wf w'->Q .normal a' w'):
 ∀(EI:Nat) (suf:List (Nat×List Nat)) (pre:List JG) (listed:Array Bool) (bd:Nat->Option Nat) (σ:dx) (R:ai.Fr) (W:AW) (a:bw) (w:ar),
  J P call ops A nt ng σ0 W0 w0 ds pre listed bd σ R W a w->HJ ops pre->Gz ops A pre suf=true->mJ P call ops suf R W=some (Rf,Wf)->
  (∀i,i<ops.size->(∃d∈pre,d.i=i)\/∃k∈suf,k.1=i)->unl ops.size listed<=EI->wpAnyIn (FE ro) 0 P .any ops Q EI listed a w:=by
 intro EI;induction EI with
 |zero=>
  intro suf pre listed bd σ R W a w hJ oY hgo pP OO hun;have yz:∀i,i<ops.size->listed.getD i true=true:=λi hi=>RN (by omega) hi
  have amD:Region.ready .any ops listed=[]:=by rw[List.eq_nil_iff_forall_not_mem];intro i hi;obtain⟨h1,o,ho,_⟩:=rO.1 hi;rw[yz i (eS.1 ho).1]at h1;cases h1
  refine⟨amD,?_⟩;cases suf with
  |nil=>injection pP with pP;injection pP with h1 h2;subst h1;subst h2;refine hQ σ a w ⟨hJ.Tv,λt ht=>hJ.X7 t ht λd hd hl=>?_⟩ hJ.dfs hJ.FL hJ.ext;rw[yz d.i (eS.1 (hJ.op d hd)).1]at hl;cases hl
  |cons k ks=>obtain⟨i,re⟩:=k;obtain⟨o,e,hh⟩:=Hx hgo;have hi:=(eS.1 hh.op).1;obtain⟨d,hd,e⟩:=hJ.sub i hi (yz i hi);exact absurd e (hh.new d hd)
 |succ EI ih=>
  intro suf;induction suf with
  |nil=>
   intro pre listed bd σ R W a w hJ oY hgo pP OO hun;refine⟨λhr=>?_,λi hi=>?_⟩
   ·have yW:∀d∈pre,listed.getD d.i true=true:=λd hd=>by
     cases hq:listed.getD d.i true with
     |true=>rfl
     |false=>exact absurd hr (oY.ready hJ.Cc ⟨d,hd,hq⟩)
    injection pP with pP;injection pP with h1 h2;subst h1;subst h2;exact hQ σ a w ⟨hJ.Tv,λt ht=>hJ.X7 t ht λd hd hl=>by rw[yW d hd]at hl;cases hl⟩ hJ.dfs hJ.FL hJ.ext
   ·obtain⟨h1,o,ho,h2⟩:=rO.1 hi;have mC:=(eS.1 ho).1;rcases OO i mC with⟨d,hd,e⟩|⟨k,hk,_⟩
    ·subst e;have Xk:=hJ.op d hd;rw[ho]at Xk;injection Xk with Xk;subst Xk;refine hJ.aqn hc mD hA hd h1 h2 λσ' a' w' hJ'=>?_
     exact ih [] pre _ bd σ' R W a' w' hJ' oY hgo pP OO (by have:=IP mC (by rw[hJ.Cc];exact mC) h1;omega)
    ·cases hk
  |cons k ks ihs=>
   intro pre listed bd σ R W a w hJ oY hgo pP OO hun;obtain⟨i,re⟩:=k;obtain⟨o,e,hh⟩:=Hx hgo;have hi:=(eS.1 hh.op).1;simp only[mJ,hh.op]at pP;split at pP;case h_2=>cases pP
   rename_i R' W' hs;split at pP;case isFalse=>cases pP
   rename_i Sa;have aiO:∀j,j<ops.size->(∃d∈(⟨i,o,e⟩::pre:List JG),d.i=j)\/∃k∈ks,k.1=j:=by
    intro j hj;rcases OO j hj with⟨d,hd,h1⟩|⟨k,hk,h1⟩
    ·exact .inl ⟨d,by simp[hd],h1⟩
    ·rcases eU.1 hk with rfl|hk
     ·exact .inl ⟨⟨i,o,e⟩,by simp,h1⟩
     ·exact .inr ⟨k,hk,h1⟩
   have aie:HJ ops (⟨i,o,e⟩::pre):=.cons _ _ oY hh.top hh.op;cases e with
   |true=>obtain⟨Zr,hJ'⟩:=hJ.advance hh hs;exact ihs _ listed Zr σ R' W' a w hJ' aie hh.go pP aiO hun
   |false=>
    refine⟨λhr=>?_,λj hj=>?_⟩
    ·exfalso;by_cases IS:∃d∈pre,listed.getD d.i true=false
     ·exact oY.ready hJ.Cc IS hr
     ·have hl:listed.getD i true=false:=by
       cases hq:listed.getD i true with
       |false=>rfl
       |true=>obtain⟨d,hd,e⟩:=hJ.sub i hi hq;exact absurd e (hh.new d hd)
      have:i∈Region.ready .any ops listed:=rO.2 ⟨hl,o,hh.op,λed he hb=>by
       obtain⟨d2,h2,e2⟩:=hh.top ed he hb;have C0:listed.getD d2.i true=true:=by
        cases hq:listed.getD d2.i true with
        |true=>rfl
        |false=>exact absurd ⟨d2,h2,hq⟩ IS
       have hir:d2.i<listed.size:=by rw[hJ.Cc];exact(eS.1 (hJ.op d2 h2)).1
       rw[<-e2];simp only[AB]at C0|-;rw[jN hir]at C0|-;exact C0⟩;rw[hr]at this;cases this
    ·obtain⟨h1,oj,ho,h2⟩:=rO.1 hj;have mC:=(eS.1 ho).1;rcases OO j mC with⟨d,hd,e⟩|⟨k,hk,e⟩
     ·subst e;have Xk:=hJ.op d hd;rw[ho]at Xk;injection Xk with Xk;subst Xk;refine hJ.aqn hc mD hA hd h1 h2 λσ' a' w' hJ'=>?_
      refine ih ((i,re)::ks) pre _ bd σ' R W a' w' hJ' oY hgo ?_ OO (by have:=IP mC (by rw[hJ.Cc];exact mC) h1;omega);simp only[mJ,hh.op,hs,Sa,bi];exact pP
     ·rcases eU.1 hk with rfl|hk
      ·simp only at e;subst e;have Xk:=hh.op;rw[ho]at Xk;injection Xk with Xk;subst Xk;refine hJ.force hc mD hA hh hs Sa h2 λσ' a' w' hJ'=>?_
       exact ih ks _ _ bd σ' R' W' a' w' hJ' aie hh.go pP aiO (by have:=IP mC (by rw[hJ.Cc];exact mC) h1;omega)
      ·exfalso;rcases hh.last with h|h
       ·cases h
       ·obtain⟨ok,Qw,ed,hed,hb,yW⟩:=h k hk;rw[e,ho]at Qw;injection Qw with Qw;subst Qw;have h3:=Po (h2 ed hed hb);obtain⟨d,hd,e⟩:=hJ.sub ed.on (by rw[<-hJ.Cc];exact h3.2) h3.1;exact yW d hd e
def Ta{P:ah}(hm:P.follows .mixedOrders=true){ng:List Nat}{nt:Nat}{call:Callee}(hc:cl P ng call){id:Nat}{ops:Array am}{pl:List (Nat×List Nat)}
 (mD:ops.toList.all (oK nt ng)=true)(hp:Ox ops pl=true){σ:dx}{R Rf:ai.Fr}{W Wf:AW}{a:bw}{w:ar}(hW:bI σ W w.heap)(hG:BM σ ng)(hR:fy nt σ R a.tmps)
 (h:mJ P call ops pl R W=some (Rf,Wf)){ro:Option Nat}{Q:dr->bw->ar->Prop}
 (hQ:∀σ' a' w',fy nt σ' Rf a'.tmps->a'.defers=a.defers->bI σ' Wf w'.heap->fR σ W w σ' Wf w'->Q .normal a' w'):
 (Code.region id ops true).wpIn (FE ro) 0 P Q a w:=by
 refine wpIn_region_any hm ?_;unfold Ox at hp;simp only[bA,dd,pL]at hp;obtain⟨h1,h2⟩:=hp;have vL:∀i o,ops[i]? =some o->(aam ops.toList []).getD i 0=AA (aam ops.toList []) o/\∃k∈pl,k.1=i:=by intro i o ho;have:=h1 i (eS.1 ho).1;rw[ho]at this;simp only[bA,fo,xA]at this;exact this.1
 have Qw:∀(i:Nat) (o:am),ops[i]? =some o->oK nt ng o=true:=λi o ho=>dd.1 mD o (by have:=Array.mem_of_getElem? ho;simpa using this)
 have vS:∀i,i<ops.size->(Array.replicate ops.size false).getD i true=false:=λi hi=>by simp[hi]
 have OO:∀i,i<ops.size->(∃d∈([]:List JG),d.i=i)\/∃k∈pl,k.1=i:=λi hi=> .inr (vL i ops[i] (jN hi)).2
 refine ab6 (A:=aam ops.toList []) (W0:=W) (σ0:=σ) (w0:=w) (ds:=a.defers) hc Qw (λi o ho=>(vL i o ho).1) hQ ops.size pl [] _ (λ_=>none) σ R W a _ ?_ .nil h2 h OO ?_
 ·refine⟨hW,hG,.drawn _ _ _ _,hR.1,rfl,by simp,λt ht _=>hR.2 t ht,?_,?_,?_,?_,?_,?_,?_,?_⟩
  ·intro i hi hl;rw[vS i hi]at hl;cases hl
  ·intro d hd;cases hd
  ·intro d hd;cases hd
  ·intro d hd;cases hd
  ·intro i j hi hl;rw[vS i hi]at hl;cases hl
  ·intro d hd;cases hd
  ·intro d hd;cases hd
  ·intro d hd;cases hd
 ·unfold unl;have:=List.countP_le_length (p:=λi=> !(Array.replicate ops.size false).getD i true) (l:=List.range ops.size);simpa using this
end
end
end Go.Eng
