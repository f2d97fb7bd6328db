/- A part: the engine and its laws. -/
import Derived.RangeFuncLeaves
import Derived.OrdersIn
import Derived.KernelRfl
import Derived.Laws.Cells
import Derived.Laws.CopyRow
import Derived.ChangeKeysEq
import Derived.ArgAppend
import Derived.Laws.Append
import Derived.Lib.AppendStr
import Derived.Lib.UnsafeStr
import Derived.Laws.BytesArg
import Derived.LaidEqlPtr
import Derived.Laws.StructEq
set_option linter.unusedVariables false
set_option linter.unusedSimpArgs false
set_option linter.unusedSectionVars false
set_option linter.defProp false
noncomputable section
open Go renaming Act->ba,Addr->aW,Code->bG,Deferred->dM,Exit->dh,FuncId->hZ,IntKind->aV,MapEntry->bn,Obj->nv,Oper->ao,Operand->aq,Program->aj,TypeId->ai,Value->ae,World->au,undef->ag
namespace Go
def jr{p:Prop}[Decidable p](h:p:=by omega):decide p=true:=decide_eq_true h
def dS{p:Prop}[Decidable p](h:¬p:=by omega):decide p=false:=decide_eq_false h
def ou.{u}{c:Prop}{h:Decidable c}(q:c:=by omega){α:Sort u}{t e:α}:(ite c t e)=t:=if_pos q
def b8.{u}{c:Prop}{h:Decidable c}(q:¬c:=by omega){α:Sort u}{t e:α}:(ite c t e)=e:=if_neg q
abbrev Value.af(n:Int):ae:=.int .i64 n
abbrev Lit.af(n:Int):Lit:=.int .i64 n
def aS:=@decide_eq_true
def aI:=@Nat.zero_add
def aR:=@And.intro
def bq:=@decide_eq_false
def ay.{u}:=@if_neg.{u}
def ax.{u}:=@if_pos.{u}
def aA:=@trivial
def cL.{u}:=@List.getElem?_eq_getElem.{u}
def aJ.{u}:=@Eq.trans.{u}
def bK:=@Bool.and_eq_true
def bp.{u,v}:=@Option.bind_some.{u,v}
def aP:=@Nat.le_refl
def du.{u}:=@List.getElem?_eq_some_iff.{u}
def dW.{u}:=@Array.getElem?_eq_some_iff.{u}
def cK.{u}:=@List.length_append.{u}
def cF:=@Go.Result.andThen_ok
def bU:=@Go.run_underlying
def cM.{u}:=@List.all_eq_true.{u}
def cS.{u,v}:=@Option.map_some.{u,v}
def dd.{u}:=@List.take_length.{u}
def gb.{u}:=@List.getElem?_append_right.{u}
def cC:=@Nat.add_zero
def dE.{u}:=@List.length_cons.{u}
def dF.{u}:=@List.length_take.{u}
def cJ:=@Go.Sem.run_bind
def g9.{u}:=@Array.getElem?_eq_getElem.{u}
def iz.{u}:=@List.getD_eq_getElem?_getD.{u}
def bh.{u}:=@if_true.{u}
def dz.{u}:=@List.mem_cons.{u}
def ge.{u,v}:=@List.flatMap_append.{u,v}
def bR.{u}:=@if_false.{u}
def fM:=@Nat.lt_of_lt_of_le
def fb.{u}:=@List.getElem_mem.{u}
def ic.{u}:=@Array.toArray_toList.{u}
def gO:=@Bool.false_eq_true
def jR.{u}:=@List.length_eq_zero_iff.{u}
def bL.{u}:=@Ne.symm.{u}
def gJ.{u}:=@Option.some.injEq.{u}
def fa.{u}:=@List.all_cons.{u}
def iD.{u,v}:=@List.flatMap_cons.{u,v}
def gR.{u,v}:=@List.length_map.{u,v}
def cR.{u,v}:=@congrArg.{u,v}
def jh.{u,v}:=@List.getElem?_map.{u,v}
def mX.{u}:=@List.take_of_length_le.{u}
def ku:=@Go.Lib.strCells_length
def jQ.{u}:=@List.append_assoc.{u}
def jn.{u}:=@List.append_nil.{u}
def fP:=@Go.Sem.run_pure
def eM:=@Nat.beq_eq
def t7.{u}:=@List.eq_nil_of_length_eq_zero.{u}
def mb.{u}:=@List.getElem?_take.{u}
def rT.{u}:=@List.drop_eq_getElem_cons.{u}
def gQ:=@Nat.le_trans
def uo.{u}:=@Array.getD_eq_getD_getElem?.{u}
def iM:=@Bool.and_true
def kg.{u}:=@List.nil_append.{u}
def m9.{u}:=@List.mem_singleton.{u}
def tB.{u}:=@List.getElem?_append_left.{u}
def kp.{u}:=@List.length_set.{u}
def ky.{u}:=@List.mem_filter.{u}
def qw.{u}:=@List.mem_of_getElem?.{u}
def mM:=@decide_eq_true_eq
def kN.{u}:=@List.drop_zero.{u}
def kP:=@Bool.false_and
def jK:=@Bool.true_and
def jd.{u,v}:=@List.map_cons.{u,v}
def rK.{u}:=@List.getElem?_eq_none.{u}
def tL.{u}:=@Array.toList_eq_nil_iff.{u}
def oY:=@Int.toNat_natCast
def rJ:=@Nat.mul_le_mul_right
def uA.{u}:=@Array.getElem?_eq_none.{u}
def qs:=@Bool.true_eq_false
def mV:=@Bool.or_eq_true
def oG.{u}:=@List.length_nil.{u}
def mU.{u,v}:=@List.map_append.{u,v}
def qj.{u}:=@List.cons_append.{u}
def ss.{u}:=@Array.getElem?_push.{u}
def ug.{u}:=@Array.getElem?_toList.{u}
def sy.{u}:=@List.size_toArray.{u}
def Dm.{u}:=@Array.getElem?_setIfInBounds_ne.{u}
def nh:=@Nat.add_assoc
def oU.{u}:=@List.mem_append.{u}
def o8:=@Nat.min_eq_left
def ol:=@List.range_succ
def qv.{u}:=@Array.toList_inj.{u}
def sa.{u}:=@List.getElem?_set.{u}
def sq.{u}:=@List.take_add_one.{u}
def wK.{u}:=@List.take_append_drop.{u}
def zN.{u}:=@List.take_append_getElem.{u}
def qu:=@Bool.eq_iff_iff
def uk.{u}:=@List.getElem?_drop.{u}
def wv.{u}:=@List.getElem?_append.{u}
def DA.{u}:=@List.getElem?_cons_succ.{u}
def rZ.{u}:=@Option.getD_some.{u}
def jM:=@Nat.blt_eq
def tz:=@of_decide_eq_true
def tD:=@Bool.not_eq_true'
def mO.{u,v}:=@List.map_nil.{u,v}
def C8.{u}:=@Option.isNone_iff_eq_none.{u}
def z7.{u}:=@Array.getElem?_modify.{u}
def uN:=@Nat.eq_of_beq_eq_true
def vo.{u}:=@Classical.choose_spec.{u}
def sP.{u}:=@Option.toList_some.{u}
def mf.{u}:=@List.all_nil.{u}
def kq.{u,v}:=@List.mem_map.{u,v}
def px.{u}:=@List.take_zero.{u}
def nL.{u}:=@List.drop_drop.{u}
def rR.{u}:=@List.ext_getElem?.{u}
def xJ:=@Nat.add_sub_cancel_left
def xj.{u}:=@List.eraseIdx_cons_succ.{u}
def sR:=@List.length_range
def sk:=@Classical.not_not
def vr.{u}:=@List.length_pos_iff.{u}
def vk.{u}:=@List.getElem_of_mem.{u}
def mj:=@Int.add_zero
def ko:=@Nat.mul_one
def pW:=@List.mem_range
def BF:=@Int.tmod_eq_emod_of_nonneg
def yb.{u}:=@Array.getElem?_append.{u}
def ya.{u}:=@List.set_append_right.{u}
def He.{u}:=@List.set_eq_take_append_cons_drop.{u}
def rP:=@Nat.le_max_left
def my:=@Nat.mul_pos
def nK:=@Go.CallsIn.mono
def ve:=@not_true_eq_false
def pA.{u,v}:=@Prod.mk.injEq.{u,v}
def xH:=@Go.World.grownBy_alloc
def xL:=@Int.toNat_of_nonneg
def HJ.{u}:=@List.getElem?_cons_zero.{u}
def uL.{u}:=@List.any_eq_true.{u}
def vq:=@Nat.le_max_right
def B8:=@decide_eq_false_iff_not
def BG.{u}:=@List.pairwise_singleton.{u}
def pT:=@Nat.sub_self
def yu.{u}:=@Option.isSome_none.{u}
def mn.{u}:=@beq_iff_eq.{u}
def pX:=@Nat.beq_refl
def BE.{u}:=@List.set_cons_succ.{u}
def Ca.{u}:=@List.drop_of_length_le.{u}
def BQ:=@List.pairwise_lt_range
def yc:=@Int.emod_lt_of_pos
def HR.{u}:=@Array.getElem?_setIfInBounds.{u}
def uV:=@Bool.and_self
def xz.{u}:=@Array.isEmpty_iff.{u}
def G9.{u}:=@Array.toList_setIfInBounds.{u}
def uH.{u}:=@List.take_left.{u}
def uY.{u}:=@List.take_take.{u}
def Hp.{u}:=@List.extract_eq_take_drop.{u}
def HV.{u}:=@List.mem_of_find?_eq_some.{u}
def GM.{u}:=@List.take_succ_cons.{u}
def BT.{u}:=@List.toList_toArray.{u}
def B4:=@List.getElem?_range
def BI.{u}:=@List.dropWhile_cons.{u}
def BM.{u}:=@List.findIdx_append.{u}
def Hl.{u}:=@Option.isSome_iff_exists.{u}
def wU.{u}:=@Option.some.inj.{u}
def BH:=@Go.run_loadCells_list
def BW:=@Go.grownCap_le_maxLen
def GO.{u}:=@List.set_cons_zero.{u}
def BV.{u}:=@List.prefix_append.{u}
def B6.{u}:=@List.filter_append.{u}
def sz:=@Go.setRow_heap
def nF:=@Go.mem_ready
def B9:=@Go.run_storeCells_at
def vj:=@Nat.lt_or_ge
def nJ:=@and_self
def uI:=@Go.callsIn_wide
def xd.{u}:=@List.drop_take.{u}
def xS.{u}:=@List.drop_left.{u}
def uM:=@Bool.true_or
def vb:=@Bool.or_true
def BK.{u,v}:=@List.pairwise_map.{u,v}
def wY:=@Int.add_assoc
end Go
namespace Go.Eng
open Go
inductive T (α:Type) where
 |lf:T α
 |nd (l:T α) (v:Option α) (r:T α):T α
def Aq(wm:Nat):Nat->List Bool:=
 Nat.rec (motive:=λ_=>Nat->List Bool) (λ_=>[])
  (λ_ ih n=>Nat.rec (motive:=λ_=>List Bool) [] (λm _=>(Nat.beq (Nat.mod m 2) 0)::ih (Nat.div m 2)) n) wm
def path(n:Nat):List Bool:=Aq n n
def T.get{α:Type}(p:List Bool):T α->Option α:=
 List.rec (motive:=λ_=>T α->Option α) (λt=>T.rec (motive:=λ_=>Option α) none (λ_ v _ _ _=>v) t)
  (λb _ ih t=>T.rec (motive:=λ_=>Option α) none (λl _ r _ _=>Bool.rec (motive:=λ_=>Option α) (ih r) (ih l) b) t) p
def T.set{α:Type}(x:Option α)(p:List Bool):T α->T α:=
 List.rec (motive:=λ_=>T α->T α) (λt=>T.rec (motive:=λ_=>T α) (.nd .lf x .lf) (λl _ r _ _=>.nd l x r) t)
  (λb _ ih t=>T.rec (motive:=λ_=>T α) (Bool.rec (motive:=λ_=>T α) (.nd .lf none (ih .lf)) (.nd (ih .lf) none .lf) b)
    (λl v r _ _=>Bool.rec (motive:=λ_=>T α) (.nd l v (ih r)) (.nd (ih l) v r) b) t) p
def Ri:∀(f g n m:Nat),n<=f->m<=g->Aq f n=Aq g m->n=m:=by
 intro f;induction f with
 |zero=>
  intro g n m hn hm h;have Oz:n=0:=by omega
  subst Oz;cases m with
  |zero=>rfl
  |succ m=>
   cases g with
   |zero=>omega
   |succ g=>exact absurd h (by simp[Aq])
 |succ f ih=>
  intro g n m hn hm h;cases n with
  |zero=>
   cases m with
   |zero=>rfl
   |succ m=>
    cases g with
    |zero=>omega
    |succ g=>exact absurd h (by simp[Aq])
  |succ n=>
   cases m with
   |zero=>cases g<;>exact absurd h (by simp[Aq])
   |succ m=>
    cases g with
    |zero=>omega
    |succ g=>
     have h':(Nat.beq (Nat.mod n 2) 0)::Aq f (Nat.div n 2)=(Nat.beq (Nat.mod m 2) 0)::Aq g (Nat.div m 2):=h;injection h' with h1 h2;have e1:Nat.div n 2=n/2:=rfl;have e2:Nat.div m 2=m/2:=rfl;have e3:Nat.mod n 2=n % 2:=rfl;have e4:Nat.mod m 2=m % 2:=rfl;have h3:=ih g (n/2) (m/2) (by omega) (by omega) (by rw[<-e1,<-e2];exact h2);rw[e3,e4]at h1;have h4:(n % 2=0)<->(m % 2=0):=by rw[<-eM,<-eM,h1]
     omega
def TH{n m:Nat}(h:path n=path m):n=m:=Ri _ _ _ _ (aP _) (aP _) h
def vi{n m:Nat}(h:n≠m):path n≠path m:=λe=>h (TH e)
def T.kn{α:Type}(x:Option α):∀(p:List Bool) (t:T α),T.get p (T.set x p t)=x:=by
 intro p;induction p with
 |nil=>intro t;cases t<;>rfl
 |cons b p ih=>intro t;cases t<;>cases b<;>exact ih _
def T.zc{α:Type}(p:List Bool):T.get p (.lf:T α)=none:=by cases p<;>rfl
def T.gi{α:Type}(x:Option α):∀(p q:List Bool) (t:T α),p≠q->T.get q (T.set x p t)=T.get q t:=by
 intro p;induction p with
 |nil=>
  intro q t h;cases q with
  |nil=>exact absurd rfl h
  |cons b q=>cases t<;>cases b<;>first|rfl|exact(T.zc q)
 |cons b p ih=>
  intro q t h;cases q with
  |nil=>cases t<;>cases b<;>rfl
  |cons c q=>
   have ht:b=c->p≠q:=λe1 e2=>h (by rw[e1,e2])
   cases t<;>cases b<;>cases c<;>
    first
     |rfl
     |exact T.zc q
     |exact(ih q .lf (ht rfl)).trans (T.zc q)
     |exact ih q _ (ht rfl)
def T.set_set{α:Type}(x y:Option α):∀(p:List Bool) (t:T α),T.set y p (T.set x p t)=T.set y p t:=by
 intro p;induction p with
 |nil=>intro t;cases t<;>rfl
 |cons b p ih=>
  intro t;cases t with
  |lf=>
   cases b
   ·exact cR (T.nd .lf none) (ih .lf)
   ·exact cR (λl=>T.nd l none .lf) (ih .lf)
  |nd l v r=>
   cases b
   ·exact cR (T.nd l v) (ih r)
   ·exact cR (λl=>T.nd l v r) (ih l)
class ak where
 D:Nat->Array ao->Option (List (Nat×List Nat))
 ng:List Nat
 ex:ai->Bool
 Fr:Type
 MO:Fr->Nat->ae
 Vl:Fr->Nat->ae->Fr
 blank:Fr
 kn:∀R t v,MO (Vl R t v) t=v
 gi:∀R t u v,t≠u->MO (Vl R t v) u=MO R u
 zB:∀t,MO blank t=ag
def Xn{α:Type}(l:List α):Nat->Option α:=
 List.rec (motive:=λ_=>Nat->Option α) (λ_=>none) (λv _ ih n=>Nat.rec (motive:=λ_=>Option α) (some v) (λm _=>ih m) n) l
def G0{α:Type}(l:List α):∀n,Xn l n=l[n]? :=by
 induction l with
 |nil=>intro n;rfl
 |cons v l ih=>intro n;cases n with|zero=>rfl|succ n=>exact(ih n).trans (by simp)
section
variable [ak]
inductive eF where
 |cells (cs:List ae)
 |ro (cs:List ae)
 |map (es:List bn) (j5:Nat)
 |loop (state:LoopState) (pending:Option bG) (tmps:ak.Fr) (ntmps:Nat) (params:Array Tmp) (assign body:bG)
 |mF (s:ByteArray) (pos:Nat)
 |tc (t:ai) (cs:List ae)
structure AW where
 heap:T eF
 next:Nat
def AW.get(W:AW)(b:Nat):Option eF:=T.get (path b) W.heap
def AW.put(W:AW)(b:Nat)(o:eF):AW:=⟨T.set (some o) (path b) W.heap,W.next⟩
def AW.kill(W:AW)(b:Nat):AW:=⟨T.set none (path b) W.heap,W.next⟩
def AW.new{X:Type}(W:AW)(o:eF)(k:Nat->AW->X):X:=
 AW.rec (motive:=λ_=>X) (λh n=>Nat.rec (motive:=λ_=>X) (k 0 ⟨T.set (some o) (path 0) h,1⟩)
  (λm _=>k (Nat.succ m) ⟨T.set (some o) (path (Nat.succ m)) h,Nat.succ (Nat.succ m)⟩) n) W
def AW.add(W:AW)(o:eF):AW:=⟨T.set (some o) (path W.next) W.heap,W.next+1⟩
def AW.dG{X:Type}(W:AW)(o:eF)(k:Nat->AW->X):W.new o k=k W.next (W.add o):=by obtain⟨h,n⟩:=W;cases n<;>rfl
def AW.bz(W:AW)(b:Nat)(o:eF):(W.put b o).get b=some o:=T.kn _ _ _
def AW.aE(W:AW){b c:Nat}(o:eF)(h:b≠c):(W.put b o).get c=W.get c:=T.gi _ _ _ _ (vi h)
def AW.xD(W:AW)(b:Nat):(W.kill b).get b=none:=T.kn _ _ _
def AW.eD(W:AW){b c:Nat}(h:b≠c):(W.kill b).get c=W.get c:=T.gi _ _ _ _ (vi h)
def AW.aT(W:AW)(o:eF):(W.add o).get W.next=some o:=T.kn _ _ _
def AW.br(W:AW){c:Nat}(o:eF)(h:W.next≠c):(W.add o).get c=W.get c:=T.gi _ _ _ _ (vi h)
def AW.cT(W:AW)(b:Nat)(o:eF):(W.put b o).next=W.next:=rfl
def AW.eK(W:AW)(b:Nat):(W.kill b).next=W.next:=rfl
def AW.aG(W:AW)(o:eF):(W.add o).next=W.next+1:=rfl
end
structure tu where
 B:Nat
 s:Nat
 e:Nat
abbrev dj:=Nat->Option tu
def gU:Nat:=18446744073709551616
inductive Hs (g:tu) (off l:Nat):Nat->Nat->Prop where
 |known (c:Nat) (h:c<gU):Hs g off l c c
 |open_ (z c':Nat) (hz:0<z) (hl:l<=c') (h:g.s+off+c'*z=g.e) (hb:c'<=maxLen):Hs g off l (gU+z) c'
inductive VU (σ:dj):Fn->Fn->Prop where
 |func (f:hZ):VU σ (.func f) (.func f)
 |yield (l:Nat) (g:tu) (h:σ l=some g):VU σ (.yield l) (.yield g.B)
inductive VR (σ:dj):ae->ae->Prop where
 |bool (b:Bool):VR σ (.bool b) (.bool b)
 |int (k:aV) (n:Int):VR σ (.int k n) (.int k n)
 |float (k:FloatKind) (n:Nat):VR σ (.float k n) (.float k n)
 |string (s:ByteArray):VR σ (.string s) (.string s)
 |JC:VR σ (.pointer none) (.pointer none)
 |ptr (a:aW) (g:tu) (h:σ a.block=some g) (hs:a.spot=none):VR σ (.pointer (some a)) (.pointer (some ⟨g.B,g.s+a.off,none⟩))
 |DE (l c:Nat):VR σ (.slice none l c) (.slice none l c)
 |slice (a:aW) (l c c':Nat) (g:tu) (h:σ a.block=some g) (hs:a.spot=none) (hc:Hs g a.off l c c'):
   VR σ (.slice (some a) l c) (.slice (some ⟨g.B,g.s+a.off,none⟩) l c')
 |dH (a a':aW) (c:Nat) (g:tu) (h:σ a.block=some g) (hc:c=0\/gU<c):VR σ (.slice (some a) 0 c) (.slice (some a') 0 0)
 |LY:VR σ (.map none) (.map none)
 |map (r:Nat) (g:tu) (h:σ r=some g):VR σ (.map (some r)) (.map (some g.B))
 |nilFunc:VR σ .nilFunc .nilFunc
 |func (fn Fa:Fn) (fs tW cs cP:Array ae) (hf:VU σ fn Fa) (h1:fs.size=tW.size) (h2:∀(i:Nat) (v v':ae),fs[i]? =some v->tW[i]? =some v'->VR σ v v')
   (h3:cs.size=cP.size) (h4:∀(i:Nat) (v v':ae),cs[i]? =some v->cP[i]? =some v'->VR σ v v'):VR σ (.func fn fs cs) (.func Fa tW cP)
 |nilIface:VR σ .nilIface .nilIface
 |iface (t:ai) (v v':ae) (h:VR σ v v'):VR σ (.iface t v) (.iface t v')
 |agg (cs cP:Array ae) (h1:cs.size=cP.size) (h2:∀(i:Nat) (v v':ae),cs[i]? =some v->cP[i]? =some v'->VR σ v v'):VR σ (.agg cs) (.agg cP)
 |tuple (cs cP:Array ae) (h1:cs.size=cP.size) (h2:∀(i:Nat) (v v':ae),cs[i]? =some v->cP[i]? =some v'->VR σ v v'):VR σ (.tuple cs) (.tuple cP)
def Sub(σ σ':dj):Prop:=∀b g,σ b=some g->σ' b=some g
def Sub.refl(σ:dj):Sub σ σ:=λ_ _ h=>h
def Sub.trans{σ σ' G2:dj}(h:Sub σ σ')(k:Sub σ' G2):Sub σ G2:=λb g x=>k b g (h b g x)
def VU.mono{σ σ':dj}(hs:Sub σ σ'){f f':Fn}(h:VU σ f f'):VU σ' f f':=by
 cases h with
 |func f=>exact .func f
 |yield l g h=>exact .yield l g (hs _ _ h)
def VR.mono{σ σ':dj}(hs:Sub σ σ'){v v':ae}(h:VR σ v v'):VR σ' v v':=by
 induction h with
 |bool b=>exact .bool b
 |int k n=>exact .int k n
 |float k n=>exact .float k n
 |string s=>exact .string s
 |JC=>exact .JC
 |ptr a g h pf=>exact .ptr a g (hs _ _ h) pf
 |DE l c=>exact .DE l c
 |slice a l c c' g h pf hc=>exact .slice a l c c' g (hs _ _ h) pf hc
 |dH a a' c g h hc=>exact .dH a a' c g (hs _ _ h) hc
 |LY=>exact .LY
 |map r g h=>exact .map r g (hs _ _ h)
 |nilFunc=>exact .nilFunc
 |func fn Fa fs tW cs cP hf h1 _ h3 _ ih1 ih2=>exact .func fn Fa fs tW cs cP (hf.mono hs) h1 ih1 h3 ih2
 |nilIface=>exact .nilIface
 |iface t v v' _ ih=>exact .iface t v v' ih
 |agg cs cP h1 _ ih=>exact .agg cs cP h1 ih
 |tuple cs cP h1 _ ih=>exact .tuple cs cP h1 ih
def LR(σ:dj)(l l':List ae):Prop:=l.length=l'.length/\∀(i:Nat) (v v':ae),l[i]? =some v->l'[i]? =some v'->VR σ v v'
def LR.mono{σ σ':dj}(hs:Sub σ σ'){l l':List ae}(h:LR σ l l'):LR σ' l l':=⟨h.1,λi v v' a b=>(h.2 i v v' a b).mono hs⟩
def LR.nil{σ:dj}:LR σ [] []:=⟨rfl,λi v v' a=>by simp at a⟩
def LR.cons{σ:dj}{v v':ae}{l l':List ae}(h:VR σ v v')(hl:LR σ l l'):LR σ (v::l) (v'::l'):=by
 refine⟨by simp[hl.1],λi u u' a b=>?_⟩;cases i with
 |zero=>simp at a b;subst a;subst b;exact h
 |succ i=>simp at a b;exact hl.2 i u u' a b
def LR.of_cons{σ:dj}{v:ae}{l m:List ae}(h:LR σ (v::l) m):∃v' l',m=v'::l'/\VR σ v v'/\LR σ l l':=by
 cases m with
 |nil=>have:=h.1;simp at this
 |cons v' l'=>refine⟨v',l',rfl,h.2 0 v v' (by simp) (by simp),by have:=h.1;simpa using this,λi u u' a b=>h.2 (i+1) u u' (by simpa using a) (by simpa using b)⟩
def LR.of_nil{σ:dj}{m:List ae}(h:LR σ [] m):m=[]:=by have:=h.1;simp at this;exact t7 this.symm
def LR.append{σ:dj}{l l' m m':List ae}(h:LR σ l l')(k:LR σ m m'):LR σ (l++m) (l'++m'):=by
 induction l generalizing l' with
 |nil=>have:=h.of_nil;subst this;exact k
 |cons v l ih=>obtain⟨v',XS,rfl,hv,hl⟩:=h.of_cons;exact(ih hl).cons hv
def LR.take{σ:dj}{l l':List ae}(h:LR σ l l')(n:Nat):LR σ (l.take n) (l'.take n):=by
 refine⟨by simp[h.1],λi v v' a b=>?_⟩;rw[mb]at a b;split at a
 ·rename_i hi;rw[ax hi]at b;exact h.2 i v v' a b
 ·cases a
def LR.drop{σ:dj}{l l':List ae}(h:LR σ l l')(n:Nat):LR σ (l.drop n) (l'.drop n):=by refine⟨by simp[h.1],λi v v' a b=>?_⟩;rw[uk]at a b;exact h.2 _ v v' a b
def LR.get{σ:dj}{l l':List ae}(h:LR σ l l'){i:Nat}{v:ae}(hv:l[i]? =some v):∃v',l'[i]? =some v'/\VR σ v v':=by
 have hi:i<l.length:=(du.1 hv).1;have qC:i<l'.length:=by rw[<-h.1];exact hi
 exact⟨l'[i],cL qC,h.2 i v _ hv (cL qC)⟩
def LR.set{σ:dj}{l l':List ae}(h:LR σ l l')(n:Nat){x x':ae}(hx:VR σ x x'):LR σ (l.set n x) (l'.set n x'):=by
 refine⟨by simp[h.1],λi v v' a b=>?_⟩;rw[sa]at a b;by_cases hn:n=i
 ·subst hn;simp only[bh]at a b;split at a
  ·split at b
   ·simp at a b;subst a;subst b;exact hx
   ·cases b
  ·cases a
 ·rw[ay hn]at a b;exact h.2 i v v' a b
def LR.v8{σ:dj}{a a':Array ae}(h1:a.size=a'.size)(h2:∀(i:Nat) (v v':ae),a[i]? =some v->a'[i]? =some v'->VR σ v v'):LR σ a.toList a'.toList:=
 ⟨by simpa using h1,λi v v' x y=>h2 i v v' (by simpa using x) (by simpa using y)⟩
def LR.arr{σ:dj}{a a':Array ae}(h:LR σ a.toList a'.toList):a.size=a'.size/\∀(i:Nat) (v v':ae),a[i]? =some v->a'[i]? =some v'->VR σ v v':=
 ⟨by simpa using h.1,λi v v' x y=>h.2 i v v' (by simpa using x) (by simpa using y)⟩
def VR.Ny{σ:dj}{a a':Array ae}(h:LR σ a.toList a'.toList):VR σ (.agg a) (.agg a'):=.agg _ _ h.arr.1 h.arr.2
def VR.tuple'{σ:dj}{a a':Array ae}(h:LR σ a.toList a'.toList):VR σ (.tuple a) (.tuple a'):=.tuple _ _ h.arr.1 h.arr.2
def VR.cells{σ:dj}{v v':ae}(h:VR σ v v'):LR σ v.cells.toList v'.cells.toList:=by
 cases h with
 |agg cs cP h1 h2=>exact .v8 h1 h2
 |bool b=>exact .cons (.bool b) .nil
 |int k n=>exact .cons (.int k n) .nil
 |float k n=>exact .cons (.float k n) .nil
 |string s=>exact .cons (.string s) .nil
 |JC=>exact .cons .JC .nil
 |ptr a g h hs=>exact .cons (.ptr a g h hs) .nil
 |DE l c=>exact .cons (.DE l c) .nil
 |slice a l c c' g h hs hc=>exact .cons (.slice a l c c' g h hs hc) .nil
 |dH a a' c g h hc=>exact .cons (.dH a a' c g h hc) .nil
 |LY=>exact .cons .LY .nil
 |map r g h=>exact .cons (.map r g h) .nil
 |nilFunc=>exact .cons .nilFunc .nil
 |func fn Fa fs tW cs cP hf h1 h2 h3 h4=>exact .cons (.func fn Fa fs tW cs cP hf h1 h2 h3 h4) .nil
 |nilIface=>exact .cons .nilIface .nil
 |iface t v v' h=>exact .cons (.iface t v v' h) .nil
 |tuple cs cP h1 h2=>exact .cons (.tuple cs cP h1 h2) .nil
def VR.undef{σ:dj}:VR σ ag ag:=VR.tuple' (a:=#[]) (a':=#[]) .nil
def cG:ae->Bool
 |.bool _|.int .. |.string _|.pointer none|.slice none _ _|.map none|.nilFunc|.nilIface|.float .. =>true
 |_=>false
def eI:ae->Bool
 |.agg cs=>cs.toList.all cG
 |v=>cG v
def bC:ae->Bool
 |.tuple vs=>vs.toList.all eI
 |.iface _ v=>eI v
 |v=>eI v
def FP{σ:dj}{v v':ae}(hp:cG v=true)(h:VR σ v v'):v'=v:=by cases h<;>first|rfl|simp[cG]at hp
def eS{σ:dj}{v:ae}(hp:cG v=true):VR σ v v:=by
 cases v with
 |bool b=>exact .bool b
 |int k n=>exact .int k n
 |float k n=>exact .float k n
 |string s=>exact .string s
 |pointer a=>cases a with|none=>exact .JC|some a=>simp[cG]at hp
 |slice a l c=>cases a with|none=>exact .DE l c|some a=>simp[cG]at hp
 |map r=>cases r with|none=>exact .LY|some a=>simp[cG]at hp
 |nilFunc=>exact .nilFunc
 |nilIface=>exact .nilIface
 |_=>simp[cG]at hp
def LR.Tc{σ:dj}{p:ae->Bool}(hp:∀v v',p v=true->VR σ v v'->v'=v):∀{l l':List ae},l.all p=true->LR σ l l'->l'=l:=by
 intro l;induction l with
 |nil=>intro l' _ h;exact h.of_nil
 |cons v l ih=>intro l' ha h;obtain⟨v',XS,rfl,hv,hl⟩:=h.of_cons;simp only[fa,bK]at ha;rw[hp v v' ha.1 hv,ih ha.2 hl]
def LR.mz{σ:dj}{p:ae->Bool}(hp:∀v,p v=true->VR σ v v):∀{l:List ae},l.all p=true->LR σ l l:=by
 intro l;induction l with
 |nil=>intro _;exact .nil
 |cons v l ih=>intro ha;simp only[fa,bK]at ha;exact(ih ha.2).cons (hp v ha.1)
def zS{σ:dj}{v v':ae}(hp:eI v=true)(h:VR σ v v'):v'=v:=by
 cases h with
 |agg cs cP h1 h2=>have:=LR.Tc (λv v'=>FP) (show cs.toList.all cG=true from hp) (LR.v8 h1 h2);rw[qv.1 this]
 |_=>first|rfl|simp[eI,cG]at hp
def tw{σ:dj}{v:ae}(hp:eI v=true):VR σ v v:=by
 cases v with
 |agg cs=>exact VR.Ny (LR.mz (λv=>eS) (show cs.toList.all cG=true from hp))
 |_=>exact eS hp
def fC{σ:dj}{v v':ae}(hp:bC v=true)(h:VR σ v v'):v'=v:=by
 cases h with
 |tuple cs cP h1 h2=>have:=LR.Tc (λv v'=>zS) (show cs.toList.all eI=true from hp) (LR.v8 h1 h2);rw[qv.1 this]
 |iface t v v' h=>rw[zS hp h]
 |agg cs cP h1 h2=>exact zS (v:=.agg cs) hp (.agg cs cP h1 h2)
 |_=>first|rfl|simp[bC,eI,cG]at hp
def iO{σ:dj}{v:ae}(hp:bC v=true):VR σ v v:=by
 cases v with
 |tuple cs=>exact VR.tuple' (LR.mz (λv=>tw) (show cs.toList.all eI=true from hp))
 |iface t v=>exact .iface t v v (tw hp)
 |_=>exact tw hp
def Jh(i:Nat):List Nat->Bool
 |[]=>false
 |x::l=>Nat.beq x i||Jh i l
def sn{i:Nat}{l:List Nat}:Jh i l=true<->i∈l:=by
 induction l with
 |nil=>simp[Jh]
 |cons x l ih=>simp only[Jh,mV,eM,ih,dz];exact⟨λh=>h.imp Eq.symm id,λh=>h.imp Eq.symm id⟩
def nN(nt:Nat)(ng:List Nat):aq->Bool
 |.tmp t=>Nat.blt t nt
 |.const v=>bC v
 |.global g=>Jh g ng
 |.func _=>true
def vH(σ:dj)(ng:List Nat):Prop:=∀g,g∈ng->∃e,σ g=some ⟨g,0,e⟩
def vH.mono{σ σ':dj}{ng:List Nat}(hs:Sub σ σ')(h:vH σ ng):vH σ' ng:=λg hg=>let⟨e,he⟩:=h g hg;⟨e,hs _ _ he⟩
def kL(nt:Nat)(ng:List Nat)(o:ao):Bool:=o.op.operands.toList.all (nN nt ng)&&(match o.dst with|some d=>Nat.blt d nt|none=>true)
def ig(o:ao):Nat:=
 match o.op with
 |.move _|.assign _|.pick .. |.build .. |.nilCheck _|.unOp .. |.makeInterface .. |.slice .. |.fieldAddr .. |.field .. |.indexAddr .. |.index .. |.extract .. |.typeAssert .. =>0
 |.makeFunc (.func _) _ _=>0
 |.binOp op _ _ _ _=>match op with|.eql|.neq=>1|_=>0
 |.load .. |.lookup .. |.convert .. =>1
 |.call c=>match c.callee with|.builtin .len=>1|_=>3
 |.alloc _|.box .. |.buildSlice .. |.makeSlice .. =>2
 |_=>3
def WC(o:Option ao):Nat:=match o with
 |some o=>(match o.dst with|some d=>d|none=>0)
 |none=>0
def Hq(id:Nat)(ops:Array ao):Nat:=(id*128+ops.size)*4096+(WC ops[0]? +3*WC ops[ops.size-1]? +7*WC ops[ops.size/2]?)
def tJ(A:List Nat)(o:ao):Nat:=o.after.toList.foldr (λe m=>if Region.binds .any e then Nat.lor (Nat.lor (2^ e.on) (A.getD e.on 0)) m else m) 0
def Vw:List ao->List Nat->List Nat
 |[],A=>A
 |o::os,A=>Vw os (A++[tJ A o])
def JL(d:Option Tmp)(l:List Tmp):Bool:=match d with|some d=>Jh d l|none=>false
def jA(ops:Array ao)(o:ao):List Tmp:=o.dst.toList++o.looksAt ops
structure DP where
 i:Nat
 o:ao
 early:Bool
def yP(ops:Array ao)(A:List Nat):List DP->List (Nat×List Nat)->Bool
 |_,[]=>true
 |pre,(i,re)::iZ=>
  match ops[i]? with
  |none=>false
  |some o=>
   let e:=Nat.blt (ig o) 3&& !JL o.dst (o.looksAt ops)&&pre.all λd=> !JL o.dst (jA ops d.o)
   pre.all (λd=> !Nat.beq d.i i)&&
   o.after.toList.all (λe=> !Region.binds .any e||pre.any λd=>Nat.beq d.i e.on)&&
   pre.all (λd=> !d.early||(Nat.testBit (A.getD i 0) d.i||(!JL d.o.dst (o.looksAt ops)&&(e||(!JL o.dst (jA ops d.o)&&(Nat.beq (ig d.o) 0||Nat.beq (ig d.o) 2||Jh d.i re))))))&&
   (e||iZ.all λk=>match ops[k.1]? with
     |some ok=>ok.after.toList.any λe=>Region.binds .any e&&pre.all λd=> !Nat.beq d.i e.on
     |none=>false)&&
   yP ops A (⟨i,o,e⟩::pre) iZ
def Tz(ops:Array ao):Option (List (Nat×List Nat))->List (Nat×List Nat)
 |some pl=>pl
 |none=>(List.range ops.size).map λi=>(i,[])
def Hh(ops:Array ao)(pl:List (Nat×List Nat)):Bool:=
 let A:=Vw ops.toList []
 (List.range ops.size).all (λi=>match ops[i]? with
  |some o=>Nat.beq (A.getD i 0) (tJ A o)&&pl.any (λx=>Nat.beq x.1 i)&&(match o.op with|.select .. =>false|_=>true)
  |none=>false)&&
 yP ops A [] pl
def iC[ak](nt:Nat)(ng:List Nat):bG->Bool
 |.region id ops zL=>ops.toList.all (kL nt ng)&&(!zL||Hh ops (Tz ops (ak.D id ops)))
 |.seq a b=>iC nt ng a&&iC nt ng b
 |.cond c a b=>nN nt ng c&&iC nt ng a&&iC nt ng b
 |.block _ b=>iC nt ng b
 |.loop b=>iC nt ng b
 |.scope b=>iC nt ng b
 |.rangeFunc f ps asC bd=>nN nt ng f&&ps.toList.all (λt=>Nat.blt t nt)&&iC nt ng asC&&iC nt ng bd
 |_=>true
def JI[ak](σ:dj)(nt:Nat)(c:bG):Prop:=vH σ ak.ng/\iC nt ak.ng c=true
def JI.mono[ak]{σ σ':dj}{nt:Nat}{c:bG}(hs:Sub σ σ')(h:JI σ nt c):JI σ' nt c:=⟨h.1.mono hs,h.2⟩
section
variable [ak]
def dg(R:ak.Fr)(t:Nat):ae:=ak.MO R t
def I9(R:ak.Fr)(t:Nat)(v:ae):ak.Fr:=ak.Vl R t v
def eP(R:ak.Fr)(d:Option Tmp)(v:ae):ak.Fr:=match d with|some t=>I9 R t v|none=>R
def uU(R:ak.Fr)(t:Nat)(v:ae):dg (I9 R t v) t=v:=ak.kn R t v
def sC(R:ak.Fr){t u:Nat}(v:ae)(h:t≠u):dg (I9 R t v) u=dg R u:=ak.gi R t u v h
def eG(nt:Nat)(σ:dj)(R:ak.Fr)(tmps:Array ae):Prop:=tmps.size=nt/\∀t,t<nt->VR σ (dg R t) (tmps.getD t ag)
def eG.mono{nt:Nat}{σ σ':dj}(hs:Sub σ σ'){R:ak.Fr}{tmps:Array ae}(h:eG nt σ R tmps):eG nt σ' R tmps:=
 ⟨h.1,λt ht=>(h.2 t ht).mono hs⟩
def eG.set{nt:Nat}{σ:dj}{R:ak.Fr}{tmps:Array ae}(h:eG nt σ R tmps)(d:Nat){v v':ae}(hv:VR σ v v'):
 eG nt σ (I9 R d v) (tmps.setIfInBounds d v'):=by
 refine⟨by simp[h.1],λt ht=>?_⟩;by_cases hd:d=t
 ·subst hd;rw[uU];have:d<tmps.size:=by rw[h.1];exact ht
  simpa[HR,this]using hv
 ·rw[sC _ _ hd];have:=h.2 t ht;simpa[Dm hd]using this
def eG.put{nt:Nat}{σ:dj}{R:ak.Fr}{a:ba}(h:eG nt σ R a.tmps)(d:Option Tmp){v v':ae}(hv:VR σ v v'):
 eG nt σ (eP R d v) (a.put d v').tmps:=by
 cases d with
 |none=>exact h
 |some d=>exact h.set d hv
@[simp] theorem oy (a:ba) (d:Option Tmp) (v:ae):(a.put d v).defers=a.defers:=by cases d<;>rfl
def ER(σ:dj)(es gj:List bn):Prop:=
 es.length=gj.length/\∀(i:Nat) (e e':bn),es[i]? =some e->gj[i]? =some e'->VR σ e.key e'.key/\VR σ e.val e'.val/\e.born=e'.born
def ER.mono{σ σ':dj}(hs:Sub σ σ'){es gj:List bn}(h:ER σ es gj):ER σ' es gj:=
 ⟨h.1,λi e e' a b=>let⟨x,y,z⟩:=h.2 i e e' a b;⟨x.mono hs,y.mono hs,z⟩⟩
def lO(σ:dj)(h:Array nv)(g:tu):eF->Prop
 |.cells cs=>∃c t fr,h[g.B]? =some (.cells c t fr)/\(g.s<g.e->fr=(0,0))/\g.s+cs.length<=g.e/\g.e<=c.size/\
  ∀(i:Nat) (v:ae),cs[i]? =some v->∃v',c[g.s+i]? =some v'/\VR σ v v'
 |.ro cs=>∃c t fr,h[g.B]? =some (.cells c t fr)/\g.s+cs.length<=g.e/\
  ∀(i:Nat) (v:ae),cs[i]? =some v->∃v',c[g.s+i]? =some v'/\VR σ v v'
 |.map es j5=>g.s=0/\g.e=1/\∃gj:Array bn,h[g.B]? =some (.map gj j5)/\ER σ es gj.toList
 |.loop st mJ R nt ps asC bd=>g.s=0/\g.e=1/\∃r:Loop,h[g.B]? =some (.loop r)/\r.state=st/\r.pending=mJ/\eG nt σ R r.tmps/\r.params=ps/\r.assign=asC/\r.body=bd/\JI σ nt asC/\JI σ nt bd/\ps.toList.all (λt=>Nat.blt t nt)=true
 |.mF s pos=>g.s=0/\g.e=1/\h[g.B]? =some (.stringIter s pos)
 |.tc t cs=>g.s=0/\0<g.e/\(g.e<=maxLen/\(ak.ex t=true->cs.length=g.e))/\∃c,h[g.B]? =some (.cells c t (0,0))/\cs.length<=g.e/\g.e=c.size/\
  ∀(i:Nat) (v:ae),cs[i]? =some v->∃v',c[i]? =some v'/\VR σ v v'
def lO.mono{σ σ':dj}(hs:Sub σ σ'){h:Array nv}{g:tu}{o:eF}(k:lO σ h g o):lO σ' h g o:=by
 cases o with
 |cells cs=>obtain⟨c,t,fr,h1,h0,h2,h3,h4⟩:=k;exact⟨c,t,fr,h1,h0,h2,h3,λi v hv=>let⟨v',a,b⟩:=h4 i v hv;⟨v',a,b.mono hs⟩⟩
 |ro cs=>obtain⟨c,t,fr,h1,h2,h4⟩:=k;exact⟨c,t,fr,h1,h2,λi v hv=>let⟨v',a,b⟩:=h4 i v hv;⟨v',a,b.mono hs⟩⟩
 |map es j5=>obtain⟨a,b,gj,h1,h2⟩:=k;exact⟨a,b,gj,h1,h2.mono hs⟩
 |loop st mJ R nt ps asC bd=>obtain⟨a,b,r,h1,h2,h3,h4,h5,h6,h7,h8,h9,yL⟩:=k;exact⟨a,b,r,h1,h2,h3,h4.mono hs,h5,h6,h7,h8.mono hs,h9.mono hs,yL⟩
 |mF s pos=>exact k
 |tc t cs=>obtain⟨a1,a2,a3,c,h1,h2,h3,h4⟩:=k;exact⟨a1,a2,a3,c,h1,h2,h3,λi v hv=>let⟨v',a,b⟩:=h4 i v hv;⟨v',a,b.mono hs⟩⟩
def lO.same{σ:dj}{h h':Array nv}{g:tu}{o:eF}(k:lO σ h g o)(e:h'[g.B]? =h[g.B]?):lO σ h' g o:=by
 cases o with
 |cells cs=>obtain⟨c,t,fr,h1,h2⟩:=k;exact⟨c,t,fr,e.trans h1,h2⟩
 |ro cs=>obtain⟨c,t,fr,h1,h2⟩:=k;exact⟨c,t,fr,e.trans h1,h2⟩
 |map es j5=>obtain⟨a,b,gj,h1,h2⟩:=k;exact⟨a,b,gj,e.trans h1,h2⟩
 |loop st mJ R nt ps asC bd=>obtain⟨a,b,r,h1,h2⟩:=k;exact⟨a,b,r,e.trans h1,h2⟩
 |mF s pos=>obtain⟨a,b,h1⟩:=k;exact⟨a,b,e.trans h1⟩
 |tc t cs=>obtain⟨a1,a2,a3,c,h1,h2⟩:=k;exact⟨a1,a2,a3,c,e.trans h1,h2⟩
def Sw:eF->Bool
 |.ro _=>false
 |_=>true
def Ge{o:eF}(h:∀cs,o≠ .ro cs):Sw o=true:=by cases o<;>first|rfl|exact absurd rfl (h _)
def rwL{o o2:eF}(h:∀cs,o≠ .ro cs):(Sw o||Sw o2)=true:=by rw[Ge h];rfl
def rwR{o o2:eF}(h:∀cs,o≠ .ro cs):(Sw o2||Sw o)=true:=by rw[Ge h];simp
structure bt (σ:dj) (W:AW) (h:Array nv):Prop where
 free:∀b,W.next<=b->W.get b=none
 pd:∀b g,σ b=some g->b<W.next/\g.B<h.size
 obj:∀b o g,W.get b=some o->σ b=some g->lO σ h g o
 pn:∀b1 b2 o1 o2 g1 g2,b1≠b2->W.get b1=some o1->W.get b2=some o2->σ b1=some g1->σ b2=some g2->(Sw o1||Sw o2)=true->g1.B≠g2.B\/g1.e<=g2.s\/g2.e<=g1.s
def Mut(σ:dj)(W:AW)(B:Nat):Prop:=∃b g,σ b=some g/\g.B=B/\∀cs,W.get b≠some (.ro cs)
def Jy{w w':au}{a:aW}(h:w'.heap[a.block]? =w.heap[a.block]?):w'.frozen? a=w.frozen? a:=by unfold World.frozen?;rw[h]
def lO.amm{σ:dj}{w:au}{g:tu}{o:eF}(k:lO σ w.heap g o)(pM:∀cs,o≠ .ro cs)(fk:g.s<g.e){a:aW}(ha:a.block=g.B):w.frozen? a=false:=by
 unfold World.frozen?;rw[ha];cases o with
 |cells cs=>obtain⟨c,t,fr,h1,h0,_⟩:=k;rw[h1,h0 fk];simp
 |ro cs=>exact absurd rfl (pM cs)
 |map es j5=>obtain⟨_,_,gj,h1,_⟩:=k;rw[h1]
 |loop st mJ R nt ps asC bd=>obtain⟨_,_,r,h1,_⟩:=k;rw[h1]
 |mF s pos=>obtain⟨_,_,h1⟩:=k;rw[h1]
 |tc t cs=>obtain⟨_,_,_,c,h1,_⟩:=k;rw[h1];simp
structure eW (σ:dj) (W:AW) (w:au) (σ':dj) (W':AW) (w':au):Prop where
 sub:Sub σ σ'
 ro:∀b cs,W.get b=some (.ro cs)->W'.get b=some (.ro cs)
 size:w.heap.size<=w'.heap.size
 os:w'.os=w.os
 tape:w'.tape=w.tape
 output:w'.output=w.output
 dq:∀B,B<w.heap.size->¬Mut σ W B->w'.heap[B]? =w.heap[B]?
 ghost:∀b o,W.get b=some o->σ b=none->W'.get b=some o/\σ' b=none
 grow:∀b g,σ' b=some g->g.B<w.heap.size->σ b=some g\/Mut σ W g.B
def eW.PC{σ σ':dj}{W W':AW}{w w':au}(h:eW σ W w σ' W' w'):∀B,B<w.heap.size->Mut σ' W' B->Mut σ W B:=by
 rintro B hB ⟨b,g,hg,rfl,pM⟩;rcases h.grow b g hg hB with h1|h1
 ·exact⟨b,g,h1,rfl,λcs hc=>pM cs (h.ro b cs hc)⟩
 ·exact h1
def eW.refl(σ:dj)(W:AW)(w:au):eW σ W w σ W w:=⟨.refl _,λ_ _ h=>h,aP _,rfl,rfl,rfl,λ_ _ _=>rfl,λ_ _ h k=>⟨h,k⟩,λ_ _ h _=>.inl h⟩
def eW.trans{σ σ' G2:dj}{W W' W'':AW}{w w' VD:au}(h:eW σ W w σ' W' w')(k:eW σ' W' w' G2 W'' VD):eW σ W w G2 W'' VD:=
 ⟨h.sub.trans k.sub,λb cs x=>k.ro b cs (h.ro b cs x),gQ h.size k.size,k.os.trans h.os,k.tape.trans h.tape,k.output.trans h.output,
  λB hB hm=>(k.dq B (fM hB h.size) (λm=>hm (h.PC B hB m))).trans (h.dq B hB hm),
  λb o h1 h2=>let⟨a1,a2⟩:=h.ghost b o h1 h2;k.ghost b o a1 a2,
  λb g hg hB=>by
   rcases k.grow b g hg (fM hB h.size)with h1|h1
   ·exact h.grow b g h1 hB
   ·exact .inr (h.PC _ hB h1)⟩
def eW.drawn(σ:dj)(W:AW)(w:au)(n:Nat):eW σ W w σ W {w with drawn:=n}:=⟨.refl _,λ_ _ h=>h,aP _,rfl,rfl,rfl,λ_ _ _=>rfl,λ_ _ h k=>⟨h,k⟩,λ_ _ h _=>.inl h⟩
section
variable {σ:dj} {W:AW} {w w':au}
def bt.PC(h:bt σ W w.heap){b:Nat}{o o':eF}{g:tu}(hb:W.get b=some o)(pM:∀cs,o≠ .ro cs)(Kv:∀cs,o'≠ .ro cs)(hg:σ b=some g)
 (qD:w'.heap.size=w.heap.size)(Ss:w'.os=w.os)(SP:w'.tape=w.tape)(zQ:w'.output=w.output)
 (ji:∀B,B≠g.B->w'.heap[B]? =w.heap[B]?)
 (mT:lO σ w'.heap g o')
 (FM:∀b2 o2 g2,b2≠b->W.get b2=some o2->σ b2=some g2->g2.B=g.B->(g.e<=g2.s\/g2.e<=g.s)->lO σ w.heap g2 o2->lO σ w'.heap g2 o2):
 bt σ (W.put b o') w'.heap/\eW σ W w σ (W.put b o') w':=by
 have fk:∀{c:Nat},c≠b->(W.put b o').get c=W.get c:=λhc=>W.aE _ (bL hc)
 refine⟨⟨?_,?_,?_,?_⟩,⟨.refl _,?_,?_,Ss,SP,zQ,?_,?_,?_⟩⟩
 ·intro c hc;have OP:=(h.pd b g hg).1;have sX:W.next<=c:=hc;rw[fk (by omega)];exact h.free c sX
 ·intro c k hk;have:=h.pd c k hk;exact⟨this.1,by rw[qD];exact this.2⟩
 ·intro c o2 g2 hc hk;by_cases Ev:c=b
  ·subst Ev;rw[AW.bz]at hc;injection hc with hc;subst hc;rw[hg]at hk;injection hk with hk;subst hk;exact mT
  ·rw[fk Ev]at hc;by_cases hB:g2.B=g.B
   ·refine FM c o2 g2 Ev hc hk hB ?_ (h.obj c o2 g2 hc hk);rcases h.pn c b o2 o g2 g Ev hc hb hk hg (rwR pM)with h1|h1|h1
    ·exact absurd hB h1
    ·exact .inr h1
    ·exact .inl h1
   ·exact(h.obj c o2 g2 hc hk).same (ji _ hB)
 ·intro b1 b2 o1 o2 g1 g2 amf h1 h2 k1 k2 hr;have e1:∃o1',W.get b1=some o1'/\Sw o1'=Sw o1:=by
   by_cases hx:b1=b
   ·subst hx;rw[AW.bz]at h1;injection h1 with h1;subst h1;exact⟨o,hb,by rw[Ge pM,Ge Kv]⟩
   ·rw[fk hx]at h1;exact⟨o1,h1,rfl⟩
  have e2:∃o2',W.get b2=some o2'/\Sw o2'=Sw o2:=by
   by_cases hx:b2=b
   ·subst hx;rw[AW.bz]at h2;injection h2 with h2;subst h2;exact⟨o,hb,by rw[Ge pM,Ge Kv]⟩
   ·rw[fk hx]at h2;exact⟨o2,h2,rfl⟩
  obtain⟨o1',e1,q1⟩:=e1;obtain⟨o2',e2,q2⟩:=e2;exact h.pn b1 b2 o1' o2' g1 g2 amf e1 e2 k1 k2 (by rw[q1,q2];exact hr)
 ·intro c cs hc;by_cases Ev:c=b
  ·subst Ev;rw[hb]at hc;injection hc with hc;exact absurd hc (pM cs)
  ·rw[fk Ev];exact hc
 ·rw[qD];exact aP _
 ·intro B hB hm;by_cases hBg:B=g.B
  ·subst hBg;exact absurd ⟨b,g,hg,rfl,λcs hc=>by rw[hb]at hc;injection hc with hc;exact pM cs hc⟩ hm
  ·exact ji B hBg
 ·intro c o2 hc hk;have Ev:c≠b:=λe=>by subst e;rw[hg]at hk;cases hk
  exact⟨by rw[fk Ev];exact hc,hk⟩
 ·exactλc k hk _=>.inl hk
def bt.Um(h:bt σ W w.heap){b:Nat}{o o':eF}{g:tu}(hb:W.get b=some o)(pM:∀cs,o≠ .ro cs)(Kv:∀cs,o'≠ .ro cs)(hg:σ b=some g)
 (qD:w'.heap.size=w.heap.size)(Ss:w'.os=w.os)(SP:w'.tape=w.tape)(zQ:w'.output=w.output)
 (ji:∀B,B≠g.B->w'.heap[B]? =w.heap[B]?)
 {c c':Array ae}{t:ai}(hc:w.heap[g.B]? =some (.cells c t (0,0)))(sX:w'.heap[g.B]? =some (.cells c' t (0,0)))(pw:c'.size=c.size)
 (uC:∀i,i<g.s\/g.e<=i->c'[i]? =c[i]?)(mT:lO σ w'.heap g o'):
 bt σ (W.put b o') w'.heap/\eW σ W w σ (W.put b o') w':=by
 refine h.PC hb pM Kv hg qD Ss SP zQ ji mT ?_
 ·intro b2 o2 g2 fk h2 k2 hB hd fd;cases o2 with
  |cells E3=>obtain⟨c0,t0,ZI,e1,e0,e2,e3,e4⟩:=fd;rw[hB,hc]at e1;injection e1 with e1;injection e1 with e1 XJ;subst e1;refine⟨c',t,(0,0),by rw[hB];exact sX,λ_=>rfl,e2,by omega,λi v hv=>?_⟩;obtain⟨v',f1,f2⟩:=e4 i v hv;have hi:i<E3.length:=(du.1 hv).1;exact⟨v',by rw[uC _ (by omega)];exact f1,f2⟩
  |ro E3=>obtain⟨c0,t0,fr,e1,e2,e3⟩:=fd;rw[hB,hc]at e1;injection e1 with e1;injection e1 with e1 XJ;subst e1;refine⟨c',t,(0,0),by rw[hB];exact sX,e2,λi v hv=>?_⟩;have hi:i<E3.length:=(du.1 hv).1;obtain⟨v',f1,f2⟩:=e3 i v hv;exact⟨v',by rw[uC _ (by omega)];exact f1,f2⟩
  |map es j5=>obtain⟨_,_,gj,e1,_⟩:=fd;rw[hB,hc]at e1;cases e1
  |loop st mJ R nt ps asC bd=>obtain⟨_,_,r,e1,_⟩:=fd;rw[hB,hc]at e1;cases e1
  |mF s pos=>obtain⟨_,_,e1⟩:=fd;rw[hB,hc]at e1;cases e1
  |tc t2 E3=>obtain⟨a1,a2,a3,c0,e1,e2,e3,e4⟩:=fd;rw[hB,hc]at e1;injection e1 with e1;injection e1 with e1 XJ;subst e1;subst XJ;refine⟨a1,a2,a3,c',by rw[hB];exact sX,e2,by omega,λi v hv=>?_⟩;obtain⟨v',f1,f2⟩:=e4 i v hv;have hi:i<E3.length:=(du.1 hv).1;exact⟨v',by rw[uC _ (by omega)];exact f1,f2⟩
def bt.write(h:bt σ W w.heap){b:Nat}{cs cP:List ae}{g:tu}(hb:W.get b=some (.cells cs))(hg:σ b=some g)
 (qD:w'.heap.size=w.heap.size)(Ss:w'.os=w.os)(SP:w'.tape=w.tape)(zQ:w'.output=w.output)
 (ji:∀B,B≠g.B->w'.heap[B]? =w.heap[B]?)
 {c c':Array ae}{t:ai}(hc:w.heap[g.B]? =some (.cells c t (0,0)))(sX:w'.heap[g.B]? =some (.cells c' t (0,0)))(pw:c'.size=c.size)
 (uC:∀i,i<g.s\/g.e<=i->c'[i]? =c[i]?)(eA:g.s+cP.length<=g.e)
 (kX:∀(i:Nat) (v:ae),cP[i]? =some v->∃v',c'[g.s+i]? =some v'/\VR σ v v'):
 bt σ (W.put b (.cells cP)) w'.heap/\eW σ W w σ (W.put b (.cells cP)) w':=by
 refine h.Um hb (λ_=>by simp) (λ_=>by simp) hg qD Ss SP zQ ji hc sX pw uC ?_
 ·obtain⟨c0,t0,ZI,h1,h0,h2,h3,h4⟩:=h.obj b _ g hb hg;rw[hc]at h1;injection h1 with h1;injection h1 with h1 UB;subst h1;exact⟨c',t,(0,0),sX,λ_=>rfl,eA,by omega,kX⟩
def bt.adP(h:bt σ W w.heap){b:Nat}{t0:ai}{cs cP:List ae}{g:tu}(hb:W.get b=some (.tc t0 cs))(hg:σ b=some g)
 (qD:w'.heap.size=w.heap.size)(Ss:w'.os=w.os)(SP:w'.tape=w.tape)(zQ:w'.output=w.output)
 (ji:∀B,B≠g.B->w'.heap[B]? =w.heap[B]?)
 {c c':Array ae}(hc:w.heap[g.B]? =some (.cells c t0 (0,0)))(sX:w'.heap[g.B]? =some (.cells c' t0 (0,0)))(pw:c'.size=c.size)
 (eA:cP.length=cs.length)
 (kX:∀(i:Nat) (v:ae),cP[i]? =some v->∃v',c'[i]? =some v'/\VR σ v v'):
 bt σ (W.put b (.tc t0 cP)) w'.heap/\eW σ W w σ (W.put b (.tc t0 cP)) w':=by
 obtain⟨a1,a2,a3,c0,h1,h2,h3,h4⟩:=h.obj b _ g hb hg;rw[hc]at h1;injection h1 with h1;injection h1 with h1 UB;subst h1;refine h.Um hb (λ_=>by simp) (λ_=>by simp) hg qD Ss SP zQ ji hc sX pw (λi hi=>?_) ⟨a1,a2,⟨a3.1,λhx=>by rw[eA];exact a3.2 hx⟩,c',sX,by omega,by omega,kX⟩;rw[uA (by omega),uA (by omega)]
def bt.setObj(h:bt σ W w.heap){b:Nat}{o o':eF}{g:tu}{x:nv}(hb:W.get b=some o)(pM:∀cs,o≠ .ro cs)(hg:σ b=some g)(Uk:g.s=0/\g.e=1)
 (Xx:∀c t fr,w.heap[g.B]? ≠some (.cells c t fr))
 (mT:lO σ (w.heap.setIfInBounds g.B x) g o')(Kv:∀cs,o'≠ .ro cs:=by intro _ hx;cases hx):
 bt σ (W.put b o') (w.heap.setIfInBounds g.B x)/\eW σ W w σ (W.put b o') {w with heap:=w.heap.setIfInBounds g.B x}:=by
 refine h.PC (w':={w with heap:=w.heap.setIfInBounds g.B x}) hb pM Kv hg (by simp) rfl rfl rfl (λB hB=>?_) mT ?_
 ·simp only[HR];rw[ay (bL hB)]
 ·intro b2 o2 g2 _ _ _ hB hd fd;exfalso;cases o2 with
  |cells E3=>obtain⟨c0,t0,ZI,e1,_⟩:=fd;rw[hB]at e1;exact Xx _ _ _ e1
  |ro E3=>obtain⟨c0,t0,fr,e1,_⟩:=fd;rw[hB]at e1;exact Xx _ _ _ e1
  |map es j5=>obtain⟨_,_,_⟩:=fd;omega
  |loop st mJ R nt ps asC bd=>obtain⟨_,_,_⟩:=fd;omega
  |mF s pos=>obtain⟨_,_,_⟩:=fd;omega
  |tc t2 E3=>obtain⟨_,_,_,c0,e1,_⟩:=fd;rw[hB]at e1;exact Xx _ _ _ e1
def cq(σ:dj)(b:Nat)(g:tu):dj:=λc=>if c=b then some g else σ c
def dD{b:Nat}{g:tu}(hb:σ b=none):Sub σ (cq σ b g):=λc k hc=>by
 unfold cq;split
 ·rename_i e;subst e;rw[hb]at hc;cases hc
 ·exact hc
def dy{b:Nat}{g:tu}:cq σ b g b=some g:=by simp[cq]
def bt.fresh(h:bt σ W w.heap):σ W.next=none:=by
 cases hk:σ W.next with
 |none=>rfl
 |some g=>have:=(h.pd _ _ hk).1;omega
def bt.alloc(h:bt σ W w.heap){o:eF}{x:nv}{e:Nat}
 (mT:lO (cq σ W.next ⟨w.heap.size,0,e⟩) (w.heap.push x) ⟨w.heap.size,0,e⟩ o)(pM:∀cs,o≠ .ro cs:=by intro _ hx;cases hx):
 bt (cq σ W.next ⟨w.heap.size,0,e⟩) (W.add o) (w.heap.push x)/\eW σ W w (cq σ W.next ⟨w.heap.size,0,e⟩) (W.add o) {w with heap:=w.heap.push x}:=by
 have Eu:=h.fresh;have hs:Sub σ (cq σ W.next ⟨w.heap.size,0,e⟩):=dD Eu;have fd:∀B,B<w.heap.size->(w.heap.push x)[B]? =w.heap[B]? :=λB hB=>by rw[ss];rw[b8]
 have fk:∀{c:Nat},c≠W.next->(W.add o).get c=W.get c:=λhc=>W.br _ (bL hc)
 have oc:∀c g,cq σ W.next ⟨w.heap.size,0,e⟩ c=some g->(c=W.next/\g=⟨w.heap.size,0,e⟩)\/(c≠W.next/\σ c=some g):=λc g hc=>by
  unfold cq at hc;split at hc
  ·rename_i hx;injection hc with hc;exact .inl ⟨hx,hc.symm⟩
  ·rename_i hx;exact .inr ⟨hx,hc⟩
 refine⟨⟨?_,?_,?_,?_⟩,⟨hs,?_,?_,rfl,rfl,rfl,?_,?_,?_⟩⟩
 ·intro c hc;have sX:W.next+1<=c:=hc;rw[fk (by omega)];exact h.free c (by omega)
 ·intro c g hc;rcases oc c g hc with⟨rfl,rfl⟩|⟨_,h2⟩
  ·simp[AW.aG]
  ·have:=h.pd c g h2;simp[AW.aG];omega
 ·intro c o2 g hc hk;rcases oc c g hk with⟨rfl,rfl⟩|⟨h1,h2⟩
  ·rw[AW.aT]at hc;injection hc with hc;subst hc;exact mT
  ·rw[fk h1]at hc;exact((h.obj c o2 g hc h2).mono hs).same (fd _ (h.pd c g h2).2)
 ·intro b1 b2 o1 o2 g1 g2 Ib h1 h2 k1 k2 hr;rcases oc b1 g1 k1 with⟨rfl,rfl⟩|⟨x1,y1⟩
  ·rcases oc b2 g2 k2 with⟨rfl,rfl⟩|⟨x2,y2⟩
   ·exact absurd rfl Ib
   ·have:=(h.pd _ _ y2).2;exact .inl (by simp only[ne_eq];omega)
  ·rcases oc b2 g2 k2 with⟨rfl,rfl⟩|⟨x2,y2⟩
   ·have:=(h.pd _ _ y1).2;exact .inl (by simp only[ne_eq];omega)
   ·rw[fk x1]at h1;rw[fk x2]at h2;exact h.pn _ _ _ _ _ _ Ib h1 h2 y1 y2 hr
 ·intro b cs hb;by_cases hx:b=W.next
  ·subst hx;rw[h.free _ (aP _)]at hb;cases hb
  ·rw[fk hx];exact hb
 ·simp
 ·intro B hB _;exact fd B hB
 ·intro c o2 hc hk;have hcn:c≠W.next:=λe=>by subst e;rw[h.free _ (aP _)]at hc;cases hc
  refine⟨by rw[fk hcn];exact hc,?_⟩;unfold cq;rw[ay hcn];exact hk
 ·intro c g hk hB;rcases oc c g hk with⟨rfl,rfl⟩|⟨h1,h2⟩
  ·simp at hB
  ·exact .inl h2
end
end
section
variable [ak]
def dV(B o j:Nat):(⟨B,o,none⟩:aW).add j=⟨B,o+j,none⟩:=by
 unfold Addr.add;split
 ·rename_i h;subst h;rfl
 ·rfl
def oN(a:aW)(j:Nat)(h:a.spot=none):(a.add j).spot=none:=by unfold Addr.add;split<;>simp[h]
def gL(a:aW)(j:Nat):(a.add j).block=a.block:=by unfold Addr.add;split<;>rfl
def pJ(a:aW)(j:Nat):(a.add j).off=a.off+j:=by
 unfold Addr.add;split
 ·rename_i h;subst h;rfl
 ·rfl
def Sg(P:aj)(t:ai):Option Bool:=(P.underlying t).map λd=>match d with|.struct _|.array .. =>true|_=>false
def lX(P:aj)(t:ai):Option Nat:=(P.info? t).map (·.size)
def yS{P:aj}{t:ai}{n:Nat}(h:lX P t=some n):∃i,P.info? t=some i/\i.size=n/\P.cellsOf t=n:=by
 unfold lX at h;cases hi:P.info? t with
 |none=>rw[hi]at h;cases h
 |some i=>rw[hi]at h;simp at h;exact⟨i,rfl,h,by simp[Program.cellsOf,hi,h]⟩
def bJ{P:aj}{t:ai}{n:Nat}(h:lX P t=some n)(w:au):(sizeOf t).run P w=.ok n w:=by
 obtain⟨i,hi,_,h3⟩:=yS h;have:(sizeOf t).run P w=.ok (P.cellsOf t) w:=by simp[sizeOf,typeInfo,hi,Program.cellsOf]
 rw[this,h3]
def rO{P:aj}{t:ai}{b:Bool}(h:Sg P t=some b)(w:au):(isAgg t).run P w=.ok b w:=by
 unfold Sg at h;cases hu:P.underlying t with
 |none=>rw[hu]at h;cases h
 |some d=>rw[hu]at h;simp only[cS,gJ]at h;subst h;cases d<;>simp[isAgg,bU hu]
def aL(W:AW)(b:Nat):Option (List ae):=match W.get b with|some (.cells cs)=>some cs|some (.ro cs)=>some cs|some (.tc _ cs)=>some cs|_=>none
section
variable {P:aj} {σ:dj} {W:AW} {w:au}
def yq(h:bt σ W w.heap){b:Nat}{cs:List ae}{g:tu}(hc:aL W b=some cs)(hg:σ b=some g){i:Nat}{v:ae}(hv:cs[i]? =some v):
 ∃v',w.cell? ⟨g.B,g.s+i,none⟩=some v'/\VR σ v v':=by
 unfold aL at hc;split at hc
 ·rename_i cP fj;injection hc with hc;subst hc;obtain⟨c,t,fr,h1,h0,h2,h3,h4⟩:=h.obj b _ g fj hg;obtain⟨v',f1,f2⟩:=h4 i v hv;exact⟨v',by simp[World.cell?,h1,f1],f2⟩
 ·rename_i cP fj;injection hc with hc;subst hc;obtain⟨c,t,fr,h1,h2,h4⟩:=h.obj b _ g fj hg;obtain⟨v',f1,f2⟩:=h4 i v hv;exact⟨v',by simp[World.cell?,h1,f1],f2⟩
 ·rename_i t cP fj;injection hc with hc;subst hc;obtain⟨a1,a2,a3,c,h1,h2,h3,h4⟩:=h.obj b _ g fj hg;obtain⟨v',f1,f2⟩:=h4 i v hv;exact⟨v',by simp[World.cell?,h1,a1,f1],f2⟩
 ·cases hc
def TU{α:Type}(l:List α):Nat->List α:=
 List.rec (motive:=λ_=>Nat->List α) (λ_=>[]) (λv t ih n=>Nat.rec (motive:=λ_=>List α) (v::t) (λm _=>ih m) n) l
def HT{α:Type}(l:List α):Nat->Option (List α):=
 List.rec (motive:=λ_=>Nat->Option (List α)) (λn=>Nat.rec (motive:=λ_=>Option (List α)) (some []) (λ_ _=>none) n)
  (λv _ ih n=>Nat.rec (motive:=λ_=>Option (List α)) (some []) (λm _=>Option.rec (motive:=λ_=>Option (List α)) none (λr=>some (v::r)) (ih m)) n) l
def Ux{α:Type}(l:List α):∀n,TU l n=l.drop n:=by
 induction l with
 |nil=>intro n;simp[TU]
 |cons v l ih=>intro n;cases n with|zero=>rfl|succ n=>exact(ih n).trans (by simp)
def Qe{α:Type}(l:List α):∀n,HT l n=if(l.take n).length=n then some (l.take n)else none:=by
 induction l with
 |nil=>intro n;cases n with|zero=>rfl|succ n=>simp[HT]
 |cons v l ih=>
  intro n;cases n with
  |zero=>rfl
  |succ n=>
   show Option.rec (motive:=λ_=>Option (List α)) none (λr=>some (v::r)) (HT l n)=_;rw[ih n];by_cases h:(l.take n).length=n
   ·rw[ax h,ax (by simp only[GM,dE,h])];simp
   ·rw[ay h,ay (by simp only[GM,dE];omega)]
def lu(W:AW)(b off n:Nat):Option (List ae):=
 match aL W b with
 |some cs=>HT (TU cs off) n
 |none=>none
def iu(W:AW)(b off n:Nat):lu W b off n=match aL W b with
 |some cs=>let l:=(cs.drop off).take n;if l.length=n then some l else none
 |none=>none:=by
 unfold lu;cases aL W b with
 |none=>rfl
 |some cs=>simp only[Ux,Qe]
def Ab(h:bt σ W w.heap){b off n:Nat}{l:List ae}{g:tu}(hr:lu W b off n=some l)(hg:σ b=some g):
 ∃l',LR σ l l'/\l.length=n/\(∀j v,l'[j]? =some v->w.cell? ⟨g.B,g.s+off+j,none⟩=some v)/\(loadCells ⟨g.B,g.s+off,none⟩ n).run P w=.ok l'.toArray w:=by
 rw[iu]at hr;split at hr
 ·rename_i cs hc;simp only at hr;split at hr
  ·rename_i eA;injection hr with hr;have fj:∀j v,l[j]? =some v->∃v',w.cell? ⟨g.B,g.s+off+j,none⟩=some v'/\VR σ v v':=by
    intro j v hj;rw[<-hr,mb]at hj;split at hj
    ·rw[uk]at hj;obtain⟨v',a,b⟩:=yq h hc hg hj;exact⟨v',by rw[nh];exact a,b⟩
    ·cases hj
   have hln:l.length=n:=by rw[<-hr];exact eA
   let f:Nat->ae:=λj=>(w.cell? ⟨g.B,g.s+off+j,none⟩).getD ag
   refine⟨(List.range n).map f,⟨by simp[hln],λj v v' a b=>?_⟩,hln,?_,?_⟩
   ·have hj:j<n:=by rw[<-hln];exact(du.1 a).1
    obtain⟨u,h1,h2⟩:=fj j v a;simp[hj,f,h1]at b;subst b;exact h2
   ·intro j v hj;have Sk:j<n:=by have:=(du.1 hj).1;simpa using this
    obtain⟨u,h1,h2⟩:=fj j l[j] (cL (by omega));simp[Sk,f,h1]at hj;subst hj;exact h1
   ·have:=run_loadCells (P:=P) w ⟨g.B,g.s+off,none⟩ n f (λj hj=>by rw[dV];obtain⟨u,h1,h2⟩:=fj j l[j] (cL (by omega));simp[f,h1]);exact this
  ·cases hr
 ·cases hr
def ja(P:aj)(W:AW)(t:ai)(x:ae):Option ae:=
 match x with
 |.pointer (some a)=>match Sg P t with
  |some false=>match aL W a.block with
   |some cs=>Xn cs a.off
   |none=>none
  |some true=>match lX P t with
   |some n=>(lu W a.block a.off n).map λl=>.agg l.toArray
   |none=>none
  |none=>none
 |_=>none
def FV(h:bt σ W w.heap){t:ai}{x x' v:ae}(ha:ja P W t x=some v)(hx:VR σ x x'):
 ∃v',(Instr.loadAt t x').run P w=.ok v' w/\VR σ v v':=by
 unfold ja at ha;split at ha
 ·rename_i a;cases hx with
  |ptr a g hg hs=>
   split at ha
   ·rename_i adm;split at ha
    ·rename_i cs hc;rw[G0]at ha;obtain⟨v',h1,h2⟩:=yq h hc hg ha;exact⟨v',by simp[Instr.loadAt,Instr.sureAddr,loadVar,rO adm,h1],h2⟩
    ·cases ha
   ·rename_i adm;split at ha
    ·rename_i n hn;cases hr:lu W a.block a.off n with
     |none=>rw[hr]at ha;cases ha
     |some l=>rw[hr]at ha;simp only[cS,gJ]at ha;subst ha;obtain⟨l',h1,_,_,h3⟩:=Ab (P:=P) h hr hg;exact⟨.agg l'.toArray,by simp[Instr.loadAt,Instr.sureAddr,loadVar,rO adm,bJ hn,h3],VR.Ny (by simpa using h1)⟩
    ·cases ha
   ·cases ha
 ·cases ha
def one(v:ae):Bool:=v.oneCell'
def adC{v v':ae}(h:VR σ v v'):one v'=one v:=by cases h<;>rfl
def BR{l l':List ae}(h:LR σ l l')(ha:l.all one=true):∀v∈l',v.oneCell'=true:=by
 intro v hv;obtain⟨i,hi⟩:=List.getElem?_of_mem hv;have hil:i<l.length:=by rw[h.1];exact(du.1 hi).1
 have:=h.2 i l[i] v (cL hil) hi;rw[show v.oneCell'=one v from rfl,adC this];exact cM.1 ha _ (fb hil)
def gI(cs:List ae)(off:Nat)(vs:List ae):List ae:=cs.take off++vs++cs.drop (off+vs.length)
def ab2:ae->Bool:=
 Value.rec (motive_1:=λ_=>Bool) (motive_2:=λ_=>PUnit) (motive_3:=λ_=>PUnit) (λ_=>true) (λ_ _=>true) (λ_ _=>true) (λ_ _ _=>true) (λ_=>true) (λ_=>true) (λ_ _ _=>true) (λ_=>true) (λ_=>true) (λ_ _ _ _ _=>true) true (λ_ _ _=>true) true (λ_ _=>false) (λ_ _=>false) (λ_ _=>.unit) .unit (λ_ _ _ _=>.unit)
def Zi(v:ae):ab2 v=one v:=by cases v<;>rfl
def AO(vs:List ae):List ae->Option (List ae):=
 List.rec (motive:=λ_=>List ae->Option (List ae)) (λcs=>some cs)
  (λv _ ih cs=>List.rec (motive:=λ_=>Option (List ae)) none (λ_ t _=>Bool.rec (motive:=λ_=>Option (List ae)) none (Option.rec (motive:=λ_=>Option (List ae)) none (λr=>some (v::r)) (ih t)) (ab2 v)) cs) vs
def Jp(vs:List ae):∀cs,AO vs cs=if vs.length<=cs.length/\vs.all one=true then some (vs++cs.drop vs.length)else none:=by
 induction vs with
 |nil=>intro cs;simp[AO]
 |cons v vs ih=>
  intro cs;cases cs with
  |nil=>simp[AO]
  |cons c t=>
   show Bool.rec (motive:=λ_=>Option (List ae)) none (Option.rec (motive:=λ_=>Option (List ae)) none (λr=>some (v::r)) (AO vs t)) (ab2 v)=_;rw[ih t,Zi];cases h1:one v with
   |false=>simp[h1]
   |true=>
    by_cases h:vs.length<=t.length/\vs.all one=true
    ·rw[ax h,ax (by simp only[dE,fa,h1,h.2];exact⟨by omega,rfl⟩)];simp
    ·rw[ay h,ay (by simp only[dE,fa,h1,jK];exactλk=>h ⟨by omega,k.2⟩)]
def Cr(cs:List ae):Nat->List ae->Option (List ae):=
 List.rec (motive:=λ_=>Nat->List ae->Option (List ae)) (λn vs=>Nat.rec (motive:=λ_=>Option (List ae)) (AO vs []) (λ_ _=>none) n)
  (λc t ih n vs=>Nat.rec (motive:=λ_=>Option (List ae)) (AO vs (c::t)) (λm _=>Option.rec (motive:=λ_=>Option (List ae)) none (λr=>some (c::r)) (ih m vs)) n) cs
def zY(cs:List ae):∀(off:Nat) (vs:List ae),Cr cs off vs=if off+vs.length<=cs.length/\vs.all one=true then some (gI cs off vs)else none:=by
 induction cs with
 |nil=>
  intro off vs;cases off with
  |zero=>show AO vs []=_;rw[Jp];simp[gI]
  |succ n=>show(none:Option (List ae))=_;rw[ay (by simp)]
 |cons c t ih=>
  intro off vs;cases off with
  |zero=>show AO vs (c::t)=_;rw[Jp];simp[gI]
  |succ n=>
   show Option.rec (motive:=λ_=>Option (List ae)) none (λr=>some (c::r)) (Cr t n vs)=_;rw[ih n vs];have e:n+1+vs.length=(n+vs.length)+1:=by omega
   by_cases h:n+vs.length<=t.length/\vs.all one=true
   ·rw[ax h,ax ⟨by simp only[dE];omega,h.2⟩];simp[gI,e]
   ·rw[ay h,ay (by simp only[dE];exactλk=>h ⟨by omega,k.2⟩)]
def nc(W:AW)(b off:Nat)(vs:List ae):Option AW:=
 match W.get b with
 |some (.cells cs)=>(match Cr cs off vs with
  |some l=>some (W.put b (.cells l))
  |none=>none)
 |some (.tc t cs)=>(match Cr cs off vs with
  |some l=>some (W.put b (.tc t l))
  |none=>none)
 |_=>none
def MN(W:AW)(b off:Nat)(vs:List ae):nc W b off vs=match W.get b with
 |some (.cells cs)=>if off+vs.length<=cs.length/\vs.all one=true then some (W.put b (.cells (gI cs off vs)))else none
 |some (.tc t cs)=>if off+vs.length<=cs.length/\vs.all one=true then some (W.put b (.tc t (gI cs off vs)))else none
 |_=>none:=by
 unfold nc;split
 ·rename_i cs pw;rw[zY];by_cases h:off+vs.length<=cs.length/\vs.all one=true
  ·rw[ax h,ax h]
  ·rw[ay h,ay h]
 ·rename_i t cs pw;rw[zY];by_cases h:off+vs.length<=cs.length/\vs.all one=true
  ·rw[ax h,ax h]
  ·rw[ay h,ay h]
 ·rfl
def ki(c:List ae)(o:Nat)(vs:List ae)(h:o+vs.length<=c.length)(i:Nat):
 (c.take o++vs++c.drop (o+vs.length))[i]? =if o<=i/\i<o+vs.length then vs[i-o]? else c[i]? :=by
 rw[jQ,wv];simp only[dF];have hm:min o c.length=o:=by omega
 rw[hm];split
 ·rename_i h1;rw[mb,ax h1,b8]
 ·rename_i h1;rw[wv];split
  ·rename_i h2;rw[ou]
  ·rename_i h2;rw[b8,uk];congr 1;omega
def iP(w:au)(g B:Nat)(c:Array ae)(h:B≠g):(w.setRow g c).heap[B]? =w.heap[B]? :=by simp only[World.setRow,z7];rw[ay (bL h)]
def rL(h:bt σ W w.heap){b off:Nat}{vs C3:List ae}{W':AW}{g:tu}(hw:nc W b off vs=some W')(hg:σ b=some g)(hv:LR σ vs C3):
 ∃w',(storeCells ⟨g.B,g.s+off,none⟩ C3).run P w=.ok () w'/\bt σ W' w'.heap/\eW σ W w σ W' w':=by
 rw[MN]at hw;split at hw
 ·rename_i cs fj;split at hw
  ·rename_i rh;injection hw with hw;obtain⟨eA,II⟩:=rh;obtain⟨c,t,fr,h1,h0,h2,h3,h4⟩:=h.obj b _ g fj hg;have hvl:=hv.1;by_cases hgs:g.s<g.e;case neg=>
    have SF:C3=[]:=t7 (by omega);have amZ:vs=[]:=t7 (by omega);have ang:cs=[]:=t7 (by omega);subst SF;subst amZ;subst ang;have HQ:off=0:=by simpa using eA
    subst HQ;refine⟨w,by simp[storeCells],?_⟩;rw[<-hw];have amD:gI ([]:List ae) 0 []=[]:=rfl;rw[amD];refine h.PC fj (λ_=>by simp) (λ_=>by simp) hg rfl rfl rfl rfl (λ_ _=>rfl) ⟨c,t,fr,h1,h0,h2,h3,h4⟩ (λ_ _ _ _ _ _ _ _ k=>k)
   obtain rfl:=h0 hgs;have nS:=B9 (P:=P) g.B (g.s+off) t C3 0 c w h1 (by omega) (BR hv II);simp only[cC]at nS;refine⟨_,nS,?_⟩;rw[<-hw];have Bv:=ki c.toList (g.s+off) C3 (by simp;omega);refine h.write (cP:=gI cs off vs) fj hg (by simp[World.setRow]) rfl rfl rfl (λB hB=>iP w g.B B _ hB) h1 (sz w g.B c _ t _ h1) (by simp;omega) ?_ ?_ ?_
   ·intro i hi;have:=Bv i;rw[b8]at this;simpa using this
   ·simp[gI];omega
   ·intro i v VS;have hsg:=ki cs off vs eA i;rw[show gI cs off vs=cs.take off++vs++cs.drop (off+vs.length)from rfl,hsg]at VS;have nI:=Bv (g.s+i);by_cases kX:off<=i/\i<off+vs.length
    ·rw[ax kX]at VS;rw[ou]at nI;obtain⟨v',f1,f2⟩:=hv.get VS;refine⟨v',?_,f2⟩;rw[show g.s+i-(g.s+off)=i-off by omega]at nI;rw[<-f1];simpa using nI
    ·rw[ay kX]at VS;rw[b8]at nI;obtain⟨v',f1,f2⟩:=h4 i v VS;exact⟨v',by rw[<-f1];simpa using nI,f2⟩
  ·cases hw
 ·rename_i t cs fj;split at hw
  ·rename_i rh;injection hw with hw;obtain⟨eA,II⟩:=rh;obtain⟨a1,a2,a3,c,h1,h2,h3,h4⟩:=h.obj b _ g fj hg;have hvl:=hv.1;have nS:=B9 (P:=P) g.B (g.s+off) t C3 0 c w h1 (by omega) (BR hv II);simp only[cC]at nS;refine⟨_,nS,?_⟩;rw[<-hw];have Bv:=ki c.toList (g.s+off) C3 (by simp;omega);refine h.adP (cP:=gI cs off vs) fj hg (by simp[World.setRow]) rfl rfl rfl (λB hB=>iP w g.B B _ hB) h1 (sz w g.B c _ t _ h1) (by simp;omega) ?_ ?_
   ·simp[gI];omega
   ·intro i v VS;have hsg:=ki cs off vs eA i;rw[show gI cs off vs=cs.take off++vs++cs.drop (off+vs.length)from rfl,hsg]at VS;have nI:=Bv i;by_cases kX:off<=i/\i<off+vs.length
    ·rw[ax kX]at VS;rw[ou]at nI;obtain⟨v',f1,f2⟩:=hv.get VS;refine⟨v',?_,f2⟩;rw[show i-(g.s+off)=i-off by omega]at nI;rw[<-f1];simpa using nI
    ·rw[ay kX]at VS;rw[b8]at nI;obtain⟨v',f1,f2⟩:=h4 i v VS;exact⟨v',by rw[<-f1];simpa using nI,f2⟩
  ·cases hw
 ·cases hw
def wA(P:aj)(W:AW)(t:ai)(x v:ae):Option AW:=
 match x with
 |.pointer (some a)=>match lX P t with
  |some n=>if v.cells.size=n then nc W a.block a.off v.cells.toList else none
  |none=>none
 |_=>none
def NG(h:bt σ W w.heap){t:ai}{x x' v v':ae}{W':AW}(ha:wA P W t x v=some W')(hx:VR σ x x')(hv:VR σ v v'):
 ∃w',(Instr.storeAt t x' v').run P w=.ok () w'/\bt σ W' w'.heap/\eW σ W w σ W' w':=by
 unfold wA at ha;split at ha
 ·rename_i a;cases hx with
  |ptr a g hg hs=>
   split at ha
   ·rename_i n hn;split at ha
    ·rename_i qD;obtain⟨w',h1,h2⟩:=rL (P:=P) h ha hg hv.cells;have akH:v'.cells.size=n:=by have:=hv.cells.1;simp at this;omega
     exact⟨w',by simp[Instr.storeAt,Instr.sureAddr,storeVar,bJ hn,akH,h1],h2⟩
    ·cases ha
   ·cases ha
 ·cases ha
def wC(h:bt σ W w.heap)(t:ai){cs cP:List ae}(hc:LR σ cs cP):
 (newRow t cP.toArray).run P w=.ok ⟨w.heap.size,0,none⟩ {w with heap:=w.heap.push (.cells cP.toArray t)}/\
 cq σ W.next ⟨w.heap.size,0,cs.length⟩ W.next=some ⟨w.heap.size,0,cs.length⟩/\
 bt (cq σ W.next ⟨w.heap.size,0,cs.length⟩) (W.add (.cells cs)) (w.heap.push (.cells cP.toArray t))/\
 eW σ W w (cq σ W.next ⟨w.heap.size,0,cs.length⟩) (W.add (.cells cs)) {w with heap:=w.heap.push (.cells cP.toArray t)}:=by
 refine⟨by simp[newRow],dy,h.alloc ?_⟩;refine⟨cP.toArray,t,(0,0),by simp,λ_=>rfl,by simp,by simp[hc.1],λi v hv=>?_⟩;obtain⟨v',a,b⟩:=hc.get hv;exact⟨v',by simpa using a,b.mono (dD h.fresh)⟩
def bt.kill(h:bt σ W w.heap){b:Nat}{g0:tu}(hb:∀cs,W.get b≠some (.ro cs))(hg0:σ b=some g0):bt σ (W.kill b) w.heap/\eW σ W w σ (W.kill b) w:=by
 have hk:∀c o,(W.kill b).get c=some o->c≠b/\W.get c=some o:=λc o hc=>by
  by_cases hx:c=b
  ·subst hx;rw[AW.xD]at hc;cases hc
  ·rw[AW.eD _ (bL hx)]at hc;exact⟨hx,hc⟩
 refine⟨⟨?_,h.pd,?_,?_⟩,⟨.refl _,?_,aP _,rfl,rfl,rfl,λ_ _ _=>rfl,?_,?_⟩⟩
 ·intro c hc;by_cases hx:c=b
  ·subst hx;exact AW.xD _ _
  ·rw[AW.eD _ (bL hx)];exact h.free c hc
 ·intro c o g hc hg;exact h.obj c o g (hk c o hc).2 hg
 ·intro b1 b2 o1 o2 g1 g2 fk h1 h2 k1 k2 hr;exact h.pn b1 b2 o1 o2 g1 g2 fk (hk _ _ h1).2 (hk _ _ h2).2 k1 k2 hr
 ·intro c cs hc;have hx:c≠b:=λe=>by subst e;exact hb cs hc
  rw[AW.eD _ (bL hx)];exact hc
 ·intro c o2 hc hkn;have Ev:c≠b:=λe=>by subst e;rw[hg0]at hkn;cases hkn
  exact⟨by rw[AW.eD _ (bL Ev)];exact hc,hkn⟩
 ·exactλc g hg _=>.inl hg
end
end
section
variable [ak]
def cI(P:aj){α:Type}(s:Sem α):Option α:=
 Sem.rec (motive:=λ_=>Option α) (λa=>some a) (λ_ _ _ _=>none) (λ_ _ _ _ _=>none) (λ_ _ _=>none) (λ_ _ _=>none) (λ_ _ _ _=>none) (λ_ _ _=>none) (λ_ _ _=>none) (λ_ _ _ _=>none) (λ_ _ _=>none) (λ_ _ _=>none) (λ_ ih=>ih P) (λ_ _ _=>none) (λ_=>none) s
def pQ{P:aj}{α:Type}(s:Sem α){a:α}(h:cI P s=some a)(w:au):s.run P w=.ok a w:=by
 induction s generalizing w with
 |pure b=>simp only[cI]at h;injection h with h;subst h;rfl
 |program k ih=>exact ih P h w
 |load m b k ih=>simp[cI]at h
 |store m b v k ih=>simp[cI]at h
 |new o k ih=>simp[cI]at h
 |shape r k ih=>simp[cI]at h
 |freeze b n k ih=>simp[cI]at h
 |frozen b k ih=>simp[cI]at h
 |getObj r k ih=>simp[cI]at h
 |setObj r o k ih=>simp[cI]at h
 |choose q k ih=>simp[cI]at h
 |sys c k ih=>simp[cI]at h
 |mark m k ih=>simp[cI]at h
 |halt x=>simp[cI]at h
def aC(R:ak.Fr)(o:aq):ae:=
 match o with
 |.tmp t=>dg R t
 |.const v=>v
 |.global g=>.pointer (some ⟨g,0,none⟩)
 |.func f=>.func (.func f) #[] #[]
def F9{nt:Nat}{ng:List Nat}{σ:dj}{R:ak.Fr}{a:ba}(hR:eG nt σ R a.tmps)(hG:vH σ ng){o:aq}(ho:nN nt ng o=true):VR σ (aC R o) (a.eval o):=by
 cases o with
 |tmp t=>exact hR.2 t (by simpa[nN]using ho)
 |const v=>exact iO ho
 |global g=>obtain⟨e,he⟩:=hG g (sn.1 ho);have:=VR.ptr (σ:=σ) ⟨g,0,none⟩ _ he rfl;simpa[aC,Act.eval]using this
 |func f=>exact .func _ _ _ _ _ _ (.func f) rfl (λi v v' h=>by simp at h) rfl (λi v v' h=>by simp at h)
def yv:Option Next->Option ae
 |some (.value v)=>some v
 |_=>none
def uX:Op->Bool
 |.select .. =>false
 |_=>true
def iS(P:aj)(R:ak.Fr)(o:ao):Option ae:=
 if uX o.op&&o.op.operands.toList.all (λx=>bC (aC R x))then
  match yv (cI P (execOp (aC R) o))with
  |some v=>if bC v then some v else none
  |none=>none
 else none
def Q3{P:aj}{σ:dj}{R:ak.Fr}{ρ:aq->ae}{o:ao}{v:ae}(h:iS P R o=some v)
 (hρ:∀x∈o.op.operands,VR σ (aC R x) (ρ x))(w:au):(execOp ρ o).run P w=.ok (.value v) w/\VR σ v v:=by
 unfold iS at h;split at h
 ·rename_i hc;simp only[bK,cM]at hc;obtain⟨hns,oa⟩:=hc;have agf:execOp (aC R) o=execOp ρ o:=execOp_congr o (λcs b e=>by rw[e]at hns;simp[uX]at hns) (λx hx=>(fC (oa x (by simpa using hx)) (hρ x hx)).symm);rw[agf]at h;split at h
  ·rename_i u hu;split at h
   ·rename_i hp;injection h with h;subst h;cases hr:cI P (execOp ρ o)with
    |none=>rw[hr]at hu;cases hu
    |some nx=>rw[hr]at hu;cases nx<;>first|(simp only[yv]at hu;injection hu with hu;subst hu;exact⟨pQ _ hr w,iO hp⟩)|(simp[yv]at hu)
   ·cases h
  ·cases h
 ·cases h
def AR(σ:dj)(a a':Array ae):Prop:=LR σ a.toList a'.toList
def AR.size{σ:dj}{a a':Array ae}(h:AR σ a a'):a.size=a'.size:=by have:=h.1;simpa using this
def AR.set{σ:dj}{a a':Array ae}(h:AR σ a a')(n:Nat){x x':ae}(hx:VR σ x x'):AR σ (a.setIfInBounds n x) (a'.setIfInBounds n x'):=by unfold AR;simp only[G9];exact LR.set h n hx
def TJ{σ:dj}(off:Nat):∀(l l':List ae) (k:Nat) (a a':Array ae),LR σ l l'->AR σ a a'->
 AR σ ((l.zipIdx k).foldl (λcs p=>cs.setIfInBounds (off+p.2) p.1) a) ((l'.zipIdx k).foldl (λcs p=>cs.setIfInBounds (off+p.2) p.1) a'):=by
 intro l;induction l with
 |nil=>intro l' k a a' h ha;have:=h.of_nil;subst this;exact ha
 |cons v l ih=>intro l' k a a' h ha;obtain⟨v',XS,rfl,hv,hl⟩:=h.of_cons;simp only[List.zipIdx_cons,List.foldl_cons];exact ih XS (k+1) _ _ hl (ha.set _ hv)
def PR(σ:dj)(ps ps':List (Nat×ae)):Prop:=ps.length=ps'.length/\∀(i:Nat) (p p':Nat×ae),ps[i]? =some p->ps'[i]? =some p'->p.1=p'.1/\VR σ p.2 p'.2
def PR.of_cons{σ:dj}{p:Nat×ae}{l m:List (Nat×ae)}(h:PR σ (p::l) m):∃v' l',m=(p.1,v')::l'/\VR σ p.2 v'/\PR σ l l':=by
 cases m with
 |nil=>have:=h.1;simp at this
 |cons q l'=>have h0:=h.2 0 p q (by simp) (by simp);refine⟨q.2,l',?_,h0.2,by have:=h.1;simpa using this,λi u u' a b=>h.2 (i+1) u u' (by simpa using a) (by simpa using b)⟩;rw[h0.1]
def yl{σ:dj}(oW:Nat->Option (Nat×Nat)):∀(ps ps':List (Nat×ae)) (a a' out:Array ae),PR σ ps ps'->AR σ a a'->Instr.fill oW a ps=some out->
 ∃zg,Instr.fill oW a' ps'=some zg/\AR σ out zg:=by
 intro ps;induction ps with
 |nil=>
  intro ps' a a' out h ha hf;have:ps'=[]:=by have:=h.1;simp at this;exact t7 this.symm
  subst this;simp only[Instr.fill]at hf|-;injection hf with hf;subst hf;exact⟨a',rfl,ha⟩
 |cons p ps ih=>
  intro ps' a a' out h ha hf;obtain⟨v',l',rfl,hv,hl⟩:=h.of_cons;obtain⟨i,v⟩:=p;simp only[Instr.fill]at hf|-;cases hp:oW i with
  |none=>rw[hp]at hf;cases hf
  |some os=>
   obtain⟨off,size⟩:=os;rw[hp]at hf;simp only at hf|-;have pw:v.cells.size=v'.cells.size:=by have:=hv.cells.1;simpa using this
   rw[<-pw,<-ha.size];split at hf
   ·cases hf
   ·rename_i rh;rw[ay rh];refine ih l' _ _ out hl ?_ hf;have:=TJ off v.cells.toList v'.cells.toList 0 a a' hv.cells ha;have e1:∀(u:ae) (b:Array ae),Array.foldl (λcs (x:ae×Nat)=>cs.setIfInBounds (off+x.2) x.1) b u.cells.zipIdx=(u.cells.toList.zipIdx 0).foldl (λcs p=>cs.setIfInBounds (off+p.2) p.1) b:=λu b=>by rw[<-Array.foldl_toList,Array.toList_zipIdx]
    rw[<-e1,<-e1]at this;exact this
section
variable {P:aj} {σ:dj} {W:AW} {w:au}
def kS(P:aj)(t:ai):Option ae:=match(P.info? t).bind (·.zero)with|some z=>if z.cells.toList.all cG then some z else none|none=>none
def gP{t:ai}{z:ae}(h:kS P t=some z)(w:au):(zeroValue t).run P w=.ok z w/\z.cells.toList.all cG=true:=by
 unfold kS at h;split at h
 ·rename_i z0 hz;split at h
  ·rename_i hs;injection h with h;subst h;cases hi:P.info? t with
   |none=>rw[hi]at hz;cases hz
   |some i=>rw[hi]at hz;simp only[bp]at hz;exact⟨by simp[zeroValue,typeInfo,hi,hz],hs⟩
  ·cases h
 ·cases h
def BU{z:ae}(h:z.cells.toList.all cG=true):AR σ z.cells z.cells:=LR.mz (λ_=>eS) h
def oJ(R:ak.Fr)(ps:Array (Nat×aq)):List (Nat×ae):=ps.toList.map λp=>(p.1,aC R p.2)
def zU{R:ak.Fr}{ρ:aq->ae}(ps:Array (Nat×aq))(h:∀p∈ps.toList,VR σ (aC R p.2) (ρ p.2)):
 PR σ (oJ R ps) (ps.map λ(i,x)=>(i,ρ x)).toList:=by
 refine⟨by simp[oJ],λi p p' a b=>?_⟩;simp only[oJ,jh,Array.toList_map]at a b;cases hq:ps.toList[i]? with
 |none=>rw[hq]at a;cases a
 |some q=>rw[hq]at a b;simp at a b;subst a;subst b;exact⟨rfl,h q (qw hq)⟩
def qE(P:aj):List Field->Option (List (Nat×Nat))
 |[]=>some []
 |f::fs=>match lX P f.type,qE P fs with
  |some n,some l=>some ((f.offset,n)::l)
  |_,_=>none
def Hd:∀(fs:List Field) (l:List (Nat×Nat)),qE P fs=some l->∀w,((fs.mapM λf=>do pure (f.offset,<-sizeOf f.type)):Sem (List (Nat×Nat))).run P w=.ok l w:=by
 intro fs;induction fs with
 |nil=>intro l h w;simp only[qE]at h;injection h with h;subst h;simp[List.mapM_nil]
 |cons f fs ih=>
  intro l h w;simp only[qE]at h;split at h
  ·rename_i n m hn hm;injection h with h;subst h;have h2:=ih m hm w;simp only[List.mapM_cons,cJ,bJ hn,cF,fP,h2]
  ·cases h
def Az(vs:List ae):List ae->Option (List ae):=
 List.rec (motive:=λ_=>List ae->Option (List ae)) (λcs=>some cs)
  (λv _ ih cs=>List.rec (motive:=λ_=>Option (List ae)) none (λ_ t _=>Option.rec (motive:=λ_=>Option (List ae)) none (λr=>some (v::r)) (ih t)) cs) vs
def Iv(vs:List ae):∀cs,Az vs cs=if vs.length<=cs.length then some (vs++cs.drop vs.length)else none:=by
 induction vs with
 |nil=>intro cs;simp[Az]
 |cons v vs ih=>
  intro cs;cases cs with
  |nil=>simp[Az]
  |cons c t=>
   show Option.rec (motive:=λ_=>Option (List ae)) none (λr=>some (v::r)) (Az vs t)=_;rw[ih t];by_cases h:vs.length<=t.length
   ·rw[ax h,ax (by simp only[dE];omega)];simp
   ·rw[ay h,ay (by simp only[dE];omega)]
def Gk(cs:List ae):Nat->List ae->Option (List ae):=
 List.rec (motive:=λ_=>Nat->List ae->Option (List ae)) (λn vs=>Nat.rec (motive:=λ_=>Option (List ae)) (Az vs []) (λ_ _=>none) n)
  (λc t ih n vs=>Nat.rec (motive:=λ_=>Option (List ae)) (Az vs (c::t)) (λm _=>Option.rec (motive:=λ_=>Option (List ae)) none (λr=>some (c::r)) (ih m vs)) n) cs
def Ng(cs:List ae):∀(off:Nat) (vs:List ae),Gk cs off vs=if off+vs.length<=cs.length then some (gI cs off vs)else none:=by
 induction cs with
 |nil=>
  intro off vs;cases off with
  |zero=>show Az vs []=_;rw[Iv];simp[gI]
  |succ n=>show(none:Option (List ae))=_;rw[ay (by simp)]
 |cons c t ih=>
  intro off vs;cases off with
  |zero=>show Az vs (c::t)=_;rw[Iv];simp[gI]
  |succ n=>
   show Option.rec (motive:=λ_=>Option (List ae)) none (λr=>some (c::r)) (Gk t n vs)=_;rw[ih n vs];have e:n+1+vs.length=(n+vs.length)+1:=by omega
   by_cases h:n+vs.length<=t.length
   ·rw[ax h,ax (by simp only[dE];omega)];simp[gI,e]
   ·rw[ay h,ay (by simp only[dE];omega)]
def VC(cs:List ae)(o:Nat)(v:ae)(vs:List ae)(h:o+(vs.length+1)<=cs.length):gI (cs.set o v) (o+1) vs=gI cs o (v::vs):=by
 unfold gI;apply rR;intro i;rw[ki _ _ _ (by rw[kp];omega),ki _ _ _ (by simp only[dE];omega)];by_cases h1:i=o
 ·subst h1;rw[b8,ax (by simp only[dE];omega),sa];simp;omega
 ·by_cases h2:o+1<=i/\i<o+1+vs.length
  ·rw[ax h2,ax (by simp only[dE];omega)];obtain⟨k,rfl⟩:∃k,i=o+1+k:=⟨i-(o+1),by omega⟩;rw[show o+1+k-(o+1)=k by omega,show o+1+k-o=k+1 by omega,DA]
  ·rw[ay h2,ay (by simp only[dE];omega),sa,ay (λe=>h1 e.symm)]
def Gd(off:Nat):∀(vs:List ae) (k:Nat) (cells:Array ae),off+k+vs.length<=cells.size->
 (List.foldl (λ(cs:Array ae) (p:ae×Nat)=>cs.setIfInBounds (off+p.2) p.1) cells (vs.zipIdx k)).toList=gI cells.toList (off+k) vs
 |[],k,cells,_=>by simp[gI]
 |v::vs,k,cells,h=>by rw[List.zipIdx_cons,List.foldl_cons,Gd off vs (k+1) _ (by simp only[Array.size_setIfInBounds];simp only[dE]at h;omega)];rw[G9];exact VC _ _ _ _ (by simp only[dE]at h;simp;omega)
def F5(oW:Nat->Option (Nat×Nat)):List (Nat×ae)->List ae->Option (List ae)
 |[],cells=>some cells
 |(i,v)::iZ,cells=>match oW i with
  |none=>none
  |some (off,size)=>match Nat.beq v.cells.size size with
   |true=>(match Gk cells off v.cells.toList with
    |some c=>F5 oW iZ c
    |none=>none)
   |false=>none
def AZ(oW:Nat->Option (Nat×Nat))(cells:Array ae)(l:List (Nat×ae)):Option (Array ae):=(F5 oW l cells.toList).map List.toArray
def Dc(oW:Nat->Option (Nat×Nat)):∀(l:List (Nat×ae)) (cells:Array ae),AZ oW cells l=Instr.fill oW cells l
 |[],cells=>by simp[AZ,F5,Instr.fill]
 |(i,v)::iZ,cells=>by
  unfold Instr.fill;show(F5 oW ((i,v)::iZ) cells.toList).map List.toArray=_;unfold F5;cases oW i with
  |none=>rfl
  |some p=>
   obtain⟨off,size⟩:=p;simp only;by_cases hs:v.cells.size=size
   ·have hb:Nat.beq v.cells.size size=true:=by rw[eM];exact hs
    rw[hb];simp only;rw[Ng];by_cases hl:off+v.cells.size<=cells.size
    ·rw[ax (by simpa using hl),ay (by simp[hs];omega)];simp only;rw[<-Dc oW iZ];show _=(F5 oW iZ _).map List.toArray;congr 2;have hf:=Gd off v.cells.toList 0 cells (by simpa using hl);rw[cC]at hf;rw[<-hf,<-Array.foldl_toList,Array.toList_zipIdx]
    ·rw[ay (by simpa using hl),ax (by simp[hs];omega)];rfl
   ·have hb:Nat.beq v.cells.size size=false:=by
     cases hq:Nat.beq v.cells.size size with
     |false=>rfl
     |true=>exact absurd (uN hq) hs
    rw[hb,ax (by simp[hs])];rfl
def wi(P:aj)(R:ak.Fr)(t:ai)(ps:Array (Nat×aq)):Option ae:=
 match kS P t,P.underlying t with
 |some z,some (.struct fs)=>match qE P fs.toList with
  |some pl=>(AZ (pl.toArray[·]?) z.cells (oJ R ps)).map .agg
  |none=>none
 |some z,some (.array _ e)=>match lX P e with
  |some n=>(AZ (λi=>some (i*n,n)) z.cells (oJ R ps)).map .agg
  |none=>none
 |_,_=>none
def MD{R:ak.Fr}{ρ:aq->ae}{t:ai}{ps:Array (Nat×aq)}{v:ae}(h:wi P R t ps=some v)
 (hρ:∀p∈ps.toList,VR σ (aC R p.2) (ρ p.2))(w:au):
 ∃v',(Instr.build t (ps.map λ(i,x)=>(i,ρ x))).run P w=.ok v' w/\VR σ v v':=by
 have hp:=zU (σ:=σ) (R:=R) (ρ:=ρ) ps hρ;unfold wi at h;simp only[Dc]at h;split at h
 ·rename_i z fs hz hu;obtain⟨yK,BL⟩:=gP hz w;split at h
  ·rename_i pl oa;cases hf:Instr.fill (pl.toArray[·]?) z.cells (oJ R ps)with
   |none=>rw[hf]at h;cases h
   |some out=>
    rw[hf]at h;simp only[cS,gJ]at h;subst h;obtain⟨zg,h1,h2⟩:=yl _ _ _ _ _ _ hp (BU BL) hf;have hm:=Hd fs.toList pl oa w;refine⟨.agg zg,?_,VR.Ny h2⟩;have hm':((fs.mapM λf=>do pure (f.offset,<-sizeOf f.type)):Sem (Array (Nat×Nat))).run P w=.ok pl.toArray w:=by rw[Array.mapM_eq_mapM_toList];simp only[Sem.run_map,hm,cF]
    simp only[Instr.build,cJ,yK,cF,bU hu,hm',h1,fP]
  ·cases h
 ·rename_i z len e hz hu;obtain⟨yK,BL⟩:=gP hz w;split at h
  ·rename_i n hn;cases hf:Instr.fill (λi=>some (i*n,n)) z.cells (oJ R ps)with
   |none=>rw[hf]at h;cases h
   |some out=>rw[hf]at h;simp only[cS,gJ]at h;subst h;obtain⟨zg,h1,h2⟩:=yl _ _ _ _ _ _ hp (BU BL) hf;exact⟨.agg zg,by simp only[Instr.build,cJ,yK,cF,bU hu,bJ hn,h1,fP],VR.Ny h2⟩
  ·cases h
 ·cases h
def H5(z:ae)(n:Nat):Array ae:=(Array.range n).map (z.cells[· % z.cells.size]!)
def jp(z:ae)(n:Nat):Array ae:=if n=0 then#[]else H5 z n
def sS{z:ae}{n:Nat}(h:n=0):jp z n=#[]:=ax h
def uG{z:ae}{n:Nat}(h:n≠0):jp z n=H5 z n:=ay h
def nz(P:aj)(R:ak.Fr)(W:AW)(t:ai)(len:Nat)(ps:Array (Nat×aq)):Option (ae×AW):=
 match P.underlying t with
 |some (.slice e)=>match lX P e,kS P e with
  |some n,some z=>
   if len*n<=16777216/\len<gU/\(jp z (len*n)).toList.all cG=true then
    match Instr.fill (λi=>some (i*n,n)) (jp z (len*n)) (oJ R ps)with
    |some c=>some (W.new (.cells c.toList) λb W'=>(Value.slice (some ⟨b,0,none⟩) len len,W'))
    |none=>none
   else none
  |_,_=>none
 |_=>none
def Bt(cs:List ae)(len:Nat):List ae:=Nat.rec (motive:=λ_=>List ae) [] (λ_ ih=>cs++ih) len
def Kd(cs:List ae):∀(len i:Nat),i<len*cs.length->(Bt cs len)[i]? =cs[i % cs.length]?
 |0,i,h=>by simp at h
 |len+1,i,h=>by
  show(cs++Bt cs len)[i]? =_;by_cases hi:i<cs.length
  ·rw[tB hi,Nat.mod_eq_of_lt hi]
  ·have h1:len*cs.length+cs.length=(len+1)*cs.length:=by rw[Nat.add_mul,Nat.one_mul]
   rw[gb (by omega),Kd cs len (i-cs.length) (by omega)];congr 1;have h2:i=(i-cs.length)+cs.length:=by omega
   generalize i-cs.length=j at h2;rw[h2,Nat.add_mod_right]
def tH(cs:List ae):∀len,(Bt cs len).length=len*cs.length
 |0=>by show([]:List ae).length=_;simp
 |len+1=>by show(cs++Bt cs len).length=_;rw[cK,tH cs len,Nat.add_mul,Nat.one_mul,Nat.add_comm]
def Cs(cs:List ae)(p:ae->Bool)(h:cs.all p=true):∀len,(Bt cs len).all p=true
 |0=>rfl
 |len+1=>by show(cs++Bt cs len).all p=true;rw[List.all_append,h,Cs cs p h len];rfl
def IJ{z:ae}{len n:Nat}(hn:z.cells.size=n):jp z (len*n)=(Bt z.cells.toList len).toArray:=by
 have hl:z.cells.toList.length=n:=by simpa using hn
 apply Array.ext';apply rR;intro i;unfold jp;split
 ·rename_i h0;have:(Bt z.cells.toList len).length=0:=by rw[tH,hl,h0]
  rw[jR.1 this]
 ·rename_i h0;by_cases hi:i<len*n
  ·have e1:(H5 z (len*n)).toList[i]? =some (z.cells[i % z.cells.size]!):=by simp[H5,hi]
   have zt:0<n:=by
    rcases Nat.eq_zero_or_pos n with h|h
    ·subst h;simp at h0
    ·exact h
   have hm:i % n<z.cells.size:=by rw[hn];exact Nat.mod_lt _ zt
   rw[e1,BT,Kd _ _ _ (by rw[hl];exact hi),hl,hn];simp[hm]
  ·rw[rK (by simp[H5];omega),BT,rK (by rw[tH,hl];omega)]
def jV(P:aj)(R:ak.Fr)(W:AW)(t:ai)(len:Nat)(ps:Array (Nat×aq)):Option (ae×AW):=
 match P.underlying t with
 |some (.slice e)=>match lX P e,kS P e with
  |some n,some z=>
   if len*n<=16777216/\len<gU/\(Nat.beq z.cells.size n&&z.cells.toList.all cG)=true then
    match AZ (λi=>some (i*n,n)) (Bt z.cells.toList len).toArray (oJ R ps)with
    |some c=>some (W.new (.cells c.toList) λb W'=>(Value.slice (some ⟨b,0,none⟩) len len,W'))
    |none=>none
   else none
  |_,_=>none
 |_=>none
def tb{P:aj}{R:ak.Fr}{W:AW}{t:ai}{len:Nat}{ps:Array (Nat×aq)}{r:ae×AW}(h:jV P R W t len ps=some r):nz P R W t len ps=some r:=by
 unfold jV at h;simp only[Dc]at h;unfold nz;revert h;generalize P.underlying t=u;intro h;split at h
 ·rename_i e;revert h;generalize lX P e=x;generalize kS P e=y;intro h;split at h
  ·rename_i n z;split at h
   ·rename_i hc;obtain⟨hc1,Q9,Ti⟩:=hc;rw[bK,eM]at Ti;have Ts:=IJ (len:=len) Ti.1;try simp only
    rw[Ts,ax ⟨hc1,Q9,by rw[BT];exact Cs _ _ Ti.2 _⟩];exact h
   ·cases h
  ·cases h
 ·cases h
def A9(hW:bt σ W w.heap){R:ak.Fr}{ρ:aq->ae}{t:ai}{len:Nat}{ps:Array (Nat×aq)}{v:ae}{W':AW}
 (h:jV P R W t len ps=some (v,W'))(hρ:∀p∈ps.toList,VR σ (aC R p.2) (ρ p.2)):
 ∃σ' v' w',(Instr.buildSlice t len (ps.map λ(i,x)=>(i,ρ x))).run P w=.ok v' w'/\VR σ' v v'/\bt σ' W' w'.heap/\eW σ W w σ' W' w':=by
 have hp:=zU (σ:=σ) (R:=R) (ρ:=ρ) ps hρ;replace h:=tb h;unfold nz at h;split at h
 ·rename_i e hu;split at h
  ·rename_i n z hn hz;obtain⟨yK,BL⟩:=gP hz w;split at h
   ·rename_i hc;obtain⟨hc1,Q9,Ti⟩:=hc;split at h
    ·rename_i c hf;injection h with h;rw[AW.dG]at h;injection h with hv hw;obtain⟨zg,h1,h2⟩:=yl _ _ _ _ _ _ hp (LR.mz (σ:=σ) (λ_=>eS) Ti) hf;have Ai:=wC (P:=P) hW e (cs:=c.toList) (cP:=zg.toList) h2;refine⟨_,.slice (some ⟨w.heap.size,0,none⟩) len len,{w with heap:=w.heap.push (.cells zg.toList.toArray e)},?_,?_,by rw[<-hw];exact Ai.2.2.1,by rw[<-hw];exact Ai.2.2.2⟩
     ·show(Instr.buildSlice t len _).run P w=.ok (.slice (some ⟨w.heap.size,0,none⟩) len len) _;have SO:¬len*n>2^ 24:=by omega
      have GC:=Ai.1;simp only[ic]at GC;by_cases h0:len*n=0
      ·rw[sS h0]at h1;simp only[Instr.buildSlice,cJ,bU hu,cF,bJ hn,ay SO,fP,ax h0];rw[show(Array.map (λx=>(#[]:Array ae)[x % (#[]:Array ae).size]!) (Array.range (len*n)))=#[]by rw[h0];simp,h1];simp[GC]
      ·rw[uG h0]at h1;simp only[Instr.buildSlice,cJ,bU hu,cF,bJ hn,ay SO,fP,ay h0,yK];rw[show(Array.map (λx=>z.cells[x % z.cells.size]!) (Array.range (len*n)))=H5 z (len*n)from rfl,h1];simp[GC]
     ·rw[<-hv];have:=VR.slice (σ:=cq σ W.next ⟨w.heap.size,0,c.toList.length⟩) ⟨W.next,0,none⟩ len len len _ Ai.2.1 rfl (.known len Q9);simpa using this
    ·cases h
   ·cases h
  ·cases h
 ·cases h
def lM(P:aj)(W:AW)(t:ai)(l c:ae):Option (ae×AW):=
 match P.underlying t with
 |some (.slice e)=>match lX P e,kS P e,(P.info? e).map (·.bytes),l,c with
  |some n,some z,some bytes,.int _ (.ofNat l),.int _ (.ofNat c)=>
   if l<=c/\c<9223372036854775808/\c*bytes<=281474976710656/\(jp z (c*n)).toList.all cG=true then
    some (W.new (.cells (jp z (c*n)).toList) λb W'=>(Value.slice (some ⟨b,0,none⟩) l c,W'))
   else none
  |_,_,_,_,_=>none
 |_=>none
def w3{n:Nat}(h:n<9223372036854775808):IntKind.i64.wrap (n:Int)=n:=by
 have e1:IntKind.i64.bits=64:=rfl;have e2:IntKind.i64.signed=true:=rfl;simp only[IntKind.wrap,e1,e2];have:(n:Int) % (2^ 64:Int)=n:=by omega
 rw[this];simp;omega
def CS(hW:bt σ W w.heap){t:ai}{l l' c c':ae}{v:ae}{W':AW}
 (h:lM P W t l c=some (v,W'))(hl:VR σ l l')(hc:VR σ c c'):
 ∃σ' v' w',(Instr.makeSlice t l' c').run P w=.ok v' w'/\VR σ' v v'/\bt σ' W' w'.heap/\eW σ W w σ' W' w':=by
 unfold lM at h;split at h
 ·rename_i e hu;split at h
  ·rename_i n z bytes kl l kc c hn hz hb;cases hl;cases hc;obtain⟨yK,BL⟩:=gP hz w;split at h
   ·rename_i rh;obtain⟨c1,c2,c3,c4⟩:=rh;injection h with h;rw[AW.dG]at h;injection h with hv hw;have hi:∃i,P.info? e=some i/\i.bytes=bytes:=by
     cases hi:P.info? e with
     |none=>rw[hi]at hb;cases hb
     |some i=>rw[hi]at hb;simp at hb;exact⟨i,rfl,hb⟩
    obtain⟨i,hi,W8⟩:=hi;have Ts:LR σ (jp z (c*n)).toList (jp z (c*n)).toList:=
     LR.mz (λ_=>eS) c4
    have Ai:=wC (P:=P) hW e Ts;refine⟨_,.slice (some ⟨w.heap.size,0,none⟩) l c,{w with heap:=w.heap.push (.cells (jp z (c*n)).toList.toArray e)},?_,?_,by rw[<-hw];exact Ai.2.2.1,by rw[<-hw];exact Ai.2.2.2⟩
    ·show(Instr.makeSlice t _ _).run P w=.ok (.slice (some ⟨w.heap.size,0,none⟩) l c) _;have hwl:IntKind.i64.wrap (Int.ofNat l)=(l:Int):=w3 (by omega);have hwc:IntKind.i64.wrap (Int.ofNat c)=(c:Int):=w3 c2;have Dn:(typeInfo e).run P w=.ok i w:=by simp[typeInfo,hi]
     have ahN:(bytes:Int)*(c:Int)<=281474976710656:=by
      have:((c*bytes:Nat):Int)<=281474976710656:=by omega
      rw[Int.natCast_mul,Int.mul_comm]at this;exact this
     have GC:=Ai.1;simp only[ic]at GC;have NE:¬(((decide ((c:Int)<0)||decide ((i.bytes:Int)*(c:Int)>2^ 48))||decide ((l:Int)<0)||decide ((l:Int)>(c:Int)))=true):=by rw[W8];simp;omega
     simp only[Instr.makeSlice,cJ,bU hu,cF,asInt,asIntOf,fP,Dn,hwl,hwc];rw[ay (by simpa using NE)];by_cases h0:c*n=0
     ·rw[sS h0]at GC|-;simp only[cJ,run_askRoom,cF,oY,bJ hn,ax h0,fP];rw[show(Array.map (λx=>(#[]:Array ae)[x % (#[]:Array ae).size]!) (Array.range (c*n)))=#[]by rw[h0];simp,GC];simp
     ·rw[uG h0]at GC|-;simp only[cJ,run_askRoom,cF,oY,bJ hn,ay h0,yK,fP];rw[show(Array.map (λx=>z.cells[x % z.cells.size]!) (Array.range (c*n)))=H5 z (c*n)from rfl,GC];simp
    ·rw[<-hv];have:=VR.slice (σ:=cq σ W.next ⟨w.heap.size,0,(jp z (c*n)).toList.length⟩) ⟨W.next,0,none⟩ l c c _ Ai.2.1 rfl (.known c (by unfold gU;omega));simpa using this
   ·cases h
  ·cases h
 ·cases h
end
end
section
variable [ak]
def OR(σ:dj):Option ae->Option ae->Prop
 |none,none=>True
 |some v,some v'=>VR σ v v'
 |_,_=>False
def lD:ae->Option Nat
 |.int _ (.ofNat n)=>some n
 |_=>none
def gu(v:Option ae)(d:Nat):Option Nat:=match v with|none=>some d|some v=>lD v
def uW{σ:dj}{v v':ae}{n:Nat}(h:lD v=some n)(hv:VR σ v v'):∃k,v'=.int k (n:Int):=by
 unfold lD at h;split at h
 ·injection h with h;subst h;cases hv;exact⟨_,rfl⟩
 ·cases h
section
variable {P:aj} {σ:dj} {W:AW} {w:au}
def kG(k:aV)(n y:Nat)(ue:BoundsCode)(h:n<=y)(w:au):(Instr.sliceBound (.int k (n:Int)) y ue).run P w=.ok n w:=by
 have:0<=(n:Int)/\(n:Int)<=(y:Int):=by omega
 simp[Instr.sliceBound,asIntOf,this]
def ni(sl:Bool)(len cap:Nat){lo hi mx Zg qC mx':Option ae}{l h m:Nat}(h1:OR σ lo Zg)(h2:OR σ hi qC)(h3:OR σ mx mx')
 (hl:gu lo 0=some l)(hh:gu hi len=some h)(hm:gu mx cap=some m)(hmx:mx.isSome=true->hi.isSome=true)
 (a1:l<=h)(a2:hi.isSome=true->h<=m)(a3:m<=cap)(w:au):(Instr.sliceBounds sl len cap Zg qC mx').run P w=.ok (l,h,m) w:=by
 have one:∀{v v':Option ae} {d n:Nat},OR σ v v'->gu v d=some n->(v=none/\v'=none/\n=d)\/(v.isSome=true/\∃k,v'=some (.int k (n:Int))):=by
  intro v v' d n ho hb;cases v with
  |none=>cases v' with
   |none=>simp only[gu]at hb;injection hb with hb;exact .inl ⟨rfl,rfl,hb.symm⟩
   |some v'=>exact ho.elim
  |some v=>cases v' with
   |none=>exact ho.elim
   |some v'=>obtain⟨k,rfl⟩:=uW hb ho;exact .inr ⟨rfl,k,rfl⟩
 have hA:∀k ue,(Instr.sliceBound (.int k (m:Int)) cap ue).run P w=.ok m w:=λk ue=>kG k m cap ue a3 w
 have hC:∀k ue,(Instr.sliceBound (.int k (l:Int)) h ue).run P w=.ok l w:=λk ue=>kG k l h ue a1 w
 rcases one h3 hm with⟨e1,rfl,e3⟩|⟨e1,k3,rfl⟩
 ·subst e3;rcases one h2 hh with⟨f1,rfl,f3⟩|⟨f1,k2,rfl⟩
  ·subst f3;rcases one h1 hl with⟨g1,rfl,g3⟩|⟨g1,k1,rfl⟩
   ·subst g3;simp[Instr.sliceBounds]
   ·simp[Instr.sliceBounds,hC]
  ·have hB:∀ue,(Instr.sliceBound (.int k2 (h:Int)) m ue).run P w=.ok h w:=λue=>kG k2 h m ue (a2 f1) w
   rcases one h1 hl with⟨g1,rfl,g3⟩|⟨g1,k1,rfl⟩
   ·subst g3;simp[Instr.sliceBounds,hB]
   ·simp[Instr.sliceBounds,hB,hC]
 ·rcases one h2 hh with⟨f1,rfl,f3⟩|⟨f1,k2,rfl⟩
  ·subst f1;exact absurd (hmx e1) (by simp)
  ·have hB:∀ue,(Instr.sliceBound (.int k2 (h:Int)) m ue).run P w=.ok h w:=λue=>kG k2 h m ue (a2 f1) w
   rcases one h1 hl with⟨g1,rfl,g3⟩|⟨g1,k1,rfl⟩
   ·subst g3;simp[Instr.sliceBounds,hA,hB]
   ·simp[Instr.sliceBounds,hA,hB,hC]
def mS(P:aj)(t:ai)(x:ae)(lo hi mx:Option ae):Option ae:=
 match P.underlying t,x with
 |some (.slice e),.slice (some a) len cap=>
  match lX P e,gu lo 0,gu hi len with
  |some z,some l,some h=>
   if l<=h then
    match mx with
    |none=>
     if cap=gU+z/\0<z then(if h<=len then some (.slice (some (a.add (l*z))) (h-l) cap)else none)
     else if cap<gU/\h<=cap then some (.slice (some (if cap=l then a else a.add (l*z))) (h-l) (cap-l))else none
    |some mv=>match gu (some mv) 0 with
     |some m=>if hi.isSome=true/\h<=m/\m<gU/\((cap=gU+z/\0<z/\m<=len)\/(cap<gU/\m<=cap))then some (.slice (some (if m=l then a else a.add (l*z))) (h-l) (m-l))else none
     |none=>none
   else none
  |_,_,_=>none
 |some (.slice e),.slice none len cap=>
  match lX P e,gu lo 0,gu hi len,mx with
  |some _,some l,some h,none=>if l<=h/\h<=cap then some (.slice none (h-l) (cap-l))else none
  |_,_,_,_=>none
 |some (.array n e),.pointer (some a)=>
  match lX P e,gu lo 0,gu hi n,mx with
  |some z,some l,some h,none=>if l<=h/\h<=n/\n<gU then some (.slice (some (if n=l then a else a.add (l*z))) (h-l) (n-l))else none
  |_,_,_,_=>none
 |_,_=>none
def Hs.inv{g:tu}{off l c c':Nat}(h:Hs g off l c c'):(c<gU/\c'=c)\/∃z,0<z/\c=gU+z/\l<=c'/\g.s+off+c'*z=g.e:=by
 cases h with
 |known _ h=>exact .inl ⟨h,rfl⟩
 |open_ z _ hz hl h=>exact .inr ⟨z,hz,rfl,hl,h⟩
def Hs.max{g:tu}{off l c c':Nat}(h:Hs g off l c c'):c'<gU/\(gU<=c->c'<=maxLen):=by
 cases h with
 |known _ h=>exact⟨h,λx=>absurd x (by omega)⟩
 |open_ z _ hz hl h hb=>exact⟨by unfold maxLen at hb;unfold gU;omega,λ_=>hb⟩
def MI{t:ai}{x x' v:ae}{lo hi mx Zg qC mx':Option ae}(h:mS P t x lo hi mx=some v)(hx:VR σ x x')
 (h1:OR σ lo Zg)(h2:OR σ hi qC)(h3:OR σ mx mx')(w:au):∃v',(Instr.sliceAt t x' Zg qC mx').run P w=.ok v' w/\VR σ v v':=by
 unfold mS at h;split at h
 ·rename_i e a len cap hu;split at h
  ·rename_i z l hh hz vJ hhi;split at h
   ·rename_i hlh;have run:∀(A':Option aW) (Cu m:Nat),gu mx Cu=some m->(mx.isSome=true->hi.isSome=true)->(hi.isSome=true->hh<=m)->m<=Cu->
     (Instr.sliceAt t (.slice A' len Cu) Zg qC mx').run P w=.ok (.slice (if m=l then A' else A'.map (·.add (l*z))) (hh-l) (m-l)) w:=by
     intro A' Cu m b1 b2 b3 b4;have hb:=ni (P:=P) true len Cu h1 h2 h3 vJ hhi b1 b2 hlh b3 b4 w;simp only[Instr.sliceAt,cJ,bU hu,cF,Instr.slice,hb,bJ hz,fP]
    cases mx with
    |none=>
     simp only at h;split at h
     ·rename_i sV;obtain⟨rfl,Rn⟩:=sV;split at h
      ·rename_i a8;injection h with h;subst h;cases hx with
       |slice _ _ _ c' g hg hs hc=>
        rcases hc.inv with⟨hk,_⟩|⟨z',yK,hzz,hlc,wB⟩
        ·exact absurd hk (by omega)
        ·refine⟨_,run (some _) c' c' rfl (by simp) (λ_=>by omega) (aP _),?_⟩;by_cases qF:c'=l
         ·subst qF;have:hh-c'=0:=by omega
          rw[this,pT,ax rfl];exact .dH _ _ _ g (by simpa[gL]using hg) (.inr (by omega))
         ·rw[ay qF];simp only[cS,dV];have alV:z=z':=by omega
          subst alV;have:=VR.slice (σ:=σ) (a.add (l*z)) (hh-l) (gU+z) (c'-l) g (by rw[gL];exact hg) (oN _ _ hs)
           (by rw[pJ];refine .open_ z _ Rn (by omega) ?_ (gQ (Nat.sub_le _ _) (hc.max.2 (by omega)));rw[Nat.sub_mul];have:l*z<=c'*z:=rJ _ (by omega);omega)
          rw[pJ]at this;simpa[nh]using this
       |dH _ a' _ g hg hc=>
        have Ie:hh=0:=by omega
        have JG:l=0:=by omega
        subst Ie;subst JG;refine⟨_,run (some a') 0 0 rfl (by simp) (λ_=>by omega) (aP _),?_⟩;simp only[bh];exact .dH _ _ _ g (by simpa[gL]using hg) (.inr (by omega))
      ·cases h
     ·split at h
      ·rename_i vN o5;injection h with h;subst h;cases hx with
       |slice _ _ _ c' g hg hs hc=>
        rcases hc.inv with⟨hk,rfl⟩|⟨z',yK,hzz,hlc,wB⟩
        ·refine⟨_,run (some _) c' c' rfl (by simp) (λ_=>o5.2) (aP _),?_⟩;by_cases qF:c'=l
         ·subst qF;simp only[bh];exact .slice a _ _ _ g hg hs (.known _ (by omega))
         ·rw[ay qF,ay qF];simp only[cS,dV];have:=VR.slice (σ:=σ) (a.add (l*z)) (hh-l) (c'-l) (c'-l) g (by rw[gL];exact hg) (oN _ _ hs) (.known _ (by omega));rw[pJ]at this;simpa[nh]using this
        ·exact absurd o5.1 (by omega)
       |dH _ a' _ g hg hc=>
        have XO:cap=0:=by omega
        subst XO;have Ie:hh=0:=by omega
        have JG:l=0:=by omega
        subst Ie;subst JG;refine⟨_,run (some a') 0 0 rfl (by simp) (λ_=>by omega) (aP _),?_⟩;simp only[bh];exact .dH _ _ _ g (by simpa[gL]using hg) (.inl rfl)
      ·cases h
    |some mv=>
     simp only at h;split at h
     ·rename_i m hm;split at h
      ·rename_i rh;obtain⟨c1,c2,c3,c4⟩:=rh;injection h with h;subst h;cases hx with
       |slice _ _ _ c' g hg hs hc=>
        have hmc:m<=c':=by rcases hc.inv with⟨hk,_⟩|⟨z',yK,hzz,hlc,wB⟩<;>omega
        refine⟨_,run (some _) c' m hm (λ_=>c1) (λ_=>c2) hmc,?_⟩;by_cases qF:m=l
        ·subst qF;simp only[bh];exact .slice a _ _ _ g hg hs (.known _ (by omega))
        ·rw[ay qF,ay qF];simp only[cS,dV];have:=VR.slice (σ:=σ) (a.add (l*z)) (hh-l) (m-l) (m-l) g (by rw[gL];exact hg) (oN _ _ hs) (.known _ (by omega));rw[pJ]at this;simpa[nh]using this
       |dH _ a' _ g hg hc=>
        have hm0:m=0:=by omega
        subst hm0;have Ie:hh=0:=by omega
        have JG:l=0:=by omega
        subst Ie;subst JG;refine⟨_,run (some a') 0 0 hm (λ_=>c1) (λ_=>by omega) (aP _),?_⟩;simp only[bh];exact .dH _ _ _ g (by simpa[gL]using hg) (.inl rfl)
      ·cases h
     ·cases h
   ·cases h
  ·cases h
 ·rename_i e len cap hu;split at h
  ·rename_i z l hh hz vJ hhi;split at h
   ·rename_i hc;injection h with h;subst h;cases hx;have hb:=ni (P:=P) (mx:=none) true len cap h1 h2 h3 vJ hhi rfl (by simp) hc.1 (λ_=>hc.2) (aP _) w;refine⟨.slice none (hh-l) (cap-l),?_,.DE _ _⟩;simp only[Instr.sliceAt,cJ,bU hu,cF,Instr.slice,hb,bJ hz,fP];simp
   ·cases h
  ·cases h
 ·rename_i n e a hu;split at h
  ·rename_i z l hh hz vJ hhi;split at h
   ·rename_i hc;injection h with h;subst h;cases hx with
    |ptr _ g hg hs=>
     have hb:=ni (P:=P) (mx:=none) false n n h1 h2 h3 vJ hhi rfl (by simp) hc.1 (λ_=>hc.2.1) (aP _) w;refine⟨.slice (some (if n=l then⟨g.B,g.s+a.off,none⟩else(⟨g.B,g.s+a.off,none⟩:aW).add (l*z))) (hh-l) (n-l),?_,?_⟩
     ·simp only[Instr.sliceAt,cJ,bU hu,cF,Instr.sureAddr,fP,hb,bJ hz]
     ·by_cases qF:n=l
      ·subst qF;simp only[bh];exact .slice a _ _ _ g hg hs (.known _ (by omega))
      ·rw[ay qF,ay qF];simp only[dV];have:=VR.slice (σ:=σ) (a.add (l*z)) (hh-l) (n-l) (n-l) g (by rw[gL];exact hg) (oN _ _ hs) (.known _ (by omega));rw[pJ]at this;simpa[nh]using this
   ·cases h
  ·cases h
 ·cases h
end
end
section
variable [ak]
section
variable {P:aj} {σ:dj} {W:AW} {w w':au}
def bt.HE(h:bt σ W w.heap){b off:Nat}{o o':eF}{g:tu}(hb:W.get b=some o)(pM:∀cs,o≠ .ro cs)(hg:σ b=some g)
 (qD:w'.heap.size=w.heap.size)(Ss:w'.os=w.os)(SP:w'.tape=w.tape)(zQ:w'.output=w.output)
 (ji:∀B,B≠g.B->w'.heap[B]? =w.heap[B]?)
 {c c':Array ae}{t:ai}(hc:w.heap[g.B]? =some (.cells c t (0,0)))(sX:w'.heap[g.B]? =some (.cells c' t (0,0)))(pw:c'.size=c.size)
 (uC:∀i,i<g.s+off\/g.e<=i->c'[i]? =c[i]?)
 (mT:lO (cq σ W.next ⟨g.B,g.s+off,g.e⟩) w'.heap ⟨g.B,g.s+off,g.e⟩ o'):
 bt (cq σ W.next ⟨g.B,g.s+off,g.e⟩) ((W.kill b).add o') w'.heap/\eW σ W w (cq σ W.next ⟨g.B,g.s+off,g.e⟩) ((W.kill b).add o') w':=by
 have Eu:=h.fresh;have hs:Sub σ (cq σ W.next ⟨g.B,g.s+off,g.e⟩):=dD Eu;have OP:=h.pd b g hg;have hk:∀c o,c≠W.next->((W.kill b).add o').get c=some o->c≠b/\W.get c=some o:=λc o hcn hx=>by
  rw[AW.br _ _ (by rw[AW.eK];exact bL hcn)]at hx;by_cases Ev:c=b
  ·subst Ev;rw[AW.xD]at hx;cases hx
  ·rw[AW.eD _ (bL Ev)]at hx;exact⟨Ev,hx⟩
 have aii:((W.kill b).add o').get W.next=some o':=AW.aT (W.kill b) _;have oc:∀c k,cq σ W.next ⟨g.B,g.s+off,g.e⟩ c=some k->(c=W.next/\k=⟨g.B,g.s+off,g.e⟩)\/(c≠W.next/\σ c=some k):=λc k hx=>by
  unfold cq at hx;split at hx
  ·rename_i he;injection hx with hx;exact .inl ⟨he,hx.symm⟩
  ·rename_i he;exact .inr ⟨he,hx⟩
 have abw:∀cs,W.get b≠some (.ro cs):=λcs hx=>by rw[hb]at hx;injection hx with hx;exact pM cs hx
 refine⟨⟨?_,?_,?_,?_⟩,⟨hs,?_,?_,Ss,SP,zQ,?_,?_,?_⟩⟩
 ·intro x hx;have DG:W.next+1<=x:=hx;cases hy:((W.kill b).add o').get x with
  |none=>rfl
  |some o=>have:=(hk x o (by omega) hy).2;rw[h.free x (by omega)]at this;cases this
 ·intro x k hx;rcases oc x k hx with⟨rfl,rfl⟩|⟨_,h2⟩
  ·exact⟨Nat.lt_succ_self _,by rw[qD];exact OP.2⟩
  ·have:=h.pd x k h2;exact⟨Nat.lt_succ_of_lt this.1,by rw[qD];exact this.2⟩
 ·intro x o2 k hx hy;rcases oc x k hy with⟨rfl,rfl⟩|⟨h1,h2⟩
  ·rw[aii]at hx;injection hx with hx;subst hx;exact mT
  ·obtain⟨SA,hxg⟩:=hk x o2 h1 hx;refine lO.mono hs ?_;have fd:=h.obj x o2 k hxg h2;by_cases hB:k.B=g.B
   ·have hd:=h.pn x b o2 _ k g SA hxg hb h2 hg (rwR pM);have ie:k.e<=g.s\/g.e<=k.s:=hd.resolve_left (λfk=>fk hB);cases o2 with
    |cells E3=>obtain⟨c0,t0,ZI,e1,e0,e2,e3,e4⟩:=fd;rw[hB,hc]at e1;injection e1 with e1;injection e1 with e1 XJ;subst e1;refine⟨c',t,(0,0),by rw[hB];exact sX,λ_=>rfl,e2,by omega,λi v hv=>?_⟩;obtain⟨v',f1,f2⟩:=e4 i v hv;have hi:i<E3.length:=(du.1 hv).1;exact⟨v',by rw[uC _ (by omega)];exact f1,f2⟩
    |ro E3=>obtain⟨c0,t0,fr,e1,e2,e3⟩:=fd;rw[hB,hc]at e1;injection e1 with e1;injection e1 with e1 XJ;subst e1;refine⟨c',t,(0,0),by rw[hB];exact sX,e2,λi v hv=>?_⟩;have hi:i<E3.length:=(du.1 hv).1;obtain⟨v',f1,f2⟩:=e3 i v hv;exact⟨v',by rw[uC _ (by omega)];exact f1,f2⟩
    |map es j5=>obtain⟨_,_,gj,e1,_⟩:=fd;rw[hB,hc]at e1;cases e1
    |loop st mJ R nt ps asC bd=>obtain⟨_,_,r,e1,_⟩:=fd;rw[hB,hc]at e1;cases e1
    |mF s pos=>obtain⟨_,_,e1⟩:=fd;rw[hB,hc]at e1;cases e1
    |tc t2 E3=>obtain⟨a1,a2,a3,c0,e1,e2,e3,e4⟩:=fd;rw[hB,hc]at e1;injection e1 with e1;injection e1 with e1 XJ;subst e1;subst XJ;refine⟨a1,a2,a3,c',by rw[hB];exact sX,e2,by omega,λi v hv=>?_⟩;obtain⟨v',f1,f2⟩:=e4 i v hv;have hi:i<E3.length:=(du.1 hv).1;exact⟨v',by rw[uC _ (by omega)];exact f1,f2⟩
   ·exact fd.same (ji _ hB)
 ·intro b1 b2 o1 o2 g1 g2 fk h1 h2 k1 k2 hr;have sub:∀x o2 k,x≠W.next->((W.kill b).add o').get x=some o2->σ x=some k->g.B≠k.B\/g.e<=k.s\/k.e<=g.s+off:=λx o2 k hxn hx hxk=>by
   obtain⟨SA,hxg⟩:=hk x o2 hxn hx;rcases h.pn b x _ o2 g k (bL SA) hb hxg hg hxk (rwL pM)with r|r|r
   ·exact .inl r
   ·exact .inr (.inl r)
   ·exact .inr (.inr (by omega))
  rcases oc b1 g1 k1 with⟨rfl,rfl⟩|⟨x1,y1⟩
  ·rcases oc b2 g2 k2 with⟨rfl,rfl⟩|⟨x2,y2⟩
   ·exact absurd rfl fk
   ·exact sub b2 o2 g2 x2 h2 y2
  ·rcases oc b2 g2 k2 with⟨rfl,rfl⟩|⟨x2,y2⟩
   ·rcases sub b1 o1 g1 x1 h1 y1 with r|r|r
    ·exact .inl (bL r)
    ·exact .inr (.inr r)
    ·exact .inr (.inl r)
   ·exact h.pn _ _ _ _ _ _ fk (hk _ _ x1 h1).2 (hk _ _ x2 h2).2 y1 y2 hr
 ·intro x cs0 hx;have SA:x≠b:=λe=>by subst e;exact abw cs0 hx
  have hxn:W.next≠x:=λe=>by subst e;rw[h.free _ (aP _)]at hx;cases hx
  rw[AW.br _ _ (by rw[AW.eK];exact hxn),AW.eD _ (bL SA)];exact hx
 ·rw[qD];exact aP _
 ·intro B hB hm;exact ji B (λe=>by subst e;exact hm ⟨b,g,hg,rfl,abw⟩)
 ·intro x o2 hx hxk;have SA:x≠b:=λe=>by subst e;rw[hg]at hxk;cases hxk
  have hxn:W.next≠x:=λe=>by subst e;rw[h.free _ (aP _)]at hx;cases hx
  refine⟨by rw[AW.br _ _ (by rw[AW.eK];exact hxn),AW.eD _ (bL SA)];exact hx,?_⟩;unfold cq;rw[ay (bL hxn)];exact hxk
 ·intro x k HC hB;rcases oc x k HC with⟨rfl,rfl⟩|⟨h1,h2⟩
  ·exact .inr ⟨b,g,hg,rfl,abw⟩
  ·exact .inl h2
def bt.abZ(h:bt σ W w.heap){b off:Nat}{cs cP:List ae}{g:tu}(hb:W.get b=some (.cells cs))(hg:σ b=some g)
 (qD:w'.heap.size=w.heap.size)(Ss:w'.os=w.os)(SP:w'.tape=w.tape)(zQ:w'.output=w.output)
 (ji:∀B,B≠g.B->w'.heap[B]? =w.heap[B]?)
 {c c':Array ae}{t:ai}(hc:w.heap[g.B]? =some (.cells c t (0,0)))(sX:w'.heap[g.B]? =some (.cells c' t (0,0)))(pw:c'.size=c.size)
 (uC:∀i,i<g.s+off\/g.e<=i->c'[i]? =c[i]?)(eA:g.s+off+cP.length<=g.e)
 (kX:∀(i:Nat) (v:ae),cP[i]? =some v->∃v',c'[g.s+off+i]? =some v'/\VR σ v v'):
 bt (cq σ W.next ⟨g.B,g.s+off,g.e⟩) ((W.kill b).add (.cells cP)) w'.heap/\eW σ W w (cq σ W.next ⟨g.B,g.s+off,g.e⟩) ((W.kill b).add (.cells cP)) w':=by
 obtain⟨c0,t0,ZI,q1,q0,q2,q3,q4⟩:=h.obj b _ g hb hg;rw[hc]at q1;injection q1 with q1;injection q1 with q1 q1';subst q1;refine h.HE hb (λ_=>by simp) hg qD Ss SP zQ ji hc sX pw uC ⟨c',t,(0,0),sX,λ_=>rfl,eA,by simp only;omega,λi v hv=>?_⟩;obtain⟨v',f1,f2⟩:=kX i v hv;exact⟨v',f1,f2.mono (dD h.fresh)⟩
def cy(W:AW)(x:ae)(m:Nat):Option (List ae):=
 match x with
 |.slice none _ _=>if m=0 then some []else none
 |.slice (some a) len _=>if m=0 then some []else if len=0 then none else lu W a.block a.off m
 |_=>none
def vQ(h:bt σ W w.heap){x x':ae}{n z:Nat}{l:List ae}(hr:cy W x (n*z)=some l)(hx:VR σ x x'):
 ∃l',LR σ l l'/\l.length=n*z/\(Builtin.firstCells z n x').run P w=.ok l'.toArray w:=by
 have h0:∀(a':aW),(loadCells a' 0).run P w=.ok #[] w:=λa'=>by simp[loadCells,loadCellsFrom]
 unfold cy at hr;split at hr
 ·split at hr
  ·rename_i hm;injection hr with hr;subst hr;cases hx;exact⟨[],.nil,by simp[hm],by simp[Builtin.firstCells]⟩
  ·cases hr
 ·rename_i a _ _;split at hr
  ·rename_i hm;injection hr with hr;subst hr;cases hx
   ·exact⟨[],.nil,by simp[hm],by simp[Builtin.firstCells,hm,h0]⟩
   ·exact⟨[],.nil,by simp[hm],by simp[Builtin.firstCells,hm,h0]⟩
  ·rename_i hm;split at hr
   ·cases hr
   ·rename_i Ie;cases hx with
    |slice _ _ _ c' g hg hs hc=>obtain⟨l',h1,h2,_,h4⟩:=Ab (P:=P) h hr hg;exact⟨l',h1,h2,by simp[Builtin.firstCells,h4]⟩
    |dH _ a' _ g hg hc=>exact absurd rfl Ie
 ·cases hr
def Pp(DC:Nat):∀(r c:Nat),c<=2*DC+192->Builtin.growBy DC r c<=2*DC+192:=by
 intro r;induction r with
 |zero=>intro c h;exact h
 |succ r ih=>
  intro c h;simp only[Builtin.growBy];split
  ·exact h
  ·exact ih _ (by omega)
def wj{DC c:Nat}(h:c<DC):Builtin.nextslicecap DC c<=2*DC+192:=by
 unfold Builtin.nextslicecap;split
 ·omega
 ·split
  ·omega
  ·exact Pp DC 4 c (by omega)
def jU(P:aj)(t:ai):Option ai:=match P.underlying t with|some (.slice e)=>some e|_=>none
def ny{t e:ai}(h:jU P t=some e):P.underlying t=some (.slice e):=by
 unfold jU at h;split at h
 ·rename_i e' hu;injection h with h;subst h;exact hu
 ·cases h
def aN(P:aj)(W:AW)(argTypes:Array ai)(s x:ae):Option (ae×AW):=
 match argTypes.toList with
 |[t0,t1]=>if t0=t1 then
  match jU P t0,s,x with
  |some e,.slice base bM ww,.slice xb n xc=>match lX P e,(P.info? e).map (λi=>(i.zero,i.bytes))with
   |some z,some (some zv,bytes)=>
    if 0<z/\zv.cells.size=z/\bM+n<1099511627776/\(2*(bM+n)+192)*bytes<=281474976710656 then
     if n=0 then(if bM<=ww then some (s,W)else none)
     else match cy W (.slice xb n xc) (n*z),cy W s (bM*z)with
      |some new,some pg=>
       if new.all one=true then
        if ww=gU+z then
         match base with
         |some a=>match W.get a.block with
          |some (.cells _)=>some ((W.kill a.block).new (.cells (pg++new)) λb W'=>(Value.slice (some ⟨b,0,none⟩) (bM+n) (gU+z),W'))
          |some (.tc e' cs)=>if e=e'/\z=1/\a.off=0/\cs.length=bM/\bM≠0/\ak.ex e=false then some ((W.kill a.block).new (.tc e (cs++new)) λb W'=>(Value.slice (some ⟨b,0,none⟩) (bM+n) (gU+1),W'))else none
          |_=>none
         |none=>none
        else if ww<gU then
         match base with
         |some a=>
          if bM+n<=ww then(nc W a.block (a.off+bM*z) new).map λW'=>(Value.slice (some a) (bM+n) ww,W')
          else some (W.new (.cells (pg++new)) λb W'=>(Value.slice (some ⟨b,0,none⟩) (bM+n) (gU+z),W'))
         |none=>if bM=0/\ww=0 then some (W.new (.cells (pg++new)) λb W'=>(Value.slice (some ⟨b,0,none⟩) (bM+n) (gU+z),W'))else none
        else none
       else none
      |_,_=>none
    else none
   |_,_=>none
  |_,_,_=>none
  else none
 |_=>none
def kw(zero:Array ae)(n:Nat):(Builtin.zeroCells zero n).size=n*zero.size:=by simp[Builtin.zeroCells]
def KL(hW:bt σ W w.heap)(e:ai){z:Nat}{zv:ae}{pg new lj ip:List ae}{k:Nat}(cap:Nat)
 (h1:LR σ pg lj)(h2:LR σ new ip)(hz:zv.cells.size=z)(Rn:0<z)(eA:pg.length+new.length=k*z)(o5:k<=cap/\cap<=maxLen):
 VR (cq σ W.next ⟨w.heap.size,0,cap*z⟩) (.slice (some ⟨W.next,0,none⟩) k (gU+z)) (.slice (some ⟨w.heap.size,0,none⟩) k cap)/\
  bt (cq σ W.next ⟨w.heap.size,0,cap*z⟩) (W.add (.cells (pg++new))) ((w.drew.alloc (.cells (lj.toArray++ip.toArray++Builtin.zeroCells zv.cells (cap-k)) e)).heap)/\
  eW σ W w (cq σ W.next ⟨w.heap.size,0,cap*z⟩) (W.add (.cells (pg++new))) (w.drew.alloc (.cells (lj.toArray++ip.toArray++Builtin.zeroCells zv.cells (cap-k)) e)):=by
 have qD:(lj.toArray++ip.toArray++Builtin.zeroCells zv.cells (cap-k)).size=cap*z:=by have aoi:=o5.1;simp only[Array.size_append,sy,kw,hz,<-h1.1,<-h2.1];rw[eA,<-Nat.add_mul];congr 1;omega
 have:=hW.alloc (o:=.cells (pg++new)) (x:=.cells (lj.toArray++ip.toArray++Builtin.zeroCells zv.cells (cap-k)) e) (e:=cap*z) (by
  refine⟨lj.toArray++ip.toArray++Builtin.zeroCells zv.cells (cap-k),e,(0,0),by rw[ss];simp,λ_=>rfl,?_,by rw[qD];exact aP _,λi v hv=>?_⟩
  ·simp only[cK,eA,aI];exact rJ _ o5.1
  ·obtain⟨v',a,b⟩:=(h1.append h2).get hv;refine⟨v',?_,b.mono (dD hW.fresh)⟩;have hi:i<(lj++ip).length:=(du.1 a).1;rw[aI,yb];rw[ax (by simpa using hi)];simpa using a);have hv:=VR.slice (σ:=cq σ W.next ⟨w.heap.size,0,cap*z⟩) ⟨W.next,0,none⟩ k (gU+z) cap ⟨w.heap.size,0,cap*z⟩ dy rfl (.open_ z cap Rn o5.1 (by simp) o5.2);exact⟨by simpa using hv,this.1,⟨this.2.sub,this.2.ro,this.2.size,rfl,rfl,rfl,this.2.dq,this.2.ghost,this.2.grow⟩⟩
def Iy(P:aj)(w:au)(t ty e:ai)(z:Nat)(base:Option aW)(bM c' xc:Nat)(xb:Option aW)
 (hu:P.underlying t=some (.slice e))(hz:lX P e=some z)(a8:bM<=c'):
 (Builtin.append_ #[t,t] ty #[.slice base bM c',.slice xb 0 xc]).run P w=.ok (.slice base bM c') w:=by
 have h0:∀(a':aW),(loadCells a' 0).run P w=.ok #[] w:=λa'=>by simp[loadCells,loadCellsFrom]
 cases base<;>cases xb<;>simp[Builtin.append_,bU hu,bJ hz,Builtin.lenOf,a8,Builtin.firstCells,h0,storeCells]
def tP(P:aj)(w w2:au)(t ty e:ai)(z:Nat)(b off bM c' n xc:Nat)(xb:Option aW)(ip:List ae)
 (hu:P.underlying t=some (.slice e))(hz:lX P e=some z)
 (mT:(Builtin.firstCells z n (.slice xb n xc)).run P w=.ok ip.toArray w)(a8:bM+n<=c')(nS:(storeCells ⟨b,off+bM*z,none⟩ ip).run P w=.ok () w2):
 (Builtin.append_ #[t,t] ty #[.slice (some ⟨b,off,none⟩) bM c',.slice xb n xc]).run P w=.ok (.slice (some ⟨b,off,none⟩) (bM+n) c') w2:=by
 simp[Builtin.append_,bU hu,bJ hz,Builtin.lenOf,a8,mT,dV,nS]
def Fv{e:ai}{zo:Option ae}{bytes z:Nat}(h:(P.info? e).map (λi=>(i.zero,i.bytes))=some (zo,bytes))(hz:lX P e=some z):
 ∃i,P.info? e=some i/\i.zero=zo/\i.bytes=bytes/\i.size=z:=by
 obtain⟨i,hi,h1,_⟩:=yS hz;rw[hi]at h;simp at h;exact⟨i,hi,h.1,h.2,h1⟩
def il(h:bt σ W w.heap){A:Option aW}{n c z:Nat}{x':ae}{l:List ae}(hr:cy W (.slice A n c) (n*z)=some l)(hx:VR σ (.slice A n c) x')(hn:0<n*z):
 ∃a' c' l',x'=.slice (some a') n c'/\LR σ l l'/\l.length=n*z/\(∀j v,l'[j]? =some v->w.cell? (a'.add j)=some v):=by
 unfold cy at hr;split at hr
 ·rw[b8]at hr;cases hr
 ·rename_i a len cc wB;injection wB with e1 e2 e3;rw[b8]at hr;split at hr
  ·cases hr
  ·rename_i Ie;subst e1;subst e2;cases hx with
   |slice _ _ _ c' g hg hs hc=>obtain⟨l',h1,h2,h3,_⟩:=Ab (P:=(default:aj)) h hr hg;exact⟨_,c',l',rfl,h1,h2,λj v hj=>by rw[dV];exact h3 j v hj⟩
   |dH _ a' _ g hg hc=>exact absurd rfl Ie
 ·cases hr
def NR(DC pg:Nat)(e:ai)(t:Nat):DC<=(Question.appendCap DC pg e).cut t:=by simp only[Question.cut];omega
def Ho(hW:bt σ W w.heap)(e:ai){cs cP:List ae}{zs:Array ae}{cap:Nat}(h1:LR σ cs cP)(o5:cs.length+zs.size=cap)(h0:0<cs.length)(hm:cap<=maxLen)(Es:ak.ex e=false){c:Array ae}(hc:c=cP.toArray++zs):
 VR (cq σ W.next ⟨w.heap.size,0,cap⟩) (.slice (some ⟨W.next,0,none⟩) cs.length (gU+1)) (.slice (some ⟨w.heap.size,0,none⟩) cs.length cap)/\
  bt (cq σ W.next ⟨w.heap.size,0,cap⟩) (W.add (.tc e cs)) ((w.drew.alloc (.cells c e)).heap)/\
  eW σ W w (cq σ W.next ⟨w.heap.size,0,cap⟩) (W.add (.tc e cs)) (w.drew.alloc (.cells c e)):=by
 subst hc;have hl:=h1.1;have qD:(cP.toArray++zs).size=cap:=by simp only[Array.size_append,sy];omega
 have:=hW.alloc (o:=.tc e cs) (x:=.cells (cP.toArray++zs) e) (e:=cap) (by refine⟨rfl,by simp only;omega,⟨hm,λhx=>by rw[Es]at hx;cases hx⟩,cP.toArray++zs,by rw[ss];simp,by simp only;omega,by simp only;omega,λi v hv=>?_⟩;obtain⟨v',a,b⟩:=h1.get hv;refine⟨v',?_,b.mono (dD hW.fresh)⟩;have hi:i<cP.length:=(du.1 a).1;rw[yb,ax (by simpa using hi)];simpa using a);have hv:=VR.slice (σ:=cq σ W.next ⟨w.heap.size,0,cap⟩) ⟨W.next,0,none⟩ cs.length (gU+1) cap ⟨w.heap.size,0,cap⟩ dy rfl (.open_ 1 cap (by omega) (by omega) (by simp) hm);exact⟨by simpa using hv,this.1,⟨this.2.sub,this.2.ro,this.2.size,rfl,rfl,rfl,this.2.dq,this.2.ghost,this.2.grow⟩⟩
def Jk(hW:bt σ W w.heap){argTypes:Array ai}{ty:ai}{s x s' x' v:ae}{W':AW}(h:aN P W argTypes s x=some (v,W'))(hs:VR σ s s')(hx:VR σ x x'):
 ∃σ' v' w',(Builtin.append_ argTypes ty #[s',x']).run P w=.ok v' w'/\VR σ' v v'/\bt σ' W' w'.heap/\eW σ W w σ' W' w':=by
 unfold aN at h;split at h
 ·rename_i t0 t1 mE;have DI:argTypes=#[t0,t1]:=by rw[<-ic (xs:=argTypes),mE]
  split at h
  ·rename_i ht;subst ht;subst DI;split at h
   ·rename_i e base bM ww xb n xc he;have hu:=ny he;split at h
    ·rename_i z zv bytes hz Dn;obtain⟨i,hi,hiz,W8,ZJ⟩:=Fv Dn hz;split at h
     ·rename_i hc;obtain⟨Rn,hzs,hsm,hby⟩:=hc;split at h
      ·rename_i Oz;subst Oz;split at h
       ·rename_i a8;injection h with h;injection h with hv hw;subst hv;subst hw;have fin:∀(c':Nat) (B:Option aW) (OM:Option aW) (AP:Nat),x'=.slice OM 0 AP->s'=.slice B bM c'->bM<=c'->
         ∃σ' v' w',(Builtin.append_ #[t0,t0] ty #[s',x']).run P w=.ok v' w'/\VR σ' (.slice base bM ww) v'/\bt σ' W w'.heap/\eW σ W w σ' W w':=by
         intro c' B OM AP e1 e2 e3;subst e1;subst e2;exact⟨σ,_,w,Iy P w t0 ty e z B bM c' AP OM hu hz e3,hs,hW,eW.refl _ _ _⟩
        have hxf:∃OM AP,x'=.slice OM 0 AP:=by cases hx<;>exact⟨_,_,rfl⟩
        obtain⟨OM,AP,rfl⟩:=hxf;cases hs with
        |DE l c=>exact fin _ _ OM AP rfl rfl a8
        |slice a l c c' g hg pf np=>exact fin _ _ OM AP rfl rfl (by rcases np.inv with⟨_,h2⟩|⟨_,_,_,h2,_⟩<;>omega)
        |dH a a' c g hg np=>exact fin _ _ OM AP rfl rfl (by omega)
       ·cases h
      ·rename_i Oz;split at h
       ·rename_i new pg mT fd;split at h
        ·rename_i II;have hnz:0<n*z:=my (by omega) Rn;obtain⟨xa,AP,ip,rfl,Ai,Hr,Xx⟩:=il hW mT hx hnz;obtain⟨lj,Yo,Sl,vD⟩:=vQ (P:=P) hW fd hs;have hnf:(Builtin.firstCells z n (.slice (some xa) n AP)).run P w=.ok ip.toArray w:=by
          have hl:ip.length=n*z:=by rw[<-Ai.1];exact Hr
          have:=BH (P:=P) w xa ip Xx;rw[hl]at this;simpa[Builtin.firstCells]using this
         have eA:pg.length+new.length=(bM+n)*z:=by rw[Sl,Hr,Nat.add_mul]
         have grow:∀(a':aW) (c':Nat),s'=.slice (some a') bM c'->(0<bM->∀j u,lj[j]? =some u->w.cell? (a'.add j)=some u)->c'<bM+n->
          ∃cap,(bM+n<=cap/\cap<=maxLen)/\(Builtin.append_ #[t0,t0] ty #[s',.slice (some xa) n AP]).run P w=
           .ok (.slice (some ⟨w.heap.size,0,none⟩) (bM+n) cap) (w.drew.alloc (.cells (lj.toArray++ip.toArray++Builtin.zeroCells zv.cells (cap-(bM+n))) e)):=by
          intro a' c' e1 e2 e3;subst e1;have o5:=wj e3;have tp:Builtin.nextslicecap (bM+n) c'*i.bytes<=281474976710656:=by have:=rJ i.bytes o5;rw[W8]at this|-;omega
          refine⟨_,⟨NR _ _ _ _,BW w (bM+n) c' e (by unfold maxLen;omega)⟩,run_append_grow (P:=P) w t0 ty e i zv hu hi hiz a' bM c' lj (by rw[<-Yo.1,Sl,ZJ]) (λj u hj=>?_) xa n AP ip (by rw[<-Ai.1,Hr,ZJ]) Xx e3 (by omega) tp⟩;refine e2 ?_ j u hj;rcases Nat.eq_zero_or_pos bM with h0|h0
          ·have h1:=Sl;rw[h0,Nat.zero_mul,Yo.1]at h1;have:=(du.1 hj).1;omega
          ·exact h0
         have aan:=λ(cap:Nat) (o5:bM+n<=cap/\cap<=maxLen)=>KL (w:=w) hW e cap Yo Ai hzs Rn eA o5
         split at h
         ·rename_i sV;split at h
          ·rename_i a;split at h
           ·rename_i cs fj;injection h with h;rw[AW.dG]at h;injection h with hv hw;have pM:∀cs,W.get a.block≠some (.ro cs):=λcs hx=>by rw[fj]at hx;cases hx
            have hmp:∃g0,σ a.block=some g0:=by cases hs with|slice _ _ _ c' g hg pf np=>exact⟨g,hg⟩|dH _ a' _ g hg np=>exact⟨g,hg⟩
            obtain⟨g0,hg0⟩:=hmp;obtain⟨hWk,hEk⟩:=hW.kill pM hg0;have aar:∀(cap:Nat),(bM+n<=cap/\cap<=maxLen)->(Builtin.append_ #[t0,t0] ty #[s',.slice (some xa) n AP]).run P w=
             .ok (.slice (some ⟨w.heap.size,0,none⟩) (bM+n) cap) (w.drew.alloc (.cells (lj.toArray++ip.toArray++Builtin.zeroCells zv.cells (cap-(bM+n))) e))->
             ∃σ' v' w',(Builtin.append_ #[t0,t0] ty #[s',.slice (some xa) n AP]).run P w=.ok v' w'/\VR σ' v v'/\bt σ' W' w'.heap/\eW σ W w σ' W' w':=by
             intro cap o5 eE;obtain⟨g1,g2,g3⟩:=KL (w:=w) hWk e cap Yo Ai hzs Rn eA o5;exact⟨_,_,_,eE,by rw[<-hv];exact g1,by rw[<-hw];exact g2,by rw[<-hw];exact hEk.trans g3⟩
            cases hs with
            |dH _ a' _ g hg np=>obtain⟨cap,h1,h2⟩:=grow a' 0 rfl (λhx=>absurd hx (by omega)) (by omega);exact aar cap h1 h2
            |slice _ _ _ c' g hg pf np=>
             rcases np.inv with⟨hk,_⟩|⟨z',yK,hzz,hlc,wB⟩
             ·exact absurd hk (by omega)
             ·have BL:z'=z:=by omega
              subst BL;obtain⟨c0,ct,ZI,q1,q0,q2,q3,q4⟩:=hW.obj a.block _ g fj hg;by_cases tp:bM+n<=c'
              ·have hcz:0<c'*z':=my (by omega) Rn;obtain rfl:=q0 (by omega);have ahN:(bM+n)*z'<=c'*z':=rJ _ tp;have hml:bM*z'+n*z'=(bM+n)*z':=(Nat.add_mul _ _ _).symm;have nS:=B9 (P:=P) g.B (g.s+a.off+bM*z') ct ip 0 c0 w q1 (by rw[<-Ai.1,Hr];omega) (BR Ai II);simp only[cC]at nS;have eE:=tP P w _ t0 ty e z' g.B (g.s+a.off) bM c' n AP (some xa) ip hu hz hnf tp nS;have alY:ip.length=n*z':=by rw[<-Ai.1];exact Hr
               have apM:lj.length=bM*z':=by rw[<-Yo.1];exact Sl
               have Bv:=ki c0.toList (g.s+a.off+bM*z') ip (by simp;omega);have ag3:∀j u,pg[j]? =some u->∃u',c0[g.s+a.off+j]? =some u'/\VR σ u u':=by
                intro j u hj;have hj2:j<bM*z':=by rw[<-Sl];exact(du.1 hj).1
                have XQ:0<bM*z':=by omega
                obtain⟨a2,c2,l2,e2,l2r,l2l,l2c⟩:=il hW fd (VR.slice a bM _ c' g hg pf np) XQ;injection e2 with e2 _ _;injection e2 with e2;subst e2;obtain⟨u',f1,f2⟩:=l2r.get hj;have:=l2c j u' f1;rw[dV]at this;simp only[World.cell?,q1,yu,gO,bR]at this;exact⟨u',this,f2⟩
               have JZ:=hW.abZ (w':=w.setRow g.B (c0.toList.take (g.s+a.off+bM*z')++ip++c0.toList.drop (g.s+a.off+bM*z'+ip.length)).toArray)
                (b:=a.block) (off:=a.off) (cP:=pg++new) fj hg (by simp[World.setRow]) rfl rfl rfl (λB hB=>iP w g.B B _ hB) q1 (sz w g.B c0 _ ct _ q1) (by simp;omega)
                (by intro j hj;have:=Bv j;rw[b8]at this;simpa using this)
                (by rw[cK,eA];omega)
                (by
                  intro j u hj;have h2:=Bv (g.s+a.off+j);rw[wv]at hj;split at hj
                  ·rename_i hjl;rw[b8]at h2;obtain⟨u',f1,f2⟩:=ag3 j u hj;exact⟨u',by rw[<-f1];simpa using h2,f2⟩
                  ·rename_i hjl;have Sk:=(du.1 hj).1;rw[ou]at h2;obtain⟨u',f1,f2⟩:=Ai.get hj;rw[show g.s+a.off+j-(g.s+a.off+bM*z')=j-pg.length by omega,f1]at h2;exact⟨u',by simpa using h2,f2⟩)
               have Yq:=VR.slice (σ:=cq σ W.next ⟨g.B,g.s+a.off,g.e⟩) ⟨W.next,0,none⟩ (bM+n) (gU+z') c' ⟨g.B,g.s+a.off,g.e⟩ dy rfl (.open_ z' c' Rn tp (by simp only[cC];exact wB) (np.max.2 (by omega)));simp only[cC]at Yq;exact⟨_,_,_,eE,by rw[<-hv];exact Yq,by rw[<-hw];exact JZ.1,by rw[<-hw];exact JZ.2⟩
              ·obtain⟨cap,h1,h2⟩:=grow _ c' rfl (λXQ j u hj=>by
                have Bl:0<bM*z':=my XQ Rn;obtain⟨a2,c2,l2,e2,l2r,l2l,l2c⟩:=il hW fd (VR.slice a bM _ c' g hg pf np) Bl;injection e2 with e2 _ _;injection e2 with e2;subst e2;have GI:(Builtin.firstCells z' bM (.slice (some ⟨g.B,g.s+a.off,none⟩) bM c')).run P w=.ok l2.toArray w:=by have:=BH (P:=P) w ⟨g.B,g.s+a.off,none⟩ l2 l2c;rw[<-l2r.1,l2l]at this;simpa[Builtin.firstCells]using this
                rw[vD]at GI;injection GI with GI _;have:lj=l2:=by simpa using GI
                rw[this]at hj;exact l2c j u hj) (by omega);exact aar cap h1 h2
           ·rename_i e' cs fj;split at h;case isFalse=>cases h
            rename_i Ti;obtain⟨rfl,rfl,HQ,qF,XQ,I1⟩:=Ti;injection h with h;rw[AW.dG]at h;injection h with hv hw;have pM:∀cs,W.get a.block≠some (.ro cs):=λcs hx=>by rw[fj]at hx;cases hx
            have alY:ip.length=n:=by rw[<-Ai.1,Hr,ko]
            have aeK:new.length=n:=by rw[Hr,ko]
            cases hs with
            |dH _ a' _ g hg np=>exact absurd rfl XQ
            |slice _ _ _ c' g hg pf np=>
             rcases np.inv with⟨hk,_⟩|⟨z',yK,hzz,hlc,wB⟩
             ·unfold gU at hk sV;omega
             ·have BL:z'=1:=by omega
              subst BL;obtain⟨a1,a2,a3,c,q1,q2,q3,q4⟩:=hW.obj a.block _ g fj hg;have am4:c'=c.size:=by omega
              have hgs:(⟨g.B,g.s+a.off,none⟩:aW)=⟨g.B,0,none⟩:=by rw[a1,HQ]
              rw[hgs];have Es:∃lj:List ae,LR σ cs lj/\∀(j:Nat) (u:ae),lj[j]? =some u->c[j]? =some u:=by
               have gZ:∀j,j<cs.length->j<c.size:=λj hj=>by omega
               refine⟨c.toList.take cs.length,⟨by rw[dF];simp;omega,λj u u' h1 h2=>?_⟩,λj u hj=>?_⟩
               ·obtain⟨v',f1,f2⟩:=q4 j u h1;rw[mb]at h2;split at h2
                ·rw[ug,f1]at h2;injection h2 with h2;subst h2;exact f2
                ·cases h2
               ·rw[mb]at hj;split at hj
                ·simpa using hj
                ·cases hj
              obtain⟨aaI,af4,mr⟩:=Es;have alH:=af4.1;have hap:=af4.append Ai;by_cases tp:bM+n<=c'
              ·have nS:=B9 (P:=P) g.B (0+bM*1) e ip 0 c w q1 (by omega) (BR Ai II);simp only[cC]at nS;have eE:=tP P w _ t0 ty e 1 g.B 0 bM c' n AP (some xa) ip hu hz hnf tp nS;have Bv:=ki c.toList (0+bM*1) ip (by simp;omega);have JZ:=hW.HE (w':=w.setRow g.B (c.toList.take (0+bM*1)++ip++c.toList.drop (0+bM*1+ip.length)).toArray) (b:=a.block) (off:=0) (o':=.tc e (cs++new))
                (c':=(c.toList.take (0+bM*1)++ip++c.toList.drop (0+bM*1+ip.length)).toArray) fj (λ_=>by simp) hg (by simp[World.setRow]) rfl rfl rfl (λB hB=>iP w g.B B _ hB) q1 (sz w g.B c _ e _ q1) (by simp;omega)
                (λj hj=>by rw[uA (by simp;omega),uA (by omega)])
                ⟨by simp only;omega,a2,⟨a3.1,λhx=>by rw[I1]at hx;cases hx⟩,_,sz w g.B c _ e _ q1,by simp only[cK];omega,by simp;omega,λj u hj=>by
                  have h2:=Bv j;rw[wv]at hj;split at hj
                  ·rename_i hjl;rw[b8]at h2;obtain⟨u',f1,f2⟩:=q4 j u hj;exact⟨u',by rw[<-f1];simpa using h2,f2.mono (dD hW.fresh)⟩
                  ·rename_i hjl;have Sk:=(du.1 hj).1;rw[ou]at h2;obtain⟨u',f1,f2⟩:=Ai.get hj;rw[show j-(0+bM*1)=j-cs.length by omega,f1]at h2;exact⟨u',by simpa using h2,f2.mono (dD hW.fresh)⟩⟩
               have Yq:=VR.slice (σ:=cq σ W.next ⟨g.B,g.s+0,g.e⟩) ⟨W.next,0,none⟩ (bM+n) (gU+1) c' ⟨g.B,g.s+0,g.e⟩ dy rfl (.open_ 1 c' (by omega) tp (by simp only;omega) (np.max.2 (by omega)));simp only[a1,cC]at Yq;refine⟨_,_,_,eE,by rw[<-hv];exact Yq,?_,?_⟩
               ·rw[<-hw];simpa only[a1,cC]using JZ.1
               ·rw[<-hw];simpa only[a1,cC]using JZ.2
              ·have o5:=wj (show c'<bM+n by omega);have aeQ:Builtin.nextslicecap (bM+n) c'*i.bytes<=281474976710656:=by have:=rJ i.bytes o5;rw[W8]at this|-;omega
               have eE:=run_append_grow (P:=P) w t0 ty e i zv hu hi hiz ⟨g.B,0,none⟩ bM c' aaI (by rw[<-alH,ZJ];omega) (λj u hj=>by
                have:=mr j u hj;rw[dV];simp[World.cell?,q1,this]) xa n AP ip (by rw[ZJ];omega) Xx (by omega) (by omega) aeQ;obtain⟨hWk,hEk⟩:=hW.kill pM hg;have hge:=grownCap_ge w (bM+n) c' e;obtain⟨g1,g2,g3⟩:=Ho (w:=w) hWk e (cs:=cs++new) (cP:=aaI++ip) (zs:=Builtin.zeroCells zv.cells (grownCap w (bM+n) c' e-(bM+n))) (cap:=grownCap w (bM+n) c' e) hap
                (by rw[cK,kw,hzs];omega) (by rw[cK];omega) (BW w (bM+n) c' e (by unfold maxLen;omega)) I1
                (c:=aaI.toArray++ip.toArray++Builtin.zeroCells zv.cells (grownCap w (bM+n) c' e-(bM+n))) (by simp)
               rw[cK,aeK,qF]at g1;exact⟨_,_,_,eE,by rw[<-hv];exact g1,by rw[<-hw];exact g2,by rw[<-hw];exact hEk.trans g3⟩
           ·cases h
          ·cases h
         ·split at h
          ·rename_i vN apa;split at h
           ·rename_i a;have akA:∀(g:tu) (c':Nat),σ a.block=some g->a.spot=none->Hs g a.off bM ww c'->s'=.slice (some ⟨g.B,g.s+a.off,none⟩) bM c'->0<bM->∀j u,lj[j]? =some u->w.cell? ((⟨g.B,g.s+a.off,none⟩:aW).add j)=some u:=by
             intro g c' hg pf np Uk XQ j u hj;have Bl:0<bM*z:=my XQ Rn;obtain⟨a2,c2,l2,e2,l2r,l2l,l2c⟩:=il hW fd (VR.slice a bM _ c' g hg pf np) Bl;injection e2 with e2 _ _;injection e2 with e2;subst e2;have GI:(Builtin.firstCells z bM (.slice (some ⟨g.B,g.s+a.off,none⟩) bM c')).run P w=.ok l2.toArray w:=by have:=BH (P:=P) w ⟨g.B,g.s+a.off,none⟩ l2 l2c;rw[<-l2r.1,l2l]at this;simpa[Builtin.firstCells]using this
             rw[<-Uk,vD]at GI;injection GI with GI _;have:lj=l2:=by simpa using GI
             rw[this]at hj;exact l2c j u hj
            split at h
            ·rename_i tp;cases ZN:nc W a.block (a.off+bM*z) new with
             |none=>rw[ZN]at h;cases h
             |some W2=>
              rw[ZN]at h;simp only[cS,gJ,pA]at h;obtain⟨hv,hw⟩:=h;subst hw;cases hs with
              |dH _ a' _ g hg np=>omega
              |slice _ _ _ c' g hg pf np=>
               rcases np.inv with⟨hk,rfl⟩|⟨z',yK,hzz,hlc,wB⟩
               ·obtain⟨w2,k1,k2,k3⟩:=rL (P:=P) hW ZN hg Ai;have eE:=tP P w w2 t0 ty e z g.B (g.s+a.off) bM c' n AP (some xa) ip hu hz hnf tp (by rw[nh];exact k1);refine⟨σ,_,w2,eE,?_,k2,k3⟩;rw[<-hv];exact .slice a _ _ _ g hg pf (.known _ hk)
               ·omega
            ·rename_i tp;injection h with h;rw[AW.dG]at h;injection h with hv hw;have fin:∀(cap:Nat),(bM+n<=cap/\cap<=maxLen)->(Builtin.append_ #[t0,t0] ty #[s',.slice (some xa) n AP]).run P w=
              .ok (.slice (some ⟨w.heap.size,0,none⟩) (bM+n) cap) (w.drew.alloc (.cells (lj.toArray++ip.toArray++Builtin.zeroCells zv.cells (cap-(bM+n))) e))->
              ∃σ' v' w',(Builtin.append_ #[t0,t0] ty #[s',.slice (some xa) n AP]).run P w=.ok v' w'/\VR σ' v v'/\bt σ' W' w'.heap/\eW σ W w σ' W' w':=by
              intro cap o5 eE
              obtain⟨g1,g2,g3⟩:=aan cap o5
              exact⟨_,_,_,eE,by rw[<-hv];exact g1,by rw[<-hw];exact g2,by rw[<-hw];exact g3⟩
             cases hs with
             |dH _ a' _ g hg np=>obtain⟨cap,h1,h2⟩:=grow a' 0 rfl (λhx=>absurd hx (by omega)) (by omega);exact fin cap h1 h2
             |slice _ _ _ c' g hg pf np=>
              have qF:c'<bM+n:=by rcases np.inv with⟨_,h2⟩|⟨_,_,h2,_,_⟩<;>omega
              obtain⟨cap,h1,h2⟩:=grow _ c' rfl (akA g c' hg pf np rfl) qF;exact fin cap h1 h2
           ·split at h
            ·rename_i h00;obtain⟨rfl,rfl,I1⟩:=h00;injection h with h;rw[AW.dG]at h;injection h with hv hw;cases hs;have afF:lj=[]:=by have:=Yo.1;rw[Sl,Nat.zero_mul]at this;exact t7 this.symm
             subst afF;have tp:n*i.bytes<=281474976710656:=by have:=rJ i.bytes (show n<=2*(0+n)+192 by omega);rw[W8]at this|-;omega
             have eE:=run_append_nil (P:=P) w t0 ty e i zv hu hi hiz xa n AP ip (by rw[<-Ai.1,Hr,ZJ]) Xx (by omega) (by omega) tp;obtain⟨g1,g2,g3⟩:=aan _ ⟨NR (0+n) 0 e (w.tape w.drawn (.appendCap n 0 e)),by simpa[grownCap]using BW w n 0 e (by unfold maxLen;omega)⟩;simp only[aI]at g1 g2 g3 hv;refine⟨_,_,_,eE,by rw[<-hv];exact g1,?_,?_⟩
             ·rw[<-hw];simpa[grownCap]using g2
             ·rw[<-hw];simpa[grownCap]using g3
            ·cases h
          ·cases h
        ·cases h
       ·cases h
     ·cases h
    ·cases h
   ·cases h
  ·cases h
 ·cases h
def Ch(P:aj)(W:AW)(argTypes:Array ai)(s x:ae):Option (ae×AW):=
 match argTypes.toList with
 |[t0,t1]=>match P.underlying t1 with
  |some .string=>match jU P t0,s,x with
   |some e,.slice base bM ww,.string str=>match lX P e,(P.info? e).map (λi=>(i.zero,i.bytes))with
    |some 1,some (some (Value.int IntKind.u8 (.ofNat 0)),1)=>
     if bM+str.size<1099511627776 then
      if str.size=0 then(if bM<=ww then some (s,W)else none)
      else match base with
       |some a=>if ww=gU+1/\a.off=0 then match W.get a.block with
        |some (.tc e' cs)=>if e=e'/\cs.length=bM/\bM≠0/\ak.ex e=false then some ((W.kill a.block).new (.tc e (cs++Lib.strCells str)) λb W'=>(Value.slice (some ⟨b,0,none⟩) (bM+str.size) (gU+1),W'))else none
        |_=>none
        else none
       |none=>if bM=0/\ww=0/\ak.ex e=false then some (W.new (.tc e (Lib.strCells str)) λb W'=>(Value.slice (some ⟨b,0,none⟩) (0+str.size) (gU+1),W'))else none
     else none
    |_,_=>none
   |_,_,_=>none
  |_=>none
 |_=>none
def t8(σ:dj)(s:ByteArray):LR σ (Lib.strCells s) (Lib.strCells s):=by
 refine⟨rfl,λi v v' h1 h2=>?_⟩;rw[h1]at h2;injection h2 with h2;subst h2;unfold Lib.strCells at h1;rw[jh]at h1;cases hx:s.data.toList[i]? with
 |none=>rw[hx]at h1;cases h1
 |some b=>rw[hx]at h1;injection h1 with h1;subst h1;exact .int _ _
def Gu(hW:bt σ W w.heap){argTypes:Array ai}{ty:ai}{s x s' x' v:ae}{W':AW}(h:Ch P W argTypes s x=some (v,W'))(hs:VR σ s s')(hx:VR σ x x'):
 ∃σ' v' w',(Builtin.append_ argTypes ty #[s',x']).run P w=.ok v' w'/\VR σ' v v'/\bt σ' W' w'.heap/\eW σ W w σ' W' w':=by
 unfold Ch at h;split at h
 ·rename_i t0 t1 mE;have DI:argTypes=#[t0,t1]:=by rw[<-ic (xs:=argTypes),mE]
  subst DI;split at h
  ·rename_i Xz;split at h
   ·rename_i e base bM ww str he;have hu:=ny he;cases hx;split at h
    ·rename_i hz Dn;obtain⟨i,hi,hiz,W8,ZJ⟩:=Fv Dn hz;split at h
     ·rename_i hsm;have hmx:∀n sc,n<=maxLen->grownCap w n sc e<=maxLen:=λn sc hn=>BW w n sc e hn
      have hml:bM+str.size<=maxLen:=by unfold maxLen;omega
      split at h
      ·rename_i Oz;split at h
       ·rename_i a8;injection h with h;injection h with hv hw;subst hv;subst hw;have h00:∀(a':aW),(loadCells a' 0).run P w=.ok #[] w:=λa'=>by simp[loadCells,loadCellsFrom]
        have fin:∀(c':Nat) (B:Option aW),s'=.slice B bM c'->bM<=c'->∃σ' v' w',(Builtin.append_ #[t0,t1] ty #[s',.string str]).run P w=.ok v' w'/\VR σ' (.slice base bM ww) v'/\bt σ' W w'.heap/\eW σ W w σ' W w':=by intro c' B e2 e3;subst e2;have hf:=Lib.run_firstCells_string (P:=P) w 1 str;rw[Oz]at hf;have hsc:Lib.strCells str=[]:=t7 (by rw[ku];exact Oz);rw[hsc]at hf;refine⟨σ,_,w,?_,hs,hW,eW.refl _ _ _⟩;cases B<;>simp[Builtin.append_,bU hu,bU Xz,bJ hz,Builtin.lenOf,Oz,e3,hf,storeCells]
        cases hs with
        |DE l c=>exact fin _ _ rfl a8
        |slice a l c c' g hg pf np=>exact fin _ _ rfl (by rcases np.inv with⟨_,h2⟩|⟨_,_,_,h2,_⟩<;>omega)
        |dH a a' c g hg np=>exact fin _ _ rfl (by omega)
       ·cases h
      ·rename_i Oz;split at h
       ·rename_i a;split at h
        ·rename_i rh;obtain⟨sV,HQ⟩:=rh;split at h
         ·rename_i e' cs fj;split at h
          ·rename_i Ti;obtain⟨rfl,qF,XQ,I1⟩:=Ti;injection h with h;rw[AW.dG]at h;injection h with hv hw;have pM:∀cs,W.get a.block≠some (.ro cs):=λcs hx=>by rw[fj]at hx;cases hx
           cases hs with
           |dH _ a' _ g hg np=>exact absurd rfl XQ
           |slice _ _ _ c' g hg pf np=>
            rcases np.inv with⟨hk,_⟩|⟨z',yK,hzz,hlc,wB⟩
            ·unfold gU at hk sV;omega
            ·have BL:z'=1:=by omega
             subst BL;obtain⟨a1,a2,a3,c,q1,q2,q3,q4⟩:=hW.obj a.block _ g fj hg;have am4:c'=c.size:=by omega
             have hgs:(⟨g.B,g.s+a.off,none⟩:aW)=⟨g.B,0,none⟩:=by rw[a1,HQ]
             rw[hgs];have Es:∃lj:List ae,LR σ cs lj/\∀(j:Nat) (u:ae),lj[j]? =some u->c[j]? =some u:=by
              have gZ:∀j,j<cs.length->j<c.size:=λj hj=>by omega
              refine⟨c.toList.take cs.length,⟨by rw[dF];simp;omega,λj u u' h1 h2=>?_⟩,λj u hj=>?_⟩
              ·obtain⟨v',f1,f2⟩:=q4 j u h1;rw[mb]at h2;split at h2
               ·rw[ug,f1]at h2;injection h2 with h2;subst h2;exact f2
               ·cases h2
              ·rw[mb]at hj;split at hj
               ·simpa using hj
               ·cases hj
             obtain⟨lj,Yo,mr⟩:=Es;have Sl:=Yo.1;have hap:=Yo.append (t8 σ str);by_cases tp:bM+str.size<=c'
             ·have eE:=Lib.run_append_room_string (P:=P) w t0 t1 ty e i hu Xz hi ZJ g.B bM c' c q1 str tp (by omega);have Bv:=ki c.toList bM (Lib.strCells str) (by rw[ku];simp;omega);rw[ku]at Bv;have JZ:=hW.HE (w':=w.setRow g.B (c.toList.take bM++Lib.strCells str++c.toList.drop (bM+str.size)).toArray) (b:=a.block) (off:=0) (o':=.tc e (cs++Lib.strCells str))
               (c':=(c.toList.take bM++Lib.strCells str++c.toList.drop (bM+str.size)).toArray) fj (λ_=>by simp) hg (by simp[World.setRow]) rfl rfl rfl (λB hB=>iP w g.B B _ hB) q1 (sz w g.B c _ e _ q1) (by simp[ku];omega)
               (λj hj=>by rw[uA (by simp[ku];omega),uA (by omega)])
               ⟨by simp only;omega,a2,⟨a3.1,λhx=>by rw[I1]at hx;cases hx⟩,_,sz w g.B c _ e _ q1,by simp only[cK,ku];omega,by simp[ku];omega,λj u hj=>by
                 have h2:=Bv j;rw[wv]at hj;split at hj
                 ·rename_i hjl;rw[b8]at h2;obtain⟨u',f1,f2⟩:=q4 j u hj;exact⟨u',by rw[<-f1];simpa using h2,f2.mono (dD hW.fresh)⟩
                 ·rename_i hjl;have Sk:=(du.1 hj).1;rw[ku]at Sk;rw[ou]at h2;obtain⟨u',f1,f2⟩:=(t8 σ str).get hj;rw[qF]at f1;rw[f1]at h2;exact⟨u',by simpa using h2,f2.mono (dD hW.fresh)⟩⟩
              have Yq:=VR.slice (σ:=cq σ W.next ⟨g.B,g.s+0,g.e⟩) ⟨W.next,0,none⟩ (bM+str.size) (gU+1) c' ⟨g.B,g.s+0,g.e⟩ dy rfl (.open_ 1 c' (by omega) tp (by simp only;omega) (np.max.2 (by omega)));simp only[a1,cC]at Yq;refine⟨_,_,_,eE,by rw[<-hv];exact Yq,?_,?_⟩
              ·rw[<-hw];simpa only[a1,cC]using JZ.1
              ·rw[<-hw];simpa only[a1,cC]using JZ.2
             ·have o5:=wj (show c'<bM+str.size by omega);have eE:=Lib.run_append_grow_string (P:=P) w t0 t1 ty e i (.int .u8 0) hu Xz hi hiz ⟨g.B,0,none⟩ bM c' lj (by rw[<-Sl,ZJ];omega) (λj u hj=>by
               have:=mr j u hj;rw[dV];simp[World.cell?,q1,this]) str (by omega) (by omega) (by rw[W8];omega);obtain⟨hWk,hEk⟩:=hW.kill pM hg;have hge:=grownCap_ge w (bM+str.size) c' e;obtain⟨g1,g2,g3⟩:=Ho (w:=w) hWk e (cs:=cs++Lib.strCells str) (cP:=lj++Lib.strCells str) (zs:=Builtin.zeroCells (Value.int .u8 0).cells (grownCap w (bM+str.size) c' e-(bM+str.size))) (cap:=grownCap w (bM+str.size) c' e) hap
               (by rw[cK,ku,kw,show(Value.int IntKind.u8 0).cells.size=1 from rfl];omega) (by rw[cK,ku];omega) (hmx _ _ hml) I1
               (c:=lj.toArray++(Lib.strCells str).toArray++Builtin.zeroCells (Value.int .u8 0).cells (grownCap w (bM+str.size) c' e-(bM+str.size))) (by simp)
              rw[cK,ku,qF]at g1;exact⟨_,_,_,eE,by rw[<-hv];exact g1,by rw[<-hw];exact g2,by rw[<-hw];exact hEk.trans g3⟩
          ·cases h
         ·cases h
        ·cases h
       ·split at h
        ·rename_i h00;obtain⟨rfl,rfl,I1⟩:=h00;injection h with h;rw[AW.dG]at h;injection h with hv hw;cases hs;have tp:str.size*i.bytes<=281474976710656:=by rw[W8];omega
         have eE:=run_append_nil_string (P:=P) w t0 t1 ty e i (.int .u8 0) hu Xz hi hiz str (by omega) (by omega) tp;have hge:=grownCap_ge w str.size 0 e;obtain⟨g1,g2,g3⟩:=Ho (w:=w) hW e (cs:=Lib.strCells str) (cP:=Lib.strCells str) (zs:=Builtin.zeroCells (Value.int .u8 0).cells (grownCap w str.size 0 e-str.size)) (cap:=grownCap w str.size 0 e) (t8 σ str)
          (by rw[ku,kw,show(Value.int IntKind.u8 0).cells.size=1 from rfl];omega) (by rw[ku];omega) (hmx _ _ (by omega)) I1
          (c:=str.data.map (λb=>Value.int .u8 b.toNat)++Builtin.zeroCells (Value.int .u8 0).cells (grownCap w str.size 0 e-str.size)) (by congr 1;apply Array.ext';simp[Lib.strCells])
         rw[ku]at g1;exact⟨_,_,_,eE,by rw[<-hv,aI];exact g1,by rw[<-hw];exact g2,by rw[<-hw];exact g3⟩
        ·cases h
     ·cases h
    ·cases h
   ·cases h
  ·cases h
 ·cases h
def yx(P:aj)(W:AW)(argTypes:Array ai)(s x:ae):Option (ae×AW):=
 match argTypes.toList with
 |[t0,t1]=>if t0=t1 then aN P W argTypes s x else Ch P W argTypes s x
 |_=>none
def H7(hW:bt σ W w.heap){argTypes:Array ai}{ty:ai}{s x s' x' v:ae}{W':AW}(h:yx P W argTypes s x=some (v,W'))(hs:VR σ s s')(hx:VR σ x x'):
 ∃σ' v' w',(Builtin.append_ argTypes ty #[s',x']).run P w=.ok v' w'/\VR σ' v v'/\bt σ' W' w'.heap/\eW σ W w σ' W' w':=by
 unfold yx at h;split at h
 ·split at h
  ·exact Jk hW h hs hx
  ·exact Gu hW h hs hx
 ·cases h
def sD(x:ae):Option ae:=match x with
 |.slice none _ _=>some (.pointer none)
 |.slice (some a) l c=>if l≠0/\c≠0 then some (.pointer (some a))else none
 |_=>none
def Cd{x x' v:ae}{ts:Array ai}{ty:ai}(h:sD x=some v)(hx:VR σ x x'):∃v',(Builtin.unsafeSliceData_ ts ty #[x']).run P w=.ok v' w/\VR σ v v':=by
 unfold sD at h;split at h
 ·injection h with h;subst h;cases hx;exact⟨_,Lib.run_unsafeSliceData_nil _ _ _ _ _,.JC⟩
 ·split at h
  ·rename_i a l c hc;injection h with h;subst h;cases hx with
   |slice _ _ _ c' g hg hs np=>exact⟨_,Lib.run_unsafeSliceData_row _ _ _ _ _ _ (by rcases np.inv with⟨_,h2⟩|⟨_,_,_,h2,_⟩<;>omega),.ptr a g hg hs⟩
   |dH _ a' _ g hg np=>exact absurd rfl hc.1
  ·cases h
 ·cases h
def byteOf(v:ae):Option UInt8:=match v with
 |.int .u8 (.ofNat n)=>if n<256 then some (UInt8.ofNat n)else none
 |_=>none
def Ra{v:ae}{x:UInt8}(h:byteOf v=some x):v=.int .u8 x.toNat:=by
 unfold byteOf at h;split at h
 ·rename_i n;split at h
  ·rename_i hn;injection h with h;subst h;have:(UInt8.ofNat n).toNat=n:=by simp;omega
   rw[this];rfl
  ·cases h
 ·cases h
def xO:List ae->Option (List UInt8):=List.rec (motive:=λ_=>Option (List UInt8)) (some []) (λv _ ih=>match byteOf v with
 |some b=>ih.map (λl=>b::l)
 |none=>none)
def tN:∀{cs:List ae} {l:List UInt8},xO cs=some l->cs.length=l.length/\∀(j:Nat) (x:UInt8),l[j]? =some x->cs[j]? =some (.int .u8 x.toNat)
 |[],l,h=>by injection h with h;subst h;exact⟨rfl,λj x hj=>by simp at hj⟩
 |v::cs,l,h=>by
  have h':(match byteOf v with
   |some b=>(xO cs).map (λl=>b::l)
   |none=>none)=some l:=h;cases hv:byteOf v with
  |none=>rw[hv]at h';cases h'
  |some b0=>
   rw[hv]at h';cases hb:xO cs with
   |none=>rw[hb]at h';cases h'
   |some l0=>
    rw[hb]at h';injection h' with h';subst h';obtain⟨h1,h2⟩:=tN hb;refine⟨by simp[h1],λj x hj=>?_⟩;cases j with
    |zero=>simp only[HJ,gJ]at hj|-;subst hj;exact Ra hv
    |succ j=>simpa using h2 j x (by simpa using hj)
def RR(w:au)(a:aW)(m:Nat){c:Array ae}{t:ai}{fr:Nat×Nat}(h:w.heap[a.block]? =some (.cells c t fr)):∃fr',(w.freeze a m).heap[a.block]? =some (.cells c t fr'):=by
 unfold World.freeze;split
 ·exact⟨fr,h⟩
 ·obtain⟨lo,hi⟩:=fr;simp only[z7,ax,h,cS];exact⟨_,rfl⟩
def Qx(w:au)(a:aW)(m:Nat){B:Nat}(h:B≠a.block):(w.freeze a m).heap[B]? =w.heap[B]? :=by
 unfold World.freeze;split
 ·rfl
 ·simp only[z7];rw[ay (bL h)]
def K0(w:au)(a:aW)(m:Nat):(w.freeze a m).heap.size=w.heap.size:=by
 unfold World.freeze;split
 ·rfl
 ·simp
def PX(w:au)(a:aW)(m:Nat):(w.freeze a m).os=w.os/\(w.freeze a m).tape=w.tape/\(w.freeze a m).output=w.output:=by unfold World.freeze;split<;>exact⟨rfl,rfl,rfl⟩
def bt.YO(h:bt σ W w.heap){b:Nat}{t:ai}{cs:List ae}{g:tu}(hb:W.get b=some (.tc t cs))(hg:σ b=some g)(m:Nat):
 bt σ (W.kill b) (w.freeze ⟨g.B,0,none⟩ m).heap/\eW σ W w σ (W.kill b) (w.freeze ⟨g.B,0,none⟩ m):=by
 have pM:∀cs,W.get b≠some (.ro cs):=λcs hx=>by rw[hb]at hx;cases hx
 have hk:∀c o,(W.kill b).get c=some o->c≠b/\W.get c=some o:=λc o hc=>by
  by_cases hx:c=b
  ·subst hx;rw[AW.xD]at hc;cases hc
  ·rw[AW.eD _ (bL hx)]at hc;exact⟨hx,hc⟩
 obtain⟨a1,a2,a3,c,q1,q2,q3,q4⟩:=h.obj b _ g hb hg;obtain⟨fr',mE⟩:=RR w ⟨g.B,0,none⟩ m q1;have qD:=K0 w ⟨g.B,0,none⟩ m;obtain⟨os1,os2,os3⟩:=PX w ⟨g.B,0,none⟩ m;have ji:∀B,B≠g.B->(w.freeze ⟨g.B,0,none⟩ m).heap[B]? =w.heap[B]? :=λB hB=>Qx w ⟨g.B,0,none⟩ m hB
 obtain⟨k1,k2⟩:=h.kill pM hg;refine⟨⟨k1.free,λb2 g2 h2=>by rw[qD];exact h.pd b2 g2 h2,λx o2 g2 hx hy=>?_,k1.pn⟩,⟨.refl _,k2.ro,by rw[qD];exact aP _,os1,os2,os3,λB hB hm=>?_,k2.ghost,λx g2 hx _=>.inl hx⟩⟩
 ·obtain⟨SA,hxg⟩:=hk x o2 hx;have fd:=h.obj x o2 g2 hxg hy;by_cases hB:g2.B=g.B
  ·have hd:g2.e<=g.s\/g.e<=g2.s:=(h.pn x b o2 _ g2 g SA hxg hb hy hg (rwR (λ_ hx=>by cases hx))).resolve_left (λfk=>fk hB);cases o2 with
   |cells E3=>obtain⟨c0,t0,ZI,e1,e0,e2,e3,e4⟩:=fd;rw[hB,q1]at e1;injection e1 with e1;injection e1 with e1 XJ alu;subst e1;exact⟨c,t,fr',by rw[hB];exact mE,λgZ=>by omega,e2,e3,e4⟩
   |ro E3=>obtain⟨c0,t0,ZI,e1,e2,e3⟩:=fd;rw[hB,q1]at e1;injection e1 with e1;injection e1 with e1 XJ alu;subst e1;exact⟨c,t,fr',by rw[hB];exact mE,e2,e3⟩
   |map es j5=>obtain⟨_,_,gj,e1,_⟩:=fd;rw[hB,q1]at e1;cases e1
   |loop st mJ R nt ps asC bd=>obtain⟨_,_,r,e1,_⟩:=fd;rw[hB,q1]at e1;cases e1
   |mF s pos=>obtain⟨_,_,e1⟩:=fd;rw[hB,q1]at e1;cases e1
   |tc t2 E3=>obtain⟨b1,b2,b3,_⟩:=fd;omega
  ·exact fd.same (ji _ hB)
 ·exact ji B (λe=>by subst e;exact hm ⟨b,g,hg,rfl,pM⟩)
def mw(P:aj)(W:AW)(argTypes:Array ai)(p n:ae):Option (ae×AW):=match argTypes.toList with
 |[pt,_]=>match p,n with
  |.pointer q,.int .i64 (.ofNat m)=>if m=0 then some (.string .empty,W)else match q with
   |some a=>match P.underlying pt,W.get a.block with
    |some (.pointer e),some (.tc e' cs)=>if e=e'/\a.off=0/\m<=cs.length/\m<1099511627776 then match lX P e,xO (cs.take m)with
     |some 1,some l=>some (.string ⟨l.toArray⟩,W.kill a.block)
     |_,_=>none
     else none
    |_,_=>none
   |none=>none
  |_,_=>none
 |_=>none
def xW(hW:bt σ W w.heap){argTypes:Array ai}{ty:ai}{p n p' n' v:ae}{W':AW}(h:mw P W argTypes p n=some (v,W'))(hp:VR σ p p')(hn:VR σ n n'):
 ∃σ' v' w',(Builtin.unsafeString_ argTypes ty #[p',n']).run P w=.ok v' w'/\VR σ' v v'/\bt σ' W' w'.heap/\eW σ W w σ' W' w':=by
 unfold mw at h;split at h
 ·rename_i pt it mE;have DI:argTypes=#[pt,it]:=by rw[<-ic (xs:=argTypes),mE]
  subst DI;split at h
  ·rename_i q m;cases hn;split at h
   ·rename_i hm0;injection h with h;injection h with h1 h2;subst h1;subst h2;subst hm0;obtain⟨q',rfl⟩:∃q',p'=.pointer q':=by cases hp<;>exact⟨_,rfl⟩
    exact⟨σ,_,w,Lib.run_unsafeString_none w pt it ty q',.string _,hW,eW.refl _ _ _⟩
   ·rename_i hm0;split at h
    ·rename_i a;split at h
     ·rename_i e e' cs hu fj;split at h
      ·rename_i hc;obtain⟨rfl,HQ,hmc,hmb⟩:=hc;split at h
       ·rename_i l hz hl;injection h with h;injection h with h1 h2;subst h1;subst h2;cases hp with
        |ptr _ g hg hs=>
         obtain⟨a1,a2,a3,c,q1,q2,q3,q4⟩:=hW.obj a.block _ g fj hg;obtain⟨b1,b2⟩:=tN hl;obtain⟨_,_,_,hcz⟩:=yS hz;have eA:m=l.length:=by rw[<-b1,dF];omega
         have hgs:(⟨g.B,g.s+a.off,none⟩:aW)=⟨g.B,0,none⟩:=by rw[a1,HQ]
         obtain⟨f1,f2⟩:=hW.YO fj hg m;refine⟨σ,_,_,?_,.string _,f1,f2⟩;rw[hgs,eA];refine Lib.run_unsafeString_row w pt it ty e hu hcz g.B c.size (by simp[World.shape?,q1]) l (λe=>by subst e;simp at eA;omega) (by omega) (by omega) ?_;intro j x hj;have h3:=b2 j x hj;rw[mb]at h3;split at h3
         ·obtain⟨v',g1,g2⟩:=q4 j _ h3;cases g2;rw[dV];simp[World.cell?,q1,g1]
         ·cases h3
       ·cases h
      ·cases h
     ·cases h
    ·cases h
  ·cases h
 ·cases h
def qH(P:aj)(W:AW)(s d:ai)(x:ae):Option ae:=match x with
 |.slice (some a) n c=>(match P.underlying s,P.underlying d with
  |some (.slice e),some .string=>(match P.underlying e with
   |some (.int .u8)=>(match cy W (.slice (some a) n c) n with
    |some cs=>(match xO cs with
     |some l=>some (.string ⟨l.toArray⟩)
     |none=>none)
    |none=>none)
   |_=>none)
  |_,_=>none)
 |_=>none
def Cc(P:aj)(W:AW)(s d:ai)(x:ae)(alt:Option ae):Option ae:=match x with
 |.slice (some a) n c=>qH P W s d (.slice (some a) n c)
 |_=>alt
def EO(hW:bt σ W w.heap){s d:ai}{x x' v:ae}(h:qH P W s d x=some v)(hx:VR σ x x'):∃v',(convert s d x').run P w=.ok v' w/\VR σ v v':=by
 unfold qH at h;split at h;case h_2=>cases h
 rename_i a n c;split at h;case h_2=>cases h
 rename_i e hs hd;split at h;case h_2=>cases h
 rename_i he;split at h;case h_2=>cases h
 rename_i cs pw;split at h;case h_2=>cases h
 rename_i l hl;injection h with h;subst h;obtain⟨b1,b2⟩:=tN hl;rcases Nat.eq_zero_or_pos n with rfl|hn
 ·obtain rfl:cs=[]:=by unfold cy at pw;simp only[ax]at pw;injection pw with pw;exact pw.symm
  obtain rfl:l=[]:=jR.1 (by rw[<-b1];rfl);obtain⟨a',c',rfl⟩:∃a' c',x'=.slice (some a') 0 c':=by cases hx<;>exact⟨_,_,rfl⟩
  refine⟨.string ByteArray.empty,?_,.string _⟩;rw[run_convert_bytes_string w s d e _ 0 c' hs he hd,run_bytesToString w _ 0 c' [] (by simp[loadCells,loadCellsFrom])];rfl
 ·obtain⟨a',c',l',rfl,h1,h2,h3⟩:=il (z:=1) hW (by rw[ko];exact pw) hx (by omega);refine⟨_,?_,.string _⟩;rw[ko]at h2;have hln:l.length=n:=by rw[<-b1,h2]
  rw[run_convert_bytes_string w s d e _ n c' hs he hd,run_bytesToString w _ n c' (l.map λb=>(b.toNat:Int)) ?_]
  ·rw[foldl_push_bytes];congr 2;have:((λn:Int=>UInt8.ofNat n.toNat)∘λb:UInt8=>(b.toNat:Int))=id:=by funext b;simp
   simp[ByteArray.empty,ByteArray.emptyWithCapacity,this];rfl
  ·have:=BH (P:=P) w a' (l.map λb=>Value.int .u8 (b.toNat:Int)) (λj u hj=>by
    rw[jh]at hj;cases hlj:l[j]? with
    |none=>rw[hlj]at hj;cases hj
    |some y=>rw[hlj]at hj;injection hj with hj;subst hj;obtain⟨u',g1,g2⟩:=h1.get (b2 j y hlj);have:=h3 j u' g1;cases g2;exact this);simp only[gR,hln]at this;rw[this,List.map_map];rfl
end
end
section
variable [ak]
section
variable {P:aj} {σ:dj} {W:AW} {w:au}
def Oo(P:aj)(W:AW)(argTypes:Array ai)(d x:ae):Option (ae×AW):=
 match argTypes.toList with
 |t0::_=>match jU P t0,d,x with
  |some e,.slice base dl _,.slice xb sl xc=>match lX P e with
   |some z=>
    if Nat.min sl dl=0 then some (goInt 0,W)
    else if z=0 then none
    else match cy W (.slice xb sl xc) (Nat.min sl dl*z),base with
     |some new,some a=>(nc W a.block a.off new).map λW'=>(goInt (Nat.min sl dl),W')
     |_,_=>none
   |none=>none
  |_,_,_=>none
 |[]=>none
def Qt(hW:bt σ W w.heap){argTypes:Array ai}{ty:ai}{d x d' x' v:ae}{W':AW}(h:Oo P W argTypes d x=some (v,W'))(hd:VR σ d d')(hx:VR σ x x'):
 ∃v' w',(Builtin.copy_ argTypes ty #[d',x']).run P w=.ok v' w'/\VR σ v v'/\bt σ W' w'.heap/\eW σ W w σ W' w':=by
 have h0:∀(a':aW),(loadCells a' 0).run P w=.ok #[] w:=λa'=>by simp[loadCells,loadCellsFrom]
 unfold Oo at h;split at h
 ·rename_i t0 iZ mE;have DI:argTypes=(t0::iZ).toArray:=by rw[<-mE]
  subst DI;split at h
  ·rename_i e base dl dc xb sl xc he;have hu:=ny he;split at h
   ·rename_i z hz;have hxs:∃OM AP,x'=.slice OM sl AP:=by cases hx<;>exact⟨_,_,rfl⟩
    obtain⟨OM,AP,rfl⟩:=hxs;have Xj:∃b' c',d'=.slice b' dl c':=by cases hd<;>exact⟨_,_,rfl⟩
    obtain⟨db',dc',rfl⟩:=Xj;split at h
    ·rename_i hn;injection h with h;injection h with hv hw;subst hv;subst hw;refine⟨goInt 0,w,?_,.int _ _,hW,eW.refl _ _ _⟩;have hf:(Builtin.firstCells z 0 (.slice OM sl AP)).run P w=.ok #[] w:=by cases OM<;>simp[Builtin.firstCells,h0]
     have E6:min sl dl=0:=hn;cases db'<;>simp[Builtin.copy_,bU hu,Builtin.lenOf,bJ hz,hf,storeCells,hn,goInt]
    ·rename_i hn;split at h
     ·cases h
     ·rename_i Rn;split at h
      ·rename_i new a hr;cases ZN:nc W a.block a.off new with
       |none=>rw[ZN]at h;cases h
       |some W2=>
        rw[ZN]at h;simp only[cS,gJ,pA]at h;obtain⟨hv,hw⟩:=h;subst hw;subst hv;obtain⟨ip,h1,h2,h3⟩:=vQ (P:=P) hW hr hx;cases hd with
        |dH _ a' _ g hg np=>exact absurd (Nat.min_zero _) hn
        |slice _ _ _ c' g hg pf np=>obtain⟨w2,k1,k2,k3⟩:=rL (P:=P) hW ZN hg h1;refine⟨goInt (Nat.min sl dl),w2,?_,.int _ _,k2,k3⟩;have E6:Nat.min sl dl=min sl dl:=rfl;rw[E6]at h3;simp[Builtin.copy_,bU hu,Builtin.lenOf,bJ hz,h3,k1,goInt]
      ·cases h
   ·cases h
  ·cases h
 ·cases h
def HH(P:aj)(W:AW)(argTypes:Array ai)(x:ae):Option AW:=
 match argTypes.toList with
 |t0::_=>match jU P t0,x with
  |some e,.slice base n _=>match lX P e,kS P e with
   |some z,some zv=>
    if n=0 then some W
    else match base with
     |none=>none
     |some a=>if(Builtin.zeroCells zv.cells n).toList.all cG=true/\0<z then nc W a.block a.off (Builtin.zeroCells zv.cells n).toList else none
   |_,_=>none
  |_,_=>none
 |[]=>none
def Ls(hW:bt σ W w.heap){argTypes:Array ai}{ty:ai}{x x':ae}{W':AW}(h:HH P W argTypes x=some W')(hx:VR σ x x'):
 ∃w',(Builtin.clear_ argTypes ty #[x']).run P w=.ok (.tuple #[]) w'/\bt σ W' w'.heap/\eW σ W w σ W' w':=by
 unfold HH at h;split at h
 ·rename_i t0 iZ mE;have DI:argTypes=(t0::iZ).toArray:=by rw[<-mE]
  subst DI;split at h
  ·rename_i e base n c he;have hu:=ny he;split at h
   ·rename_i z zv hz hzv;obtain⟨yK,BL⟩:=gP hzv w;split at h
    ·rename_i hn;subst hn;injection h with h;subst h;refine⟨w,?_,hW,eW.refl _ _ _⟩;cases hx<;>simp[Builtin.clear_,bU hu]
    ·rename_i hn;split at h
     ·cases h
     ·rename_i a;split at h
      ·rename_i hc;cases hx with
       |dH _ a' _ g hg np=>exact absurd rfl hn
       |slice _ _ _ c' g hg pf np=>obtain⟨w2,k1,k2,k3⟩:=rL (P:=P) hW h hg (LR.mz (σ:=σ) (λ_=>eS) hc.1);refine⟨w2,?_,k2,k3⟩;obtain⟨m,rfl⟩:∃m,n=m+1:=⟨n-1,by omega⟩;simp[Builtin.clear_,bU hu,yK,k1]
      ·cases h
   ·cases h
  ·cases h
 ·cases h
def XG(k:aV)(n:Int)(h:k.min<=n/\n<=k.max):k.wrap n=n:=by obtain⟨h1,h2⟩:=h;cases k<;>simp[IntKind.wrap,IntKind.min,IntKind.max,IntKind.signed,IntKind.bits]at * <;>omega
def AF(k:aV)(n:Int):Int:=if k.min<=n/\n<=k.max then n else k.wrap n
def ym(k:aV)(n:Int):AF k n=k.wrap n:=by
 unfold AF;split
 ·rename_i h;exact(XG k n h).symm
 ·rfl
def wu(k:aV)(n:Int):ae:=
 Int.rec (motive:=λ_=>ae) (λa=>Nat.rec (motive:=λ_=>ae) (.int k (.ofNat 0)) (λm _=>.int k (.ofNat (Nat.succ m))) a)
  (λa=>Nat.rec (motive:=λ_=>ae) (.int k (.negSucc 0)) (λm _=>.int k (.negSucc (Nat.succ m))) a) n
def rl(k:aV)(n:Int):wu k n=.int k n:=by
 cases n with
 |ofNat a=>cases a<;>rfl
 |negSucc a=>cases a<;>rfl
def Fc(op:BinOp)(k:aV)(a b:Int):Option ae:=
 match op with
 |.add=>some (wu k (AF k (a+b)))
 |.sub=>some (wu k (AF k (a-b)))
 |.mul=>some (wu k (AF k (a*b)))
 |.eql=>some (.bool (decide (a=b)))
 |.neq=>some (.bool (!decide (a=b)))
 |.lss=>some (.bool (decide (a<b)))
 |.leq=>some (.bool (decide (a<=b)))
 |.gtr=>some (.bool (decide (b<a)))
 |.geq=>some (.bool (decide (b<=a)))
 |_=>none
def lm(P:aj)(W:AW)(t:ai)(x y:ae):Option Bool:=
 match P.underlying t,x,y with
 |some (.pointer _),.pointer none,.pointer b=>some b.isNone
 |some (.pointer _),.pointer (some _),.pointer none=>some false
 |some (.pointer e),.pointer (some a),.pointer (some b)=>match lX P e with
  |some (_+1)=>match W.get a.block,W.get b.block with
   |some (.cells ca),some (.cells cb)=>if a.block=b.block then some (decide (a.off=b.off))else if a.off<ca.length/\b.off<cb.length then some false else none
   |_,_=>none
  |_=>none
 |some (.slice _),.slice none _ _,.slice b _ _=>some b.isNone
 |some (.slice _),.slice (some _) _ _,.slice none _ _=>some false
 |some (.map _ _),.map none,.map b=>some b.isNone
 |some (.map _ _),.map (some _),.map none=>some false
 |some (.func _ _ _),.nilFunc,.nilFunc=>some true
 |some (.func _ _ _),.nilFunc,.func _ _ _=>some false
 |some (.func _ _ _),.func _ _ _,.nilFunc=>some false
 |_,_,_=>none
def Ud(hW:bt σ W w.heap){t:ai}{x y x' y':ae}{b:Bool}(h:lm P W t x y=some b)(hx:VR σ x x')(hy:VR σ y y')(d:Nat):
 (Op.equalIn (d+1) t x' y').run P w=.ok b w:=by
 unfold lm at h;split at h
 ·rename_i e b0 hu;injection h with h;subst h;cases hx;cases hy<;>simp[Op.equalIn,bU hu]
 ·rename_i e a0 hu;injection h with h;subst h;cases hx;cases hy;simp[Op.equalIn,bU hu]
 ·rename_i e a0 b0 hu;split at h
  ·rename_i n hn;split at h
   ·split at h
    ·rename_i XD;injection h with h;subst h;cases hx with
     |ptr _ g hg hs=>
      cases hy with
      |ptr _ g2 K1 nI=>
       rw[<-XD,hg]at K1;injection K1 with K1;subst K1;have amq:((⟨g.B,g.s+a0.off,none⟩:aW)==⟨g.B,g.s+b0.off,none⟩)=decide (a0.off=b0.off):=by rw[qu];simp
       simp[Op.equalIn,bU hu,bJ hn,sameAddr,amq]
    ·rename_i ca cb hca Ev XD;split at h
     ·rename_i kX;injection h with h;subst h;cases hx with
      |ptr _ g hg hs=>
       cases hy with
       |ptr _ g2 K1 nI=>
        obtain⟨c1,t1,fr1,p1,p0,p2,p3,_⟩:=hW.obj _ _ g hca hg;obtain rfl:=p0 (by omega);obtain⟨c2,t2,fr2,q1,q0,q2,q3,_⟩:=hW.obj _ _ g2 Ev K1;obtain rfl:=q0 (by omega);have hd:=hW.pn _ _ _ _ g g2 XD hca Ev hg K1 rfl;have fk:(⟨g.B,g.s+a0.off,none⟩:aW)≠⟨g2.B,g2.s+b0.off,none⟩:=by
         intro he;injection he with e1 e2 _;rcases hd with r|r|r
         ·exact r e1
         ·omega
         ·omega
        simp[Op.equalIn,bU hu,bJ hn,run_sameAddr_other w fk p1 q1]
     ·cases h
   ·cases h
  ·cases h
 ·rename_i e _ _ b0 _ _ hu;injection h with h;subst h;cases hx;cases hy<;>simp[Op.equalIn,bU hu]
 ·rename_i e a0 _ _ _ _ hu;injection h with h;subst h;cases hx<;>cases hy<;>simp[Op.equalIn,bU hu]
 ·rename_i k e b0 hu;injection h with h;subst h;cases hx;cases hy<;>simp[Op.equalIn,bU hu]
 ·rename_i k e a0 hu;injection h with h;subst h;cases hx;cases hy;simp[Op.equalIn,bU hu]
 ·rename_i ps rs vv hu;injection h with h;subst h;cases hx;cases hy;simp[Op.equalIn,bU hu]
 ·rename_i ps rs vv _ _ _ hu;injection h with h;subst h;cases hx;cases hy;simp[Op.equalIn,bU hu]
 ·rename_i ps rs vv _ _ _ hu;injection h with h;subst h;cases hx;cases hy;simp[Op.equalIn,bU hu]
 ·cases h
end
end
section
variable [ak]
section
variable {P:aj} {σ:dj} {W:AW} {w:au}
def FR(σ:dj):Option (Nat×ae)->Option (Nat×ae)->Prop
 |none,none=>True
 |some (i,v),some (j,v')=>i=j/\VR σ v v'
 |_,_=>False
def ER.of_cons{e:bn}{l m:List bn}(h:ER σ (e::l) m):∃e' l',m=e'::l'/\VR σ e.key e'.key/\VR σ e.val e'.val/\e.born=e'.born/\ER σ l l':=by
 cases m with
 |nil=>have:=h.1;simp at this
 |cons e' l'=>have h0:=h.2 0 e e' (by simp) (by simp);exact⟨e',l',rfl,h0.1,h0.2.1,h0.2.2,by have:=h.1;simpa using this,λi u u' a b=>h.2 (i+1) u u' (by simpa using a) (by simpa using b)⟩
def ER.of_nil{m:List bn}(h:ER σ [] m):m=[]:=by have:=h.1;simp at this;exact t7 this.symm
def ER.nil:ER σ [] []:=⟨rfl,λi e e' a=>by simp at a⟩
def gK(es:List bn):Bool:=es.all λe=>bC e.key
def IP(kind:TypeDesc)(k:ae):∀(es gj:List bn) (i:Nat) (r:Option (Nat×ae)),ER σ es gj->gK es=true->Instr.findNow kind k es i=some r->
 ∃r',Instr.findNow kind k gj i=some r'/\FR σ r r':=by
 intro es;induction es with
 |nil=>intro gj i r h _ hf;have:=h.of_nil;subst this;simp only[Instr.findNow]at hf|-;injection hf with hf;subst hf;exact⟨none,rfl,aA⟩
 |cons e es ih=>
  intro gj i r h hp hf;obtain⟨e',l',rfl,hk,hv,_,hl⟩:=h.of_cons;simp only[gK,fa,bK]at hp;have Sz:=fC hp.1 hk;simp only[Instr.findNow]at hf|-;rw[Sz];cases hs:Instr.sameNow kind k e.key with
  |none=>rw[hs]at hf;cases hf
  |some b=>
   rw[hs]at hf;cases b with
   |true=>simp only at hf|-;injection hf with hf;subst hf;exact⟨_,rfl,rfl,hv⟩
   |false=>simp only at hf|-;exact ih l' (i+1) r hl hp.2 hf
def RE(P:aj)(kt:ai)(k:ae):List bn->Nat->Option (Option (Nat×ae))
 |[],_=>some none
 |e::es,i=>match cI P (Op.equal kt k e.key)with
  |some true=>some (some (i,e.val))
  |some false=>RE P kt k es (i+1)
  |none=>none
def uq(kt:ai)(k:ae):∀(es gj:List bn) (i:Nat) (r:Option (Nat×ae)),ER σ es gj->gK es=true->RE P kt k es i=some r->
 ∃r',(Instr.findAsking kt k gj i).run P w=.ok r' w/\FR σ r r':=by
 intro es;induction es with
 |nil=>intro gj i r h _ hf;have:=h.of_nil;subst this;simp only[RE]at hf;injection hf with hf;subst hf;exact⟨none,rfl,aA⟩
 |cons e es ih=>
  intro gj i r h hp hf;obtain⟨e',l',rfl,hk,hv,_,hl⟩:=h.of_cons;simp only[gK,fa,bK]at hp;have Sz:=fC hp.1 hk;simp only[RE]at hf;cases hs:cI P (Op.equal kt k e.key)with
  |none=>rw[hs]at hf;cases hf
  |some b=>
   rw[hs]at hf;have hr:=pQ _ hs w;rw[<-Sz]at hr;cases b with
   |true=>simp only at hf;injection hf with hf;subst hf;exact⟨some (i,e'.val),by simp[Instr.findAsking,hr],rfl,hv⟩
   |false=>simp only at hf;obtain⟨r',h1,h2⟩:=ih l' (i+1) r hl hp.2 hf;exact⟨r',by simp[Instr.findAsking,hr,h1],h2⟩
def T8(P:aj)(kt:ai)(k:ae)(es:List bn):Option (Option (Nat×ae)):=
 if bC k=true/\gK es=true then
  match P.underlying kt with
  |some kind=>match Instr.findNow kind k es 0 with
   |some r=>some r
   |none=>none
  |none=>none
 else none
def wD(P:aj)(kt:ai)(k:ae)(es:List bn):Option (Option (Nat×ae)):=
 match T8 P kt k es with
 |some r=>some r
 |none=>if bC k=true/\gK es=true then
  match P.underlying kt with
  |some (.array n e)=>(match Instr.findNow (.array n e) k es 0 with|some _=>none|none=>RE P kt k es 0)
  |some (.struct fs)=>(match Instr.findNow (.struct fs) k es 0 with|some _=>none|none=>RE P kt k es 0)
  |_=>none
  else none
def xY(kind:TypeDesc)(k:ae):∀(es gj:List bn) (i:Nat),ER σ es gj->gK es=true->Instr.findNow kind k es i=none->Instr.findNow kind k gj i=none:=by
 intro es;induction es with
 |nil=>intro gj i h _ hf;simp[Instr.findNow]at hf
 |cons e es ih=>
  intro gj i h hp hf;obtain⟨e',l',rfl,hk,hv,_,hl⟩:=h.of_cons;simp only[gK,fa,bK]at hp;have Sz:=fC hp.1 hk;simp only[Instr.findNow]at hf|-;rw[Sz];cases hs:Instr.sameNow kind k e.key with
  |none=>rfl
  |some b=>
   rw[hs]at hf;cases b with
   |true=>simp at hf
   |false=>simp only at hf|-;exact ih l' (i+1) hl hp.2 hf
def qM{kt:ai}{k k':ae}{es gj:List bn}{r:Option (Nat×ae)}(h:wD P kt k es=some r)(hk:VR σ k k')(he:ER σ es gj):
 ∃r',(Instr.findKey kt k' gj).run P w=.ok r' w/\FR σ r r'/\k'=k:=by
 unfold wD at h;split at h
 ·rename_i r0 h0;injection h with h;subst h;unfold T8 at h0;split at h0
  ·rename_i hc;have Sz:=fC hc.1 hk;subst Sz;split at h0
   ·rename_i kind hu;split at h0
    ·rename_i r1 h1;injection h0 with h0;subst h0;obtain⟨r',a,b⟩:=IP kind k' es gj 0 r1 he hc.2 h1;exact⟨r',by simp[Instr.findKey,bU hu,a],b,rfl⟩
    ·cases h0
   ·cases h0
  ·cases h0
 ·split at h
  ·rename_i hc;have Sz:=fC hc.1 hk;subst Sz;split at h
   ·rename_i n e hu;split at h
    ·cases h
    ·rename_i h1;obtain⟨r',a,b⟩:=uq (P:=P) (w:=w) kt k' es gj 0 r he hc.2 h;exact⟨r',by simp[Instr.findKey,bU hu,xY _ _ es gj 0 he hc.2 h1,a],b,rfl⟩
   ·rename_i fs hu;split at h
    ·cases h
    ·rename_i h1;obtain⟨r',a,b⟩:=uq (P:=P) (w:=w) kt k' es gj 0 r he hc.2 h;exact⟨r',by simp[Instr.findKey,bU hu,xY _ _ es gj 0 he hc.2 h1,a],b,rfl⟩
   ·cases h
  ·cases h
def tA(P:aj)(empty:Bool)(kt:ai)(k:ae):Bool:=
 bC k&&(cI P (Instr.checkKey empty 10000 kt k)).isSome
def jX{empty:Bool}{kt:ai}{k k':ae}(h:tA P empty kt k=true)(hk:VR σ k k')(w:au):(Instr.checkKey empty 10000 kt k').run P w=.ok () w:=by
 simp only[tA,bK]at h;rw[fC h.1 hk];cases hp:cI P (Instr.checkKey empty 10000 kt k)with
 |none=>rw[hp]at h;simp at h
 |some u=>exact pQ _ hp w
def B1{z:ae}(h:z.cells.toList.all cG=true):VR σ z z:=by
 cases z with
 |agg cs=>exact VR.Ny (LR.mz (λ_=>eS) h)
 |_=>exact eS (by simpa[Value.cells]using h)
def BP(hW:bt σ W w.heap){r:Nat}{g:tu}{es:List bn}{c:Nat}(hr:W.get r=some (.map es c))(hg:σ r=some g):
 g.s=0/\g.e=1/\∃gj:Array bn,w.heap[g.B]? =some (.map gj c)/\ER σ es gj.toList:=hW.obj r _ g hr hg
def run_getObj_map{B:Nat}{es:Array bn}{c:Nat}(h:w.heap[B]? =some (.map es c)):(getObj B).run P w=.ok (.map es c) w:=by simp[getObj,Sem.run,h]
def ka{B:Nat}{es:Array bn}{c:Nat}(o:nv)(h:w.heap[B]? =some (.map es c)):(setObj B o).run P w=.ok () {w with heap:=w.heap.setIfInBounds B o}:=by simp[setObj,Sem.run,h]
def wb(P:aj)(e:ai)(ok:Bool)(r:Option (Nat×ae)):Option ae:=
 match r with
 |some (_,v)=>some (if ok then .tuple #[v,.bool true]else v)
 |none=>match kS P e with
  |some z=>some (if ok then .tuple #[z,.bool false]else z)
  |none=>none
def ms(P:aj)(W:AW)(t:ai)(m k:ae)(ok:Bool):Option ae:=
 match P.underlying t,m with
 |some (.map kt e),.map none=>if tA P true kt k then wb P e ok none else none
 |some (.map kt e),.map (some r)=>match W.get r with
  |some (.map es _)=>if tA P es.isEmpty kt k then match wD P kt k es with
   |some r=>wb P e ok r
   |none=>none
   else none
  |_=>none
 |_,_=>none
def Gj{a b a' b':ae}(h1:VR σ a a')(h2:VR σ b b'):VR σ (.tuple #[a,b]) (.tuple #[a',b']):=VR.tuple' (by simpa using LR.cons h1 (.cons h2 .nil))
def IN(kt:ai)(d:TypeDesc)(hu:P.underlying kt=some d)(k:ae):(Instr.findKey kt k []).run P w=.ok none w:=by simp[Instr.findKey,bU hu,Instr.findNow]
def EB{kt:ai}(h:P.underlying kt=none)(empty:Bool)(d:Nat)(k:ae):(Instr.checkKey empty (d+1) kt k).run P w=.halt (.stuck "no such type") w:=by simp[Instr.checkKey,underlying,h]
def JM{empty:Bool}{kt:ai}{k:ae}(h:tA P empty kt k=true):∃d,P.underlying kt=some d:=by
 simp only[tA,bK]at h;cases hp:cI P (Instr.checkKey empty 10000 kt k)with
 |none=>rw[hp]at h;simp at h
 |some u=>
  have hr:=pQ (P:=P) _ hp default;cases hd:P.underlying kt with
  |some d=>exact⟨d,rfl⟩
  |none=>exfalso;have h1:(Instr.checkKey empty 10000 kt k).run P default=.halt (.stuck "no such type") default:=EB hd empty 9999 k;rw[h1]at hr;cases hr
def AC{es:List bn}{gj:Array bn}(h:ER σ es gj.toList):gj.isEmpty=es.isEmpty:=by obtain⟨l⟩:=gj;have h1:=h.1;cases es<;>cases l<;>first|rfl|(simp at h1;done)|simp
def GF(gj:Array bn)(i:Nat):(gj.eraseIdxIfInBounds i).toList=gj.toList.eraseIdx i:=by
 unfold Array.eraseIdxIfInBounds;split
 ·simp
 ·rename_i hi;rw[List.eraseIdx_of_length_le];simp;omega
def QA(gj:Array bn)(i:Nat)(hi:i<gj.size)(k v:ae):gj.modify i (λe=>{e with key:=k,val:=v})=gj.setIfInBounds i {gj[i]with key:=k,val:=v}:=by
 apply Array.ext_getElem?;intro n;rw[z7,HR];by_cases hn:i=n
 ·subst hn;simp[hi]
 ·simp[hn]
def Km(hW:bt σ W w.heap){t:ai}{m k m' k' v:ae}{ok:Bool}(h:ms P W t m k ok=some v)(hm:VR σ m m')(hk:VR σ k k'):
 ∃v',(Instr.lookup t m' k' ok).run P w=.ok v' w/\VR σ v v':=by
 unfold ms at h;split at h
 ·rename_i kt e hu;split at h
  ·rename_i Qv;cases hm;obtain⟨d,hd⟩:=JM Qv;simp only[wb]at h;split at h
   ·rename_i z hz;injection h with h;subst h;obtain⟨yK,BL⟩:=gP hz w;refine⟨if ok then .tuple #[z,.bool false]else z,?_,?_⟩
    ·simp[Instr.lookup,bU hu,jX Qv hk w,IN kt d hd,yK]
    ·cases ok
     ·exact B1 BL
     ·exact Gj (B1 BL) (.bool false)
   ·cases h
  ·cases h
 ·rename_i kt e r hu;split at h
  ·rename_i es c hr;split at h
   ·rename_i Qv;split at h
    ·rename_i fr hf;cases hm with
     |map _ g hg=>
      obtain⟨g1,g2,gj,g3,g4⟩:=BP hW hr hg;obtain⟨r',f1,f2,f3⟩:=qM (w:=w) hf hk g4;have UF:=AC g4;cases fr with
      |some p=>
       cases r' with
       |none=>exact f2.elim
       |some p'=>
        simp only[wb]at h;injection h with h;subst h;refine⟨if ok then .tuple #[p'.2,.bool true]else p'.2,?_,?_⟩
        ·simp only[Instr.lookup,cJ,bU hu,cF,run_getObj_map g3,fP,UF,jX Qv hk w,f1]
        ·cases ok
         ·exact f2.2
         ·exact Gj f2.2 (.bool true)
      |none=>
       cases r' with
       |some p'=>exact f2.elim
       |none=>
        simp only[wb]at h;split at h
        ·rename_i z hz;injection h with h;subst h;obtain⟨yK,BL⟩:=gP hz w;refine⟨if ok then .tuple #[z,.bool false]else z,?_,?_⟩
         ·simp only[Instr.lookup,cJ,bU hu,cF,run_getObj_map g3,fP,UF,jX Qv hk w,f1,yK]
         ·cases ok
          ·exact B1 BL
          ·exact Gj (B1 BL) (.bool false)
        ·cases h
    ·cases h
   ·cases h
  ·cases h
 ·cases h
def jI(P:aj)(W:AW)(t:ai)(m k v:ae):Option AW:=
 match P.underlying t,m with
 |some (.map kt _),.map (some r)=>match W.get r with
  |some (.map es c)=>if tA P false kt k then match wD P kt k es with
   |some (some (i,_))=>match es[i]? with
    |some e=>if Instr.sameBits 10000 e.key k=true/\bC e.key=true then some (W.put r (.map (es.set i {e with key:=k,val:=v}) c))else none
    |none=>none
   |some none=>some (W.put r (.map (es++[{key:=k,val:=v,born:=c}]) (c+1)))
   |none=>none
   else none
  |_=>none
 |_,_=>none
def ER.set{es gj:List bn}(h:ER σ es gj)(i:Nat){e e':bn}(hk:VR σ e.key e'.key)(hv:VR σ e.val e'.val)(hb:e.born=e'.born):ER σ (es.set i e) (gj.set i e'):=by
 refine⟨by simp[h.1],λj a b x y=>?_⟩;rw[sa]at x y;by_cases hn:i=j
 ·subst hn;simp only[bh]at x y;split at x
  ·split at y
   ·simp at x y;subst x;subst y;exact⟨hk,hv,hb⟩
   ·cases y
  ·cases x
 ·rw[ay hn]at x y;exact h.2 j a b x y
def ER.snoc{es gj:List bn}(h:ER σ es gj){e e':bn}(hk:VR σ e.key e'.key)(hv:VR σ e.val e'.val)(hb:e.born=e'.born):ER σ (es++[e]) (gj++[e']):=by
 refine⟨by simp[h.1],λj a b x y=>?_⟩;rw[wv]at x y;rw[<-h.1]at y;split at x
 ·rename_i hj;rw[ax hj]at y;exact h.2 j a b x y
 ·rename_i hj;rw[ay hj]at y;cases hjj:j-es.length with
  |zero=>rw[hjj]at x y;simp at x y;subst x;subst y;exact⟨hk,hv,hb⟩
  |succ n=>rw[hjj]at x;simp at x
def ER.erase{es gj:List bn}(h:ER σ es gj)(i:Nat):ER σ (es.eraseIdx i) (gj.eraseIdx i):=by
 refine⟨by simp[List.length_eraseIdx,h.1],λj a b x y=>?_⟩;rw[List.getElem?_eraseIdx]at x y;split at x
 ·rename_i hj;rw[ax hj]at y;exact h.2 _ a b x y
 ·rename_i hj;rw[ay hj]at y;exact h.2 _ a b x y
def BC(hW:bt σ W w.heap){r:Nat}{g:tu}{es Zm:List bn}{gj:Array bn}{c c2:Nat}(hr:W.get r=some (.map es c))(hg:σ r=some g)(h1:g.s=0)(h2:g.e=1)(h3:w.heap[g.B]? =some (.map gj c))
 (XI:Array bn)(he:ER σ Zm XI.toList):
 bt σ (W.put r (.map Zm c2)) (w.heap.setIfInBounds g.B (.map XI c2))/\eW σ W w σ (W.put r (.map Zm c2)) {w with heap:=w.heap.setIfInBounds g.B (.map XI c2)}:=by
 have gZ:g.B<w.heap.size:=(dW.1 h3).1;exact hW.setObj hr (λ_ hx=>by cases hx) hg ⟨h1,h2⟩ (λc t fr hx=>by rw[h3]at hx;cases hx)
  ⟨h1,h2,XI,by simp[gZ],he⟩
def Ee(hW:bt σ W w.heap){t:ai}{m k v m' k' v':ae}{W':AW}(h:jI P W t m k v=some W')(hm:VR σ m m')(hk:VR σ k k')(hv:VR σ v v'):
 ∃w',(Instr.mapUpdate t m' k' v').run P w=.ok () w'/\bt σ W' w'.heap/\eW σ W w σ W' w':=by
 unfold jI at h;split at h
 ·rename_i kt e r hu;split at h
  ·rename_i es c hr;split at h
   ·rename_i Qv;cases hm with
    |map _ g hg=>
     obtain⟨g1,g2,gj,g3,g4⟩:=BP hW hr hg;split at h
     ·rename_i i u hf;obtain⟨r',f1,f2,f3⟩:=qM (w:=w) hf hk g4;subst f3;split at h
      ·rename_i en hen;split at h
       ·rename_i hsb;injection h with h;subst h;cases r' with
        |none=>exact f2.elim
        |some p=>
         obtain⟨j,u'⟩:=p;obtain⟨rfl,_⟩:=f2;have qC:i<gj.size:=by have h0:=(du.1 hen).1;have:=g4.1;simp at this;omega
         have amS:gj[i]? =some gj[i]:=g9 qC;have hee:=g4.2 i en gj[i] hen (by simp[qC]);have anx:gj[i].key=en.key:=fC hsb.2 hee.1;obtain⟨q1,q2⟩:=BC (c2:=c) hW hr hg g1 g2 g3 (gj.setIfInBounds i {gj[i]with key:=k',val:=v'}) (Zm:=es.set i {en with key:=k',val:=v})
          (by rw[G9];exact g4.set i (e:={en with key:=k',val:=v}) (e':={gj[i]with key:=k',val:=v'}) hk hv hee.2.2)
         refine⟨_,?_,q1,q2⟩;have adD:=QA gj i qC k' v';have hks:(Instr.keyThatStays (((gj[i]?).map (·.key)).getD k') k').run P w=.ok k' w:=by rw[amS];simp only[cS,rZ,anx,Instr.keyThatStays];rw[ax hsb.1];rfl
         simp only[Instr.mapUpdate,cJ,bU hu,cF,run_getObj_map g3,jX Qv hk w,f1,hks,adD];exact ka _ g3
       ·cases h
      ·cases h
     ·rename_i hf;obtain⟨r',f1,f2,f3⟩:=qM (w:=w) hf hk g4;subst f3;injection h with h;subst h;cases r' with
      |some p=>exact f2.elim
      |none=>
       obtain⟨q1,q2⟩:=BC (c2:=c+1) hW hr hg g1 g2 g3 (gj.push {key:=k',val:=v',born:=c}) (Zm:=es++[{key:=k',val:=v,born:=c}])
        (by rw[Array.toList_push];exact g4.snoc (e:={key:=k',val:=v,born:=c}) (e':={key:=k',val:=v',born:=c}) hk hv rfl)
       refine⟨_,?_,q1,q2⟩;simp only[Instr.mapUpdate,cJ,bU hu,cF,run_getObj_map g3,jX Qv hk w,f1];exact ka _ g3
     ·cases h
   ·cases h
  ·cases h
 ·cases h
def nD(P:aj)(W:AW)(argTypes:Array ai)(m k:ae):Option AW:=
 match argTypes.toList with
 |t::_=>match P.underlying t,m with
  |some (.map kt _),.map none=>if tA P true kt k then some W else none
  |some (.map kt _),.map (some r)=>match W.get r with
   |some (.map es c)=>if tA P es.isEmpty kt k then match wD P kt k es with
    |some (some (i,_))=>some (W.put r (.map (es.eraseIdx i) c))
    |some none=>some (W.put r (.map es c))
    |none=>none
    else none
   |_=>none
  |_,_=>none
 |[]=>none
def KI(hW:bt σ W w.heap){argTypes:Array ai}{ty:ai}{m k m' k':ae}{W':AW}(h:nD P W argTypes m k=some W')(hm:VR σ m m')(hk:VR σ k k'):
 ∃w',(Builtin.delete_ argTypes ty #[m',k']).run P w=.ok (.tuple #[]) w'/\bt σ W' w'.heap/\eW σ W w σ W' w':=by
 unfold nD at h;split at h
 ·rename_i t iZ mE;have DI:argTypes=(t::iZ).toArray:=by rw[<-mE]
  subst DI;split at h
  ·rename_i kt e hu;split at h
   ·rename_i Qv;injection h with h;subst h;cases hm;refine⟨w,?_,hW,eW.refl _ _ _⟩;simp[Builtin.delete_,bU hu,jX Qv hk w]
   ·cases h
  ·rename_i kt e r hu;split at h
   ·rename_i es c hr;split at h
    ·rename_i Qv;cases hm with
     |map _ g hg=>
      obtain⟨g1,g2,gj,g3,g4⟩:=BP hW hr hg;have UF:=AC g4;split at h
      ·rename_i i u hf;obtain⟨r',f1,f2,f3⟩:=qM (w:=w) hf hk g4;subst f3;injection h with h;subst h;cases r' with
       |none=>exact f2.elim
       |some p=>
        obtain⟨j,u'⟩:=p;obtain⟨rfl,_⟩:=f2;obtain⟨q1,q2⟩:=BC (c2:=c) hW hr hg g1 g2 g3 (gj.eraseIdxIfInBounds i) (Zm:=es.eraseIdx i)
         (by rw[GF];exact g4.erase i)
        refine⟨_,?_,q1,q2⟩;have hso:=ka (P:=P) (.map (gj.eraseIdxIfInBounds i) c) g3;simp[Builtin.delete_,bU hu,run_getObj_map g3,UF,jX Qv hk w,f1,hso]
      ·rename_i hf;obtain⟨r',f1,f2,f3⟩:=qM (w:=w) hf hk g4;subst f3;injection h with h;subst h;cases r' with
       |some p=>exact f2.elim
       |none=>obtain⟨q1,q2⟩:=BC (c2:=c) hW hr hg g1 g2 g3 gj (Zm:=es) g4;refine⟨_,?_,q1,q2⟩;have hso:=ka (P:=P) (.map gj c) g3;simp[Builtin.delete_,bU hu,run_getObj_map g3,UF,jX Qv hk w,f1,hso]
      ·cases h
    ·cases h
   ·cases h
  ·cases h
 ·cases h
end
end
section
variable [ak]
def xy(P:aj)(t:ai)(cs:Array ae)(off:Nat):Option ae:=
 match Sg P t with
 |some true=>match lX P t with
  |some n=>some (.agg (cs.extract off (off+n)))
  |none=>none
 |some false=>cs[off]?
 |none=>none
def SM(P:aj)(g:ai->ae->ae->Option Bool)(xs ys:Array ae):List Field->Option Bool
 |[]=>some true
 |f::fs=>if f.name= "_" then none else match xy P f.type xs f.offset,xy P f.type ys f.offset with
  |some a,some b=>(match g f.type a b with
   |some true=>SM P g xs ys fs
   |some false=>some false
   |none=>none)
  |_,_=>none
def Ba(P:aj):Nat->ai->ae->ae->Option Bool
 |0,_,_,_=>none
 |n+1,t,x,y=>match P.underlying t with
  |some (.int _)=>(match x,y with
   |.int k a,.int k' b=>if k=k' then some (a==b)else none
   |_,_=>none)
  |some .bool=>(match x,y with
   |.bool a,.bool b=>some (a==b)
   |_,_=>none)
  |some (.struct fs)=>(match x,y with
   |.agg xs,.agg ys=>if P.stoodInHeld t=true then none else SM P (Ba P n) xs ys fs.toList
   |_,_=>none)
  |_=>none
def Ei(P:aj)(t:ai)(x y:ae):Option Bool:=match x,y with
 |.agg _,.agg _=>if P.eqGuardType P.depth t=true then none else Ba P 8 t x y
 |_,_=>none
def ot(P:aj)(W:AW)(op:BinOp)(t:ai)(x y:ae):Option ae:=
 match x,y with
 |.int k a,.int k' b=>if k=k' then Fc op k a b else none
 |_,_=>match op with
  |.eql=>(match lm P W t x y with
   |some b=>some (.bool b)
   |none=>(Ei P t x y).map .bool)
  |.neq=>(match lm P W t x y with
   |some b=>some (.bool !b)
   |none=>(Ei P t x y).map λb=>.bool !b)
  |_=>none
def mL(t:ai)(cs:List ae):eF:=match cs with
 |[.pointer none,.slice none 0 0]=>.tc t [.pointer none,.slice none 0 0]
 |cs=>.cells cs
def EX(P:aj)(o:ao)(R:ak.Fr)(W:AW):Option (ae×AW):=
 match o.op with
 |.move x|.assign x=>some (aC R x,W)
 |.pick c a b=>match aC R c with
  |.bool true=>some (aC R a,W)
  |.bool false=>some (aC R b,W)
  |_=>none
 |.alloc t=>match kS P t with
  |some z=>some (W.new (mL t z.cells.toList) λb W'=>(Value.pointer (some ⟨b,0,none⟩),W'))
  |none=>none
 |.box _ x=>some (W.new (.cells (aC R x).cells.toList) λb W'=>(Value.pointer (some ⟨b,0,none⟩),W'))
 |.build t ps=>(wi P R t ps).map λv=>(v,W)
 |.buildSlice t len ps=>jV P R W t len ps
 |.load t a=>(ja P W t (aC R a)).map λv=>(v,W)
 |.store t a x=>(wA P W t (aC R a) (aC R x)).map λW'=>(ag,W')
 |.nilCheck x=>match aC R x with
  |.pointer (some a)=>some (.pointer (some a),W)
  |.func (.func f) a b=>some (.func (.func f) a b,W)
  |.func (.yield l) a b=>some (.func (.yield l) a b,W)
  |.iface t v=>some (.iface t v,W)
  |_=>none
 |.binOp op t x y _=>match ot P W op t (aC R x) (aC R y)with
  |some v=>some (v,W)
  |none=>(iS P R o).map λv=>(v,W)
 |.unOp .. =>(iS P R o).map λv=>(v,W)
 |.convert s d x=>(Cc P W s d (aC R x) (iS P R o)).map λv=>(v,W)
 |.makeInterface t x=>match P.underlying t with
  |some (.interface _)=>none
  |some _=>some (.iface t (aC R x),W)
  |none=>none
 |.makeFunc (.func f) first iQ=>some (.func (.func f) (first.map (aC R)) (iQ.map (aC R)),W)
 |.makeMap t r=>match r with
  |none=>some (W.new (.map [] 0) λb W'=>(Value.map (some b),W'))
  |some h=>match P.underlying t,aC R h with
   |some (.map _ _),.int _ _=>some (W.new (.map [] 0) λb W'=>(Value.map (some b),W'))
   |_,_=>none
 |.makeSlice t l c=>lM P W t (aC R l) (aC R c)
 |.slice t x lo hi mx=>match mS P t (aC R x) (lo.map (aC R)) (hi.map (aC R)) (mx.map (aC R))with
  |some v=>some (v,W)
  |none=>(iS P R o).map λv=>(v,W)
 |.fieldAddr s x f=>match P.underlying s,aC R x with
  |some (.struct fs),.pointer (some a)=>match fs[f]? with
   |some fl=>match lX P fl.type with
    |some (_+1)=>some (.pointer (some (a.add fl.offset)),W)
    |_=>none
   |none=>none
  |_,_=>none
 |.field t x f=>match P.underlying t,aC R x with
  |some (.struct fs),.agg cs=>match fs[f]? with
   |some fl=>(xy P fl.type cs fl.offset).map λv=>(v,W)
   |none=>none
  |_,_=>none
 |.indexAddr t x i=>match P.underlying t,aC R x,lD (aC R i)with
  |some (.slice e),.slice (some a) len _,some n=>match lX P e with
   |some z=>if n<len then some (.pointer (some (a.add (n*z))),W)else none
   |none=>none
  |some (.array len e),.pointer (some a),some n=>match lX P e with
   |some z=>if n<len then some (.pointer (some (a.add (n*z))),W)else none
   |none=>none
  |_,_,_=>none
 |.index t x i=>match P.underlying t,aC R x,lD (aC R i)with
  |some (.array len e),.agg cs,some n=>match lX P e with
   |some z=>if n<len then(xy P e cs (n*z)).map λv=>(v,W)else none
   |none=>none
  |_,_,_=>(iS P R o).map λv=>(v,W)
 |.lookup t m k ok=>(ms P W t (aC R m) (aC R k) ok).map λv=>(v,W)
 |.mapUpdate t m k v=>(jI P W t (aC R m) (aC R k) (aC R v)).map λW'=>(ag,W')
 |.extract x i=>match aC R x with
  |.tuple vs=>(vs[i]?).map λv=>(v,W)
  |_=>none
 |.typeAssert x _ t ok=>match P.underlying t,aC R x with
  |some (.interface _),_=>none
  |some _,.iface u v=>if u=t then some (if ok then .tuple #[v,.bool true]else v,W)else none
  |_,_=>none
 |.range t x=>match P.underlying t,aC R x with
  |some .string,.string s=>some (W.new (.mF s 0) λb W'=>(Value.pointer (some ⟨b,0,none⟩),W'))
  |_,_=>none
 |.next it true=>match aC R it with
  |.pointer (some ⟨b,0,_⟩)=>match W.get b with
   |some (.mF s pos)=>if pos<s.size then some (.tuple #[.bool true,goInt pos,.int .i32 (Utf8.decode s pos).1],W.put b (.mF s (pos+(Utf8.decode s pos).2)))else some (.tuple #[.bool false],W)
   |_=>none
  |_=>none
 |_=>none
section
variable {P:aj} {σ:dj} {W:AW} {w:au}
def VR.io{b:Bool}{v:ae}(h:VR σ (.bool b) v):v=.bool b:=by cases h;rfl
def VR.Ek{b:ByteArray}{v:ae}(h:VR σ (.string b) v):v=.string b:=by cases h;rfl
def VR.yj{a:aW}{v:ae}(h:VR σ (.pointer (some a)) v):∃g,σ a.block=some g/\a.spot=none/\v=.pointer (some ⟨g.B,g.s+a.off,none⟩):=by
 cases h with
 |ptr a g h hs=>exact⟨g,h,hs,rfl⟩
def VR.Q4{a:aW}{l c:Nat}{v:ae}(h:VR σ (.slice (some a) l c) v):(∃g c',σ a.block=some g/\a.spot=none/\Hs g a.off l c c'/\v=.slice (some ⟨g.B,g.s+a.off,none⟩) l c')\/(l=0/\∃a',v=.slice (some a') 0 0):=by
 cases h with
 |slice a l c c' g h hs hc=>exact .inl ⟨g,c',h,hs,hc,rfl⟩
 |dH a a' c g h hc=>exact .inr ⟨rfl,a',rfl⟩
def VR.zy{t:ai}{u v:ae}(h:VR σ (.iface t u) v):∃u',VR σ u u'/\v=.iface t u':=by
 cases h with
 |iface t u u' h=>exact⟨u',h,rfl⟩
def VR.OL{cs:Array ae}{v:ae}(h:VR σ (.agg cs) v):∃cP,LR σ cs.toList cP.toList/\v=.agg cP:=by
 cases h with
 |agg cs cP h1 h2=>exact⟨cP,.v8 h1 h2,rfl⟩
def VR.Pq{cs:Array ae}{v:ae}(h:VR σ (.tuple cs) v):∃cP,LR σ cs.toList cP.toList/\v=.tuple cP:=by
 cases h with
 |tuple cs cP h1 h2=>exact⟨cP,.v8 h1 h2,rfl⟩
def VR.kB{fn:Fn}{fs cs:Array ae}{v:ae}(h:VR σ (.func fn fs cs) v):∃Fa tW cP,VU σ fn Fa/\LR σ fs.toList tW.toList/\LR σ cs.toList cP.toList/\v=.func Fa tW cP:=by
 cases h with
 |func fn Fa fs tW cs cP hf h1 h2 h3 h4=>exact⟨Fa,tW,cP,hf,.v8 h1 h2,.v8 h3 h4,rfl⟩
def VR.pE{k:aV}{n:Int}{v:ae}(h:VR σ (.int k n) v):v=.int k n:=by cases h;rfl
def vp{t:ai}{cs cP:Array ae}{off:Nat}{v:ae}(h:xy P t cs off=some v)(hc:LR σ cs.toList cP.toList)(w:au):
 ∃v',(part t cP off).run P w=.ok v' w/\VR σ v v':=by
 unfold xy at h;split at h
 ·rename_i ha;split at h
  ·rename_i n hn;injection h with h;subst h;refine⟨.agg (cP.extract off (off+n)),by simp[part,rO ha,bJ hn],VR.Ny ?_⟩;simp only[Array.toList_extract,Hp];exact(hc.drop off).take _
  ·cases h
 ·rename_i ha;obtain⟨v',h1,h2⟩:=hc.get (i:=off) (v:=v) (by simpa using h);refine⟨v',?_,h2⟩;have UB:cP[off]? =some v':=by simpa using h1
  simp[part,rO ha,UB]
 ·cases h
def VR.xq{xs:Array ae}{v:ae}(h:VR σ (.agg xs) v):∃ys,v=.agg ys/\LR σ xs.toList ys.toList:=by
 cases h with
 |agg _ cP h1 h2=>exact⟨cP,rfl,by simpa using h1,λi v v' a b=>h2 i v v' (by simpa using a) (by simpa using b)⟩
def S2:∀(n:Nat) {t:ai} {x y x' y':ae} {b:Bool},Ba P n t x y=some b->VR σ x x'->VR σ y y'->∀d,(Op.equalIn (n+d) t x' y').run P w=.ok b w:=by
 intro n;induction n with
 |zero=>intro t x y x' y' b h;cases h
 |succ n ih=>
  intro t x y x' y' b h hx hy d;rw[show n+1+d=(n+d)+1 by omega];unfold Ba at h;split at h
  ·rename_i k0 hu;split at h
   ·rename_i k a k' c;split at h
    ·rename_i hk;subst hk;injection h with h;subst h;rw[hx.pE,hy.pE];exact run_equalIn_int w _ t k k0 a c hu
    ·cases h
   ·cases h
  ·rename_i hu;split at h
   ·rename_i a c;injection h with h;subst h;rw[hx.io,hy.io];exact run_equalIn_bool' w _ t a c hu
   ·cases h
  ·rename_i fs hu;split at h
   ·rename_i xs ys;split at h
    ·cases h
    rename_i nS;obtain⟨xs',rfl,hxs⟩:=hx.xq;obtain⟨ys',rfl,hys⟩:=hy.xq;have hfo:P.fieldsOf t=fs:=by unfold Program.fieldsOf;rw[hu]
    rw[run_equalIn_struct w (n+d) t xs' ys' (by rw[hfo];exact hu) (by simpa using nS),hfo];generalize fs.toList=l at h;induction l with
    |nil=>injection h with h;subst h;simp[Op.eqFields]
    |cons f l ihl=>
     unfold SM at h;split at h
     ·cases h
     rename_i qR;split at h
     ·rename_i a c ha hc;obtain⟨a',ra,va⟩:=vp (P:=P) ha hxs w;obtain⟨c',rc,vc⟩:=vp (P:=P) hc hys w;unfold Op.eqFields;rw[ax qR,cJ,ra,cF,cJ,rc,cF,cJ];split at h
      ·rename_i he;rw[ih he va vc d,cF];simpa using ihl h
      ·rename_i he;injection h with h;subst h;rw[ih he va vc d,cF];simp
      ·cases h
     ·cases h
   ·cases h
  ·cases h
def WR(P:aj)(W:AW)(t:ai)(a b:Array ae):lm P W t (.agg a) (.agg b)=none:=by
 unfold lm;cases P.underlying t with
 |none=>rfl
 |some d=>cases d<;>rfl
def Fu{P:aj}{t:ai}{x y:ae}{b:Bool}(h:Ei P t x y=some b)(W:AW):lm P W t x y=none:=by
 unfold Ei at h;split at h
 ·exact WR P W t _ _
 ·cases h
def IS{t:ai}{x y x' y':ae}{b:Bool}(h:Ei P t x y=some b)(hx:VR σ x x')(hy:VR σ y y')(p q:aq):
 (do eqGuard .eql t p q x' y';binOp .eql t x' y':Sem ae).run P w=.ok (.bool b) w/\(do eqGuard .neq t p q x' y';binOp .neq t x' y':Sem ae).run P w=.ok (.bool !b) w:=by
 unfold Ei at h;split at h
 ·rename_i xs ys;split at h
  ·cases h
  rename_i hg;obtain⟨xs',rfl,hxs⟩:=hx.xq;obtain⟨ys',rfl,hys⟩:=hy.xq;have hr:(Op.equalIn 10000 t (.agg xs') (.agg ys')).run P w=.ok b w:=S2 (w:=w) 8 h hx hy 9992;have N8:P.eqGuardType P.depth t=false:=by simpa using hg
  refine⟨?_,?_⟩
  ·rw[cJ,run_eqGuard_agg _ _ _ _ _ _ _ N8,cF,run_eql_struct,hr,cF]
  ·rw[cJ,run_eqGuard_agg _ _ _ _ _ _ _ N8,cF,run_neq_struct,hr,cF]
 ·cases h
def Ue(hW:bt σ W w.heap){op:BinOp}{t yt:ai}{x y:aq}{ρ:aq->ae}{u u' v:ae}{dst:Option Tmp}{type:ai}{pos:String}{after:Array Edge}{guard:Option (Nat×Bool)}
 (h:ot P W op t u u'=some v)(hx:VR σ u (ρ x))(hy:VR σ u' (ρ y)):
 ∃v',(execOp ρ {dst,op:=.binOp op t x y yt,type,pos,after,guard}).run P w=.ok (.value v') w/\VR σ v v':=by
 unfold ot at h;split at h
 ·rename_i k a k' b;split at h
  ·rename_i hk;subst hk;have ex:ρ x=.int k a:=hx.pE;have ey:ρ y=.int k b:=hy.pE;refine⟨v,?_,?_⟩
   ·have hg:∀(A B:ae),(eqGuard op t x y (.int k a) (.int k b)).run P w=.ok () w:=by intro _ _;unfold eqGuard;split<;>simp
    simp only[execOp,ex,ey,cJ,hg .nilIface .nilIface,cF];unfold Fc at h;split at h<;>(try(cases h;done))<;>(injection h with h;subst h;try simp only[rl,ym])<;>
     simp[binOp,Op.intArith,Op.intCmp,bne]<;>(try rfl)
   ·unfold Fc at h;split at h<;>(try(cases h;done))<;>(injection h with h;subst h;try simp only[rl])<;>first|exact .int _ _|exact .bool _
  ·cases h
 ·have key:∀b,lm P W t u u'=some b->(Op.equal t (ρ x) (ρ y)).run P w=.ok b w:=λb hb=>Ud hW hb hx hy 9999
  have shp:∀b,lm P W t u u'=some b->(∀(op:BinOp),(eqGuard op t x y (ρ x) (ρ y)).run P w=.ok () w)/\(binOp .eql t (ρ x) (ρ y)=(do pure (.bool (<-Op.equal t (ρ x) (ρ y)))))/\(binOp .neq t (ρ x) (ρ y)=(do pure (.bool (!(<-Op.equal t (ρ x) (ρ y)))))):=by
   intro b hb;unfold lm at hb;split at hb<;>first
    |(cases hb;done)
    |(generalize ρ x=rx at *
      generalize ρ y=ry at *
      cases hx<;>cases hy<;>refine⟨λop=>?_,rfl,rfl⟩<;>(unfold eqGuard;split<;>simp))
  split at h
  ·cases he:lm P W t u u' with
   |none=>
    rw[he]at h;cases ht:Ei P t u u' with
    |none=>rw[ht]at h;cases h
    |some b=>rw[ht]at h;simp only[cS,gJ]at h;subst h;have:=(IS (w:=w) ht hx hy x y).1;exact⟨.bool b,by simp only[execOp];rw[cJ,this];rfl,.bool b⟩
   |some b=>rw[he]at h;simp only[gJ]at h;subst h;obtain⟨s1,s2,s3⟩:=shp b he;exact⟨.bool b,by simp[execOp,s1,s2,key b he],.bool b⟩
  ·cases he:lm P W t u u' with
   |none=>
    rw[he]at h;cases ht:Ei P t u u' with
    |none=>rw[ht]at h;cases h
    |some b=>rw[ht]at h;simp only[cS,gJ]at h;subst h;have:=(IS (w:=w) ht hx hy x y).2;exact⟨.bool (!b),by simp only[execOp];rw[cJ,this];rfl,.bool _⟩
   |some b=>rw[he]at h;simp only[gJ]at h;subst h;obtain⟨s1,s2,s3⟩:=shp b he;exact⟨.bool (!b),by simp[execOp,s1,s3,key b he],.bool _⟩
  ·cases h
def vB(P:aj)(σ:dj)(W:AW)(w:au)(s:Sem Next)(v:ae)(W':AW):Prop:=
 ∃σ' nx v' w',s.run P w=.ok nx w'/\(nx=.value v'\/(nx=.skip/\v'=ag))/\VR σ' v v'/\bt σ' W' w'.heap/\eW σ W w σ' W' w'
def vB.value{s:Sem ae}{v v':ae}{nx:Sem Next}(hn:nx=(do pure (.value (<-s))))(hW:bt σ W w.heap)(h:s.run P w=.ok v' w)(hv:VR σ v v'):vB P σ W w nx v W:=
 ⟨σ,.value v',v',w,by rw[hn];simp[h],.inl rfl,hv,hW,eW.refl _ _ _⟩
def vB.kK{s:Sem ae}{v:ae}{W':AW}{nx:Sem Next}(hn:nx=(do pure (.value (<-s))))(h:∃σ' v' w',s.run P w=.ok v' w'/\VR σ' v v'/\bt σ' W' w'.heap/\eW σ W w σ' W' w'):vB P σ W w nx v W':=by obtain⟨σ',v',w',h1,h2,h3,h4⟩:=h;exact⟨σ',.value v',v',w',by rw[hn];simp[h1],.inl rfl,h2,h3,h4⟩
def vB.unit{s:Sem Unit}{W':AW}{nx:Sem Next}(hn:nx=(do s;pure .skip))(h:∃w',s.run P w=.ok () w'/\bt σ W' w'.heap/\eW σ W w σ W' w'):vB P σ W w nx ag W':=by obtain⟨w',h1,h2,h3⟩:=h;exact⟨σ,.skip,ag,w',by rw[hn];simp[h1],.inr ⟨rfl,rfl⟩,.undef,h2,h3⟩
def vB.same{v v':ae}{nx:Sem Next}(hn:nx=pure (.value v'))(hW:bt σ W w.heap)(hv:VR σ v v'):vB P σ W w nx v W:=
 ⟨σ,.value v',v',w,by rw[hn];rfl,.inl rfl,hv,hW,eW.refl _ _ _⟩
def vB.ZS{R:ak.Fr}{ρ:aq->ae}{o:ao}{v:ae}(hW:bt σ W w.heap)(h:iS P R o=some v)(hρ:∀x∈o.op.operands,VR σ (aC R x) (ρ x)):vB P σ W w (execOp ρ o) v W:=by obtain⟨h1,h2⟩:=Q3 (P:=P) h hρ w;exact⟨σ,.value v,v,w,h1,.inl rfl,h2,hW,eW.refl _ _ _⟩
def Yv(hW:bt σ W w.heap)(t:ai){cs cP:List ae}(hc:LR σ cs cP):
 ∃σ' v' w',((do pure (.pointer (some (<-newRow t cP.toArray)))):Sem ae).run P w=.ok v' w'/\VR σ' (.pointer (some ⟨W.next,0,none⟩)) v'/\bt σ' (W.add (.cells cs)) w'.heap/\eW σ W w σ' (W.add (.cells cs)) w':=by
 obtain⟨h1,h2,h3,h4⟩:=wC (P:=P) hW t hc;have hv:=VR.ptr (σ:=cq σ W.next ⟨w.heap.size,0,cs.length⟩) ⟨W.next,0,none⟩ _ h2 rfl;exact⟨_,.pointer (some ⟨w.heap.size,0,none⟩),{w with heap:=w.heap.push (.cells cP.toArray t)},by simp[h1],by simpa using hv,h3,h4⟩
def Ft(t:ai)(cs:List ae):∀ds,mL t cs≠ .ro ds:=by intro ds;unfold mL;split<;>simp
def DD{σ:dj}{h:Array nv}{B:Nat}{t:ai}{cs cP:List ae}(hc:LR σ cs cP)(hB:h[B]? =some (.cells cP.toArray t (0,0))):lO σ h ⟨B,0,cs.length⟩ (mL t cs):=by
 have hl:=hc.1;unfold mL;split
 ·refine⟨rfl,by simp,⟨by simp[maxLen],λ_=>rfl⟩,cP.toArray,hB,by simp,by simpa using hl,λi v hv=>?_⟩;obtain⟨v',a,b⟩:=hc.get hv;exact⟨v',by simpa using a,b⟩
 ·refine⟨cP.toArray,t,(0,0),hB,λ_=>rfl,by simp,by simp[hl],λi v hv=>?_⟩;obtain⟨v',a,b⟩:=hc.get hv;exact⟨v',by simpa using a,b⟩
def Wy(hW:bt σ W w.heap)(t:ai){cs cP:List ae}(hc:LR σ cs cP):
 ∃σ' v' w',((do pure (.pointer (some (<-newRow t cP.toArray)))):Sem ae).run P w=.ok v' w'/\VR σ' (.pointer (some ⟨W.next,0,none⟩)) v'/\bt σ' (W.add (mL t cs)) w'.heap/\eW σ W w σ' (W.add (mL t cs)) w':=by
 have hv:=VR.ptr (σ:=cq σ W.next ⟨w.heap.size,0,cs.length⟩) ⟨W.next,0,none⟩ _ dy rfl;obtain⟨h3,h4⟩:=hW.alloc (o:=mL t cs) (x:=.cells cP.toArray t) (e:=cs.length) (DD (hc.mono (dD hW.fresh)) (by simp)) (Ft t cs);exact⟨_,.pointer (some ⟨w.heap.size,0,none⟩),{w with heap:=w.heap.push (.cells cP.toArray t)},by simp[newRow],by simpa using hv,h3,h4⟩
def MU{R:ak.Fr}{ρ:aq->ae}{x:Option aq}(h:∀y,x=some y->VR σ (aC R y) (ρ y)):OR σ (x.map (aC R)) (x.map ρ):=by
 cases x with
 |none=>trivial
 |some y=>exact h y rfl
def BJ{R:ak.Fr}{ρ:aq->ae}(a:Array aq)(h:∀y∈a,VR σ (aC R y) (ρ y)):LR σ (a.map (aC R)).toList (a.map ρ).toList:=by
 refine⟨by simp,λi v v' x y=>?_⟩;simp only[Array.toList_map,jh]at x y;cases hq:a.toList[i]? with
 |none=>rw[hq]at x;cases x
 |some q=>rw[hq]at x y;simp at x y;subst x;subst y;exact h q (by simpa using qw hq)
def Pg(hW:bt σ W w.heap):
 ∃σ' v' w',((do pure (.map (some (<-newObj (.map #[] 0))))):Sem ae).run P w=.ok v' w'/\VR σ' (.map (some W.next)) v'/\bt σ' (W.add (.map [] 0)) w'.heap/\eW σ W w σ' (W.add (.map [] 0)) w':=by
 have h:=hW.alloc (o:=.map [] 0) (x:=.map #[] 0) (e:=1) ⟨rfl,rfl,#[],by rw[ss];simp,.nil⟩;exact⟨_,.map (some w.heap.size),{w with heap:=w.heap.push (.map #[] 0)},by simp,.map _ _ dy,h.1,h.2⟩
set_option maxHeartbeats 1000000 in
def N0(hW:bt σ W w.heap){o:ao}{R:ak.Fr}{ρ:aq->ae}{v:ae}{W':AW}(h:EX P o R W=some (v,W'))(hρ:∀x∈o.op.operands,VR σ (aC R x) (ρ x)):
 vB P σ W w (execOp ρ o) v W':=by
 have JA:∀u,iS P R o=some u->vB P σ W w (execOp ρ o) u W:=λu hu=>.ZS hW hu hρ
 have hO:∀(x:Option ae),(x.map λv=>(v,W))=some (v,W')->x=some v/\W'=W:=by
  intro x hx;cases x with
  |none=>cases hx
  |some u=>simp at hx;exact⟨by rw[hx.1],hx.2.symm⟩
 have Z2:∀(x:Option AW),(x.map λW'=>(ag,W'))=some (v,W')->x=some W'/\v=ag:=by
  intro x hx;cases x with
  |none=>cases hx
  |some u=>simp at hx;exact⟨by rw[hx.2],hx.1.symm⟩
 obtain⟨dst,op,type,pos,after,guard⟩:=o;cases op<;>simp only[EX]at h<;>simp only[Op.operands]at hρ;case move x=>injection h with h;injection h with h1 h2;subst h1;subst h2;exact .same rfl hW (hρ x (by simp))
 case assign x=>injection h with h;injection h with h1 h2;subst h1;subst h2;exact .same rfl hW (hρ x (by simp))
 case pick c a b=>
  have hc:=hρ c (by simp);split at h<;>(try(cases h;done))<;>rename_i np<;>rw[np]at hc
  ·injection h with h;injection h with h1 h2;subst h1;subst h2;have:=hc.io;exact⟨σ,.value (ρ a),ρ a,w,by simp[execOp,this,asBool],.inl rfl,hρ a (by simp),hW,eW.refl _ _ _⟩
  ·injection h with h;injection h with h1 h2;subst h1;subst h2;have:=hc.io;exact⟨σ,.value (ρ b),ρ b,w,by simp[execOp,this,asBool],.inl rfl,hρ b (by simp),hW,eW.refl _ _ _⟩
 case alloc t=>
  split at h
  ·rename_i z hz;injection h with h;rw[AW.dG]at h;injection h with h1 h2;subst h1;subst h2;obtain⟨yK,BL⟩:=gP hz w;refine .kK rfl ?_;obtain⟨σ',v',w',a,b,c⟩:=Wy (P:=P) hW t (cs:=z.cells.toList) (cP:=z.cells.toList) (BU BL);refine⟨σ',v',w',?_,b,c⟩;rw[<-a];simp[Instr.alloc,yK,newVar]
  ·cases h
 case box t x=>injection h with h;rw[AW.dG]at h;injection h with h1 h2;subst h1;subst h2;refine .kK rfl ?_;obtain⟨σ',v',w',a,b,c⟩:=Yv (P:=P) hW t (hρ x (by simp)).cells;refine⟨σ',v',w',?_,b,c⟩;rw[<-a];simp[Instr.box,newVar]
 case build t ps=>obtain⟨hb,rfl⟩:=hO _ h;obtain⟨v',h1,h2⟩:=MD hb (λp hp=>hρ p.2 (by simp;exact⟨p.1,by simpa using hp⟩)) w;exact .value rfl hW h1 h2
 case buildSlice t len ps=>exact .kK rfl (A9 hW h (λp hp=>hρ p.2 (by simp;exact⟨p.1,by simpa using hp⟩)))
 case insert=>cases h
 case load t a=>obtain⟨hb,rfl⟩:=hO _ h;obtain⟨v',h1,h2⟩:=FV hW hb (hρ a (by simp));exact .value rfl hW h1 h2
 case store t a x=>obtain⟨hb,rfl⟩:=Z2 _ h;exact .unit rfl (NG hW hb (hρ a (by simp)) (hρ x (by simp)))
 case ready=>cases h
 case waits=>cases h
 case nilCheck x=>
  have hx:=hρ x (by simp);split at h<;>(try(cases h;done))<;>rename_i np<;>rw[np]at hx<;>injection h with h<;>injection h with h1 h2<;>subst h1<;>subst h2
  ·obtain⟨g,_,_,e⟩:=hx.yj;exact⟨σ,.value (ρ x),ρ x,w,by simp[execOp,e],.inl rfl,hx,hW,eW.refl _ _ _⟩
  ·obtain⟨Fa,tW,cP,hf,_,_,e⟩:=hx.kB;cases hf;exact⟨σ,.value (ρ x),ρ x,w,by simp[execOp,e],.inl rfl,hx,hW,eW.refl _ _ _⟩
  ·obtain⟨Fa,tW,cP,hf,_,_,e⟩:=hx.kB;cases hf;exact⟨σ,.value (ρ x),ρ x,w,by simp[execOp,e],.inl rfl,hx,hW,eW.refl _ _ _⟩
  ·obtain⟨u',_,e⟩:=hx.zy;exact⟨σ,.value (ρ x),ρ x,w,by simp[execOp,e],.inl rfl,hx,hW,eW.refl _ _ _⟩
 case binOp op t x y yt=>
  split at h
  ·rename_i u hb;injection h with h;injection h with h1 h2;subst h1;subst h2;obtain⟨v',h1,h2⟩:=Ue (dst:=dst) (type:=type) (pos:=pos) (after:=after) (guard:=guard) (yt:=yt) hW hb (hρ x (by simp)) (hρ y (by simp));exact⟨σ,.value v',v',w,h1,.inl rfl,h2,hW,eW.refl _ _ _⟩
  ·obtain⟨hb,rfl⟩:=hO _ h;exact JA _ hb
 case unOp=>obtain⟨hb,rfl⟩:=hO _ h;exact JA _ hb
 case convert s d x=>
  obtain⟨hb,rfl⟩:=hO _ h;unfold Cc at hb;split at hb
  ·rename_i a0 n0 c0 xX;obtain⟨v',a,b⟩:=EO hW hb (by rw[<-xX];exact hρ x (by simp));exact .value rfl hW a b
  ·exact JA _ hb
 case sliceToArrayPointer=>cases h
 case makeInterface t x=>
  split at h
  ·cases h
  ·rename_i d hd hu;injection h with h;injection h with h1 h2;subst h1;subst h2;refine .value rfl hW (v':=.iface t (ρ x)) ?_ (.iface _ _ _ (hρ x (by simp)));simp only[Instr.makeInterface,cJ,bU hu,cF];cases d<;>first|rfl|exact absurd rfl (hd _)
  ·cases h
 case makeFunc fn first iQ=>
  cases fn<;>(try(simp only[]at h;cases h;done));rename_i f0;simp only at h;injection h with h;injection h with h1 h2;subst h1;subst h2;have k1:=BJ first (λy hy=>hρ y (by simp[hy]))
  have k2:=BJ iQ (λy hy=>hρ y (by simp[hy]));exact .value (s:=Instr.makeFunc (.func f0) (first.map ρ) (iQ.map ρ)) rfl hW rfl (.func _ _ _ _ _ _ (.func f0) k1.arr.1 k1.arr.2 k2.arr.1 k2.arr.2)
 case makeMap t r=>
  split at h
  ·injection h with h;rw[AW.dG]at h;injection h with h1 h2;subst h1;subst h2;refine .kK rfl ?_;obtain⟨σ',v',w',a,b,c⟩:=Pg (P:=P) hW;exact⟨σ',v',w',by rw[<-a];simp[Instr.makeMap],b,c⟩
  ·rename_i hh;split at h
   ·rename_i kt e kd n hu he;injection h with h;rw[AW.dG]at h;injection h with h1 h2;subst h1;subst h2;refine .kK rfl ?_;obtain⟨σ',v',w',a,b,c⟩:=Pg (P:=P) hW;have hv:=hρ hh (by simp);rw[he]at hv;exact⟨σ',v',w',by rw[<-a];simp[Instr.makeMap,bU hu,hv.pE,asInt,asIntOf],b,c⟩
   ·cases h
 case makeChan=>cases h
 case makeSlice t l c=>exact .kK rfl (CS hW h (hρ l (by simp)) (hρ c (by simp)))
 case slice t x lo hi mx=>
  split at h
  ·rename_i u hs;injection h with h;injection h with h1 h2;subst h1;subst h2;obtain⟨v',a,b⟩:=MI hs (hρ x (by simp)) (MU (λy hy=>hρ y (by simp[hy]))) (MU (λy hy=>hρ y (by simp[hy]))) (MU (λy hy=>hρ y (by simp[hy]))) w;exact .value rfl hW a b
  ·obtain⟨hb,rfl⟩:=hO _ h;exact JA _ hb
 case fieldAddr s x f=>
  split at h
  ·rename_i fs a hu xX;split at h
   ·rename_i fl hfl;split at h
    ·rename_i n hn;injection h with h;injection h with h1 h2;subst h1;subst h2;have hx:=hρ x (by simp);rw[xX]at hx;obtain⟨g,hg,pf,e⟩:=hx.yj;refine .value rfl hW (v':=.pointer (some ⟨g.B,g.s+(a.add fl.offset).off,none⟩)) ?_ (.ptr _ g (by rw[gL];exact hg) (oN _ _ pf));simp[Instr.fieldAt,bU hu,hfl,e,Instr.sureAddr,fieldPlace,bJ hn,dV,pJ,nh]
    ·cases h
   ·cases h
  ·cases h
 case field t x f=>
  split at h
  ·rename_i fs cs hu xX;split at h
   ·rename_i fl hfl;obtain⟨hb,rfl⟩:=hO _ h;have hx:=hρ x (by simp);rw[xX]at hx;obtain⟨cP,hc,e⟩:=hx.OL;obtain⟨v',a,b⟩:=vp (P:=P) hb hc w;exact .value rfl hW (by simp[Instr.field,bU hu,hfl,e,asAgg,a]) b
   ·cases h
  ·cases h
 case indexAddr t x i=>
  have hi:=hρ i (by simp);have hx:=hρ x (by simp);split at h
  ·rename_i e a len cap n hu xX hn;obtain⟨k,qC⟩:=uW hn hi;rw[xX]at hx;split at h
   ·rename_i z hz;split at h
    ·rename_i gZ;injection h with h;injection h with h1 h2;subst h1;subst h2;rcases hx.Q4 with⟨g,c',hg,pf,hc,e'⟩|⟨h0,_⟩
     ·refine .value rfl hW (v':=.pointer (some ⟨g.B,g.s+(a.add (n*z)).off,none⟩)) ?_ (.ptr _ g (by rw[gL];exact hg) (oN _ _ pf));simp[Instr.indexAt,qC,e',asIntOf,bU hu,gZ,bJ hz,dV,pJ,nh]
     ·omega
    ·cases h
   ·cases h
  ·rename_i len e a n hu xX hn;obtain⟨k,qC⟩:=uW hn hi;rw[xX]at hx;split at h
   ·rename_i z hz;split at h
    ·rename_i gZ;injection h with h;injection h with h1 h2;subst h1;subst h2;obtain⟨g,hg,pf,e'⟩:=hx.yj;refine .value rfl hW (v':=.pointer (some ⟨g.B,g.s+(a.add (n*z)).off,none⟩)) ?_ (.ptr _ g (by rw[gL];exact hg) (oN _ _ pf));simp[Instr.indexAt,qC,e',asIntOf,bU hu,Instr.sureAddr,gZ,bJ hz,dV,pJ,nh]
    ·cases h
   ·cases h
  ·cases h
 case index t x i=>
  have hi:=hρ i (by simp);have hx:=hρ x (by simp);split at h
  ·rename_i len e cs n hu xX hn;obtain⟨k,qC⟩:=uW hn hi;rw[xX]at hx;split at h
   ·rename_i z hz;split at h
    ·rename_i gZ;obtain⟨hb,rfl⟩:=hO _ h;obtain⟨cP,hc,e'⟩:=hx.OL;obtain⟨v',a,b⟩:=vp (P:=P) hb hc w;exact .value rfl hW (by simp[Instr.index,qC,e',asIntOf,bU hu,gZ,bJ hz,a]) b
    ·cases h
   ·cases h
  ·obtain⟨hb,rfl⟩:=hO _ h;exact JA _ hb
 case lookup t m k ok=>obtain⟨hb,rfl⟩:=hO _ h;obtain⟨v',a,b⟩:=Km hW hb (hρ m (by simp)) (hρ k (by simp));exact .value rfl hW a b
 case mapUpdate t m k u=>obtain⟨hb,rfl⟩:=Z2 _ h;exact .unit rfl (Ee hW hb (hρ m (by simp)) (hρ k (by simp)) (hρ u (by simp)))
 case mapEntry=>cases h
 case entryStore=>cases h
 case range t x=>
  split at h
  ·rename_i s hu xX;injection h with h;rw[AW.dG]at h;injection h with h1 h2;subst h1;subst h2;have hx:=hρ x (by simp);rw[xX]at hx;have hal:=hW.alloc (o:=.mF s 0) (x:=.stringIter s 0) (e:=1) ⟨rfl,rfl,by rw[ss];simp⟩;have hv:=VR.ptr (σ:=cq σ W.next ⟨w.heap.size,0,1⟩) ⟨W.next,0,none⟩ _ dy rfl;exact .kK rfl ⟨_,.pointer (some ⟨w.heap.size,0,none⟩),{w with heap:=w.heap.push (.stringIter s 0)},by simp[Instr.range,bU hu,hx.Ek],by simpa using hv,hal.1,hal.2⟩
  ·cases h
 case next it isS=>
  cases isS<;>simp only at h
  ·cases h
  have hx:=hρ it (by simp);split at h
  ·rename_i b sp XA;rw[XA]at hx;obtain⟨g,hg,pf,e⟩:=hx.yj;split at h
   ·rename_i s ps fj;obtain⟨g1,g2,g3⟩:=hW.obj b _ g fj hg;have Nq:(getObj g.B).run P w=.ok (.stringIter s ps) w:=by simp[getObj,Sem.run,g3]
    have e2:ρ it=.pointer (some ⟨g.B,0,none⟩):=by rw[e];simp[g1]
    split at h
    ·rename_i gZ;injection h with h;injection h with h1 h2;subst h1;subst h2;have anr:g.B<w.heap.size:=(dW.1 g3).1;have hso:(setObj g.B (.stringIter s (ps+(Utf8.decode s ps).2))).run P w=.ok () {w with heap:=w.heap.setIfInBounds g.B (.stringIter s (ps+(Utf8.decode s ps).2))}:=by simp[setObj,Sem.run,g3]
     have hq:=hW.setObj (o':=.mF s (ps+(Utf8.decode s ps).2)) (x:=.stringIter s (ps+(Utf8.decode s ps).2)) fj (λ_ hx=>by cases hx) hg ⟨g1,g2⟩ (λc t fr hx=>by rw[g3]at hx;cases hx) ⟨g1,g2,by simp[anr]⟩;exact .kK rfl ⟨σ,.tuple #[.bool true,goInt ps,.int .i32 (Utf8.decode s ps).1],_,by simp[Instr.next,e2,Nq,gZ,hso],VR.tuple' (by simpa[goInt]using LR.cons (.bool true) (.cons (.int _ _) (.cons (.int _ _) .nil))),hq.1,hq.2⟩
    ·rename_i gZ;injection h with h;injection h with h1 h2;subst h1;subst h2;exact .value rfl hW (v':=.tuple #[.bool false]) (by simp[Instr.next,e2,Nq,gZ]) (VR.tuple' (by simpa using LR.cons (.bool false) .nil))
   ·cases h
  ·cases h
 case entry=>cases h
 case typeAssert x xt t ok=>
  split at h
  ·cases h
  ·rename_i d u v0 hd hu xX;split at h
   ·rename_i hut;subst hut;injection h with h;injection h with h1 h2;subst h1;subst h2;have hx:=hρ x (by simp);rw[xX]at hx;obtain⟨u',h1,e⟩:=hx.zy;refine .value rfl hW (v':=if ok then .tuple #[u',.bool true]else u') ?_ ?_
    ·simp only[Instr.typeAssert,cJ,bU hu,cF,e];cases d<;>first|(simp;done)|exact absurd rfl (hd _)
    ·cases ok
     ·exact h1
     ·exact Gj h1 (.bool true)
   ·cases h
  ·cases h
 case extract x i=>
  split at h
  ·rename_i vs xX;obtain⟨hb,rfl⟩:=hO _ h;have hx:=hρ x (by simp);rw[xX]at hx;obtain⟨cP,hc,e⟩:=hx.Pq;obtain⟨v',a,b⟩:=hc.get (i:=i) (v:=v) (by simpa using hb);have a':cP[i]? =some v':=by simpa using a
   exact .value rfl hW (v':=v') (by simp[Instr.extract,e,a']) b
  ·cases h
 case call=>cases h
 case go=>cases h
 case defer=>cases h
 case panic=>cases h
 case send=>cases h
 case recv=>cases h
 case select=>cases h
end
end
section
variable [ak]
abbrev Callee:=ae->List ae->AW->Option (ae×AW)
def FE(ro:Option Nat):Fence:={Fence.wide with round:=ro}
def iI(P:aj)(o:ao)(b:Builtin)(argTypes:Array ai)(args:List ae)(R:ak.Fr)(W:AW):Option (ae×AW):=
 match b,args with
 |.len,[.slice _ n _]=>match(argTypes[0]?).bind P.underlying with
  |some (.slice _)=>some (goInt n,W)
  |_=>none
 |.len,[.map none]=>match(argTypes[0]?).bind P.underlying with
  |some (.map _ _)=>some (goInt 0,W)
  |_=>none
 |.len,[.map (some r)]=>match(argTypes[0]?).bind P.underlying,W.get r with
  |some (.map _ _),some (.map es _)=>some (goInt es.length,W)
  |_,_=>none
 |.append,[s,x]=>yx P W argTypes s x
 |.copy,[d,x]=>Oo P W argTypes d x
 |.clear,[x]=>(HH P W argTypes x).map λW'=>(.tuple #[],W')
 |.delete,[m,k]=>(nD P W argTypes m k).map λW'=>(.tuple #[],W')
 |.unsafeSliceData,[x]=>(sD x).map λv=>(v,W)
 |.unsafeString,[p,n]=>mw P W argTypes p n
 |_,_=>(iS P R o).map λv=>(v,W)
def qI(P:aj)(t:ai)(name:String):Option hZ:=
 match P.info? t,P.underlying t with
 |some i,some d=>match i.methods.find? (·.name==name)with
  |some m=>match m.path.toList,m.func,d with
   |[],some (f,true),.pointer _=>if 0<P.types.size then some f else none
   |_,_,_=>none
  |none=>none
 |_,_=>none
def gW(P:aj)(call:Callee)(o:ao)(R:ak.Fr)(W:AW):Option (ae×AW):=
 match o.op with
 |.call c=>match c.callee with
  |.builtin b=>iI P o b c.argTypes (c.args.toList.map (aC R)) R W
  |.value f=>call (aC R f) (c.args.toList.map (aC R)) W
  |.invoke r name=>match aC R r with
   |.iface t v=>match qI P t name with
    |some f=>call (.func (.func f) #[] #[]) (v::c.args.toList.map (aC R)) W
    |none=>none
   |_=>none
 |_=>EX P o R W
def Bo:ae->Option aW:=Value.rec (motive_1:=λ_=>Option aW) (motive_2:=λ_=>PUnit) (motive_3:=λ_=>PUnit) (λ_=>none) (λ_ _=>none) (λ_ _=>none) (λ_ _ _=>none) (λ_=>none) (λa=>a) (λ_ _ _=>none) (λ_=>none) (λ_=>none) (λ_ _ _ _ _=>none) (none) (λ_ _ _=>none) (none) (λ_ _=>none) (λ_ _=>none) (λ_ _=>.unit) .unit (λ_ _ _ _=>.unit)
def aaA:ae->Option Bool:=Value.rec (motive_1:=λ_=>Option Bool) (motive_2:=λ_=>PUnit) (motive_3:=λ_=>PUnit) (λb=>some b) (λ_ _=>none) (λ_ _=>none) (λ_ _ _=>none) (λ_=>none) (λ_=>none) (λ_ _ _=>none) (λ_=>none) (λ_=>none) (λ_ _ _ _ _=>none) (none) (λ_ _ _=>none) (none) (λ_ _=>none) (λ_ _=>none) (λ_ _=>.unit) .unit (λ_ _ _ _=>.unit)
def ae2:ae->Option (aV×Int):=Value.rec (motive_1:=λ_=>Option (aV×Int)) (motive_2:=λ_=>PUnit) (motive_3:=λ_=>PUnit) (λ_=>none) (λk n=>some (k,n)) (λ_ _=>none) (λ_ _ _=>none) (λ_=>none) (λ_=>none) (λ_ _ _=>none) (λ_=>none) (λ_=>none) (λ_ _ _ _ _=>none) (none) (λ_ _ _=>none) (none) (λ_ _=>none) (λ_ _=>none) (λ_ _=>.unit) .unit (λ_ _ _ _=>.unit)
def WI:ae->Option Nat:=Value.rec (motive_1:=λ_=>Option Nat) (motive_2:=λ_=>PUnit) (motive_3:=λ_=>PUnit) (λ_=>none) (λ_ n=>Int.rec (motive:=λ_=>Option Nat) (λn=>some n) (λ_=>none) n) (λ_ _=>none) (λ_ _ _=>none) (λ_=>none) (λ_=>none) (λ_ _ _=>none) (λ_=>none) (λ_=>none) (λ_ _ _ _ _=>none) (none) (λ_ _ _=>none) (none) (λ_ _=>none) (λ_ _=>none) (λ_ _=>.unit) .unit (λ_ _ _ _=>.unit)
def vSl:ae->Option (aW×Nat):=Value.rec (motive_1:=λ_=>Option (aW×Nat)) (motive_2:=λ_=>PUnit) (motive_3:=λ_=>PUnit) (λ_=>none) (λ_ _=>none) (λ_ _=>none) (λ_ _ _=>none) (λ_=>none) (λ_=>none) (λa l _=>Option.rec (motive:=λ_=>Option (aW×Nat)) none (λa=>some (a,l)) a) (λ_=>none) (λ_=>none) (λ_ _ _ _ _=>none) (none) (λ_ _ _=>none) (none) (λ_ _=>none) (λ_ _=>none) (λ_ _=>.unit) .unit (λ_ _ _ _=>.unit)
def ah6:ae->Option (Array ae):=Value.rec (motive_1:=λ_=>Option (Array ae)) (motive_2:=λ_=>PUnit) (motive_3:=λ_=>PUnit) (λ_=>none) (λ_ _=>none) (λ_ _=>none) (λ_ _ _=>none) (λ_=>none) (λ_=>none) (λ_ _ _=>none) (λ_=>none) (λ_=>none) (λ_ _ _ _ _=>none) (none) (λ_ _ _=>none) (none) (λ_ _=>none) (λv _=>some v) (λ_ _=>.unit) .unit (λ_ _ _ _=>.unit)
def Tv(v:ae):WI v=lD v:=by cases v<;>first|rfl|(rename_i k n;cases n<;>rfl)
def Ob(P:aj)(W:AW)(t:ai)(a:aW):Option (ae×AW):=
 match Sg P t with
 |some false=>match aL W a.block with
  |some cs=>(Xn cs a.off).map λv=>(v,W)
  |none=>none
 |some true=>match lX P t with
  |some n=>(lu W a.block a.off n).map λl=>(.agg l.toArray,W)
  |none=>none
 |none=>none
def UG(P:aj)(W:AW)(t:ai)(v:ae):(match Bo v with|some a=>Ob P W t a|none=>none)=(ja P W t v).map λv=>(v,W):=by
 cases v with
 |pointer a=>
  cases a with
  |none=>rfl
  |some a=>
   show Ob P W t a=_;unfold Ob ja;cases Sg P t with
   |none=>rfl
   |some b=>
    cases b with
    |false=>simp only;cases aL W a.block<;>rfl
    |true=>
     simp only;cases lX P t with
     |none=>rfl
     |some n=>simp only;cases lu W a.block a.off n<;>rfl
 |_=>rfl
def G5(P:aj)(W:AW)(t:ai)(a:aW)(v:ae):Option (ae×AW):=
 match lX P t with
 |some n=>if v.cells.size=n then(nc W a.block a.off v.cells.toList).map λW'=>(ag,W')else none
 |none=>none
def Sc(P:aj)(W:AW)(t:ai)(x v:ae):(match Bo x with|some a=>G5 P W t a v|none=>none)=(wA P W t x v).map λW'=>(ag,W'):=by
 cases x with
 |pointer a=>
  cases a with
  |none=>rfl
  |some a=>
   show G5 P W t a v=_;unfold G5 wA;cases lX P t with
   |none=>rfl
   |some n=>simp only;split<;>rfl
 |_=>rfl
def T3:BinOp->aV->Int->Int->Option ae:=BinOp.rec (motive:=λ_=>aV->Int->Int->Option ae) (λk a b=>some (wu k (AF k (a+b)))) (λk a b=>some (wu k (AF k (a-b)))) (λk a b=>some (wu k (AF k (a*b)))) (λ_ _ _=>none) (λ_ _ _=>none) (λ_ _ _=>none) (λ_ _ _=>none) (λ_ _ _=>none) (λ_ _ _=>none) (λ_ _ _=>none) (λ_ _ _=>none) (λ_ a b=>some (.bool (decide (a=b)))) (λ_ a b=>some (.bool (!decide (a=b)))) (λ_ a b=>some (.bool (decide (a<b)))) (λ_ a b=>some (.bool (decide (a<=b)))) (λ_ a b=>some (.bool (decide (b<a)))) (λ_ a b=>some (.bool (decide (b<=a))))
def TZ(op:BinOp)(k:aV)(a b:Int):T3 op k a b=Fc op k a b:=by cases op<;>rfl
def ahH(P:aj)(W:AW)(op:BinOp)(t:ai)(x y:ae):Option ae:=
 match ae2 x with
 |some (k,a)=>match ae2 y with
  |some (k',b)=>if k=k' then T3 op k a b else none
  |none=>ot P W op t x y
 |none=>ot P W op t x y
def YT(P:aj)(W:AW)(op:BinOp)(t:ai)(x y:ae):ahH P W op t x y=ot P W op t x y:=by
 cases x with
 |int k a=>
  cases y with
  |int k' b=>show(if k=k' then T3 op k a b else none)=_;rw[TZ];rfl
  |_=>rfl
 |_=>rfl
def Np(P:aj)(s:ai)(f:Nat):Option Nat:=match P.underlying s with
 |some (.struct fs)=>match fs[f]? with
  |some fl=>match lX P fl.type with
   |some (_+1)=>some fl.offset
   |_=>none
  |none=>none
 |_=>none
def VY(P:aj)(t:ai):Option (Option Nat×Nat):=match P.underlying t with
 |some (.slice e)=>(lX P e).map λz=>(none,z)
 |some (.array n e)=>(lX P e).map λz=>(some n,z)
 |_=>none
def XH{X:Type}(v:ae)(a b:X):(match aaA v with|some true=>some a|some false=>some b|none=>none)=(match v with|.bool true=>some a|.bool false=>some b|_=>none):=by
 cases v with
 |bool c=>cases c<;>rfl
 |_=>rfl
def Nz(W:AW)(v:ae)(i:Nat):(match ah6 v with|some vs=>(vs[i]?).map λv=>(v,W)|none=>none)=(match v with|.tuple vs=>(vs[i]?).map λv=>(v,W)|_=>none):=by cases v<;>rfl
def H3(P:aj)(W:AW)(s:ai)(v:ae)(f:Nat):
 (match Bo v with
 |some a=>(match Np P s f with
  |some k=>some (Value.pointer (some (a.add k)),W)
  |none=>none)
 |none=>none)=(match P.underlying s,v with
 |some (.struct fs),.pointer (some a)=>match fs[f]? with
  |some fl=>match lX P fl.type with
   |some (_+1)=>some (.pointer (some (a.add fl.offset)),W)
   |_=>none
  |none=>none
 |_,_=>none):=by
 unfold Np;generalize P.underlying s=u
 have vN:∀(o:Option TypeDesc) (v:ae),Bo v=none->(match o,v with
  |some (.struct fs),.pointer (some a)=>match fs[f]? with
   |some fl=>match lX P fl.type with
    |some (_+1)=>some (Value.pointer (some (a.add fl.offset)),W)
    |_=>none
   |none=>none
  |_,_=>none)=none:=by
  intro o v hv;split
  ·cases hv
  ·rfl
 cases hv:Bo v with
 |none=>exact(vN u v hv).symm
 |some a=>
  obtain rfl:v=.pointer (some a):=by
   cases v with
   |pointer b=>cases b with|none=>cases hv|some b=>injection hv with hv;rw[hv]
   |_=>cases hv
  cases u with
  |none=>rfl
  |some d=>
   cases d with
   |struct fs=>
    simp only;cases fs[f]? with
    |none=>rfl
    |some fl=>
     simp only;cases lX P fl.type with
     |none=>rfl
     |some n=>cases n<;>rfl
   |_=>rfl
def HW(P:aj)(W:AW)(t:ai)(v i:ae):
 (match VY P t with
 |some (none,z)=>(match vSl v with
  |some (a,len)=>(match WI i with
   |some n=>(match Nat.blt n len with
    |true=>some (Value.pointer (some (a.add (n*z))),W)
    |false=>none)
   |none=>none)
  |none=>none)
 |some (some len,z)=>(match Bo v with
  |some a=>(match WI i with
   |some n=>(match Nat.blt n len with
    |true=>some (.pointer (some (a.add (n*z))),W)
    |false=>none)
   |none=>none)
  |none=>none)
 |none=>none)=(match P.underlying t,v,lD i with
 |some (.slice e),.slice (some a) len _,some n=>match lX P e with
  |some z=>if n<len then some (.pointer (some (a.add (n*z))),W)else none
  |none=>none
 |some (.array len e),.pointer (some a),some n=>match lX P e with
  |some z=>if n<len then some (.pointer (some (a.add (n*z))),W)else none
  |none=>none
 |_,_,_=>none):=by
 rw[Tv];have key:∀(n len:Nat) (u:Option (ae×AW)),(match Nat.blt n len with|true=>u|false=>none)=if n<len then u else none:=by
  intro n len u;by_cases h:n<len
  ·have h1:Nat.blt n len=true:=by rw[jM];exact h
   rw[ax h,h1]
  ·rw[ay h];cases hb:Nat.blt n len with
   |true=>exact absurd (by rw[jM]at hb;exact hb) h
   |false=>rfl
 simp only[key];unfold VY;generalize lD i=k;generalize P.underlying t=u;cases u with
 |none=>rfl
 |some d=>
  cases d with
  |slice e=>
   cases hz:lX P e with
   |none=>cases v with
    |slice a l c=>cases a<;>cases k<;>simp[hz]
    |_=>simp[hz]
   |some z=>cases v with
    |slice a l c=>cases a<;>cases k<;>simp[hz,vSl]
    |_=>simp[hz,vSl]
  |array n e=>
   cases hz:lX P e with
   |none=>cases v with
    |pointer a=>cases a<;>cases k<;>simp[hz]
    |_=>simp[hz]
   |some z=>cases v with
    |pointer a=>cases a<;>cases k<;>simp[hz,Bo]
    |_=>simp[hz,Bo]
  |_=>rfl
def afu(x:aq)(P:aj)(call:Callee)(o:ao)(R:ak.Fr)(W:AW):Option (ae×AW):=
 some (aC R x,W)
def Ze(x:aq)(P:aj)(call:Callee)(o:ao)(R:ak.Fr)(W:AW):Option (ae×AW):=
 some (aC R x,W)
def aex(c:aq)(a:aq)(b:aq)(P:aj)(call:Callee)(o:ao)(R:ak.Fr)(W:AW):Option (ae×AW):=
 match aaA (aC R c)with
  |some true=>some (aC R a,W)
  |some false=>some (aC R b,W)
  |none=>none
def adj(t:ai)(P:aj)(call:Callee)(o:ao)(R:ak.Fr)(W:AW):Option (ae×AW):=
 match kS P t with
  |some z=>some (W.new (mL t z.cells.toList) λb W'=>(Value.pointer (some ⟨b,0,none⟩),W'))
  |none=>none
def alz(t:ai)(x:aq)(P:aj)(call:Callee)(o:ao)(R:ak.Fr)(W:AW):Option (ae×AW):=
 some (W.new (.cells (aC R x).cells.toList) λb W'=>(Value.pointer (some ⟨b,0,none⟩),W'))
def acK(t:ai)(ps:Array (Nat×aq))(P:aj)(call:Callee)(o:ao)(R:ak.Fr)(W:AW):Option (ae×AW):=
 (wi P R t ps).map λv=>(v,W)
def KU(t:ai)(n:Nat)(ps:Array (Nat×aq))(P:aj)(call:Callee)(o:ao)(R:ak.Fr)(W:AW):Option (ae×AW):=
 jV P R W t n ps
def Yb(_t:ai)(_m:aq)(_k:aq)(_v:aq)(P:aj)(call:Callee)(o:ao)(R:ak.Fr)(W:AW):Option (ae×AW):=
 gW P call o R W
def ag5(t:ai)(a:aq)(P:aj)(call:Callee)(o:ao)(R:ak.Fr)(W:AW):Option (ae×AW):=
 match Bo (aC R a)with
  |some a=>Ob P W t a
  |none=>none
def ac2(t:ai)(a:aq)(x:aq)(P:aj)(call:Callee)(o:ao)(R:ak.Fr)(W:AW):Option (ae×AW):=
 match Bo (aC R a)with
  |some a=>G5 P W t a (aC R x)
  |none=>none
def abE(_g:Nat)(P:aj)(call:Callee)(o:ao)(R:ak.Fr)(W:AW):Option (ae×AW):=
 gW P call o R W
def acM(_g:Nat)(P:aj)(call:Callee)(o:ao)(R:ak.Fr)(W:AW):Option (ae×AW):=
 gW P call o R W
def PL(_x:aq)(P:aj)(call:Callee)(o:ao)(R:ak.Fr)(W:AW):Option (ae×AW):=
 gW P call o R W
def Mt(op:BinOp)(t:ai)(x:aq)(y:aq)(yt:ai)(P:aj)(call:Callee)(o:ao)(R:ak.Fr)(W:AW):Option (ae×AW):=
 match ahH P W op t (aC R x) (aC R y)with
  |some v=>some (v,W)
  |none=>(iS P R o).map λv=>(v,W)
def agb(op:UnOp)(t:ai)(x:aq)(P:aj)(call:Callee)(o:ao)(R:ak.Fr)(W:AW):Option (ae×AW):=
 (iS P R o).map λv=>(v,W)
def TX(s:ai)(d:ai)(x:aq)(P:aj)(call:Callee)(o:ao)(R:ak.Fr)(W:AW):Option (ae×AW):=
 (Cc P W s d (aC R x) (iS P R o)).map λv=>(v,W)
def tZ(_d:ai)(_x:aq)(P:aj)(call:Callee)(o:ao)(R:ak.Fr)(W:AW):Option (ae×AW):=
 gW P call o R W
def D4(_t:ai)(_x:aq)(P:aj)(call:Callee)(o:ao)(R:ak.Fr)(W:AW):Option (ae×AW):=
 gW P call o R W
def Qd(_fn:Fn)(_first:Array aq)(_captured:Array aq)(P:aj)(call:Callee)(o:ao)(R:ak.Fr)(W:AW):Option (ae×AW):=
 gW P call o R W
def TQ(_t:ai)(_r:Option aq)(P:aj)(call:Callee)(o:ao)(R:ak.Fr)(W:AW):Option (ae×AW):=
 gW P call o R W
def Ph(_t:ai)(_s:aq)(P:aj)(call:Callee)(o:ao)(R:ak.Fr)(W:AW):Option (ae×AW):=
 gW P call o R W
def Ns(t:ai)(l:aq)(c:aq)(P:aj)(call:Callee)(o:ao)(R:ak.Fr)(W:AW):Option (ae×AW):=
 lM P W t (aC R l) (aC R c)
def adf(t:ai)(x:aq)(lo:Option aq)(hi:Option aq)(mx:Option aq)(P:aj)(call:Callee)(o:ao)(R:ak.Fr)(W:AW):Option (ae×AW):=
 match mS P t (aC R x) (lo.map (aC R)) (hi.map (aC R)) (mx.map (aC R))with
  |some v=>some (v,W)
  |none=>(iS P R o).map λv=>(v,W)
def Nl(s:ai)(x:aq)(f:Nat)(P:aj)(call:Callee)(o:ao)(R:ak.Fr)(W:AW):Option (ae×AW):=
 match Bo (aC R x)with
  |some a=>(match Np P s f with
   |some k=>some (.pointer (some (a.add k)),W)
   |none=>none)
  |none=>none
def ab3(t:ai)(x:aq)(f:Nat)(P:aj)(call:Callee)(o:ao)(R:ak.Fr)(W:AW):Option (ae×AW):=
 match P.underlying t,aC R x with
  |some (.struct fs),.agg cs=>match fs[f]? with
   |some fl=>(xy P fl.type cs fl.offset).map λv=>(v,W)
   |none=>none
  |_,_=>none
def ND(t:ai)(x:aq)(i:aq)(P:aj)(call:Callee)(o:ao)(R:ak.Fr)(W:AW):Option (ae×AW):=
 match VY P t with
  |some (none,z)=>(match vSl (aC R x)with
   |some (a,len)=>(match WI (aC R i)with
    |some n=>(match Nat.blt n len with
     |true=>some (.pointer (some (a.add (n*z))),W)
     |false=>none)
    |none=>none)
   |none=>none)
  |some (some len,z)=>(match Bo (aC R x)with
   |some a=>(match WI (aC R i)with
    |some n=>(match Nat.blt n len with
     |true=>some (.pointer (some (a.add (n*z))),W)
     |false=>none)
    |none=>none)
   |none=>none)
  |none=>none
def adw(_t:ai)(_x:aq)(_i:aq)(P:aj)(call:Callee)(o:ao)(R:ak.Fr)(W:AW):Option (ae×AW):=
 gW P call o R W
def Zp(t:ai)(m:aq)(k:aq)(ok:Bool)(P:aj)(call:Callee)(o:ao)(R:ak.Fr)(W:AW):Option (ae×AW):=
 (ms P W t (aC R m) (aC R k) ok).map λv=>(v,W)
def MJ(t:ai)(m:aq)(k:aq)(v:aq)(P:aj)(call:Callee)(o:ao)(R:ak.Fr)(W:AW):Option (ae×AW):=
 (jI P W t (aC R m) (aC R k) (aC R v)).map λW'=>(ag,W')
def P0(_t:ai)(_m:aq)(_k:aq)(P:aj)(call:Callee)(o:ao)(R:ak.Fr)(W:AW):Option (ae×AW):=
 gW P call o R W
def Ka(_t:ai)(_m:aq)(_s:aq)(_v:aq)(P:aj)(call:Callee)(o:ao)(R:ak.Fr)(W:AW):Option (ae×AW):=
 gW P call o R W
def acS(_t:ai)(_x:aq)(P:aj)(call:Callee)(o:ao)(R:ak.Fr)(W:AW):Option (ae×AW):=
 gW P call o R W
def af3(_it:aq)(_s:Bool)(P:aj)(call:Callee)(o:ao)(R:ak.Fr)(W:AW):Option (ae×AW):=
 gW P call o R W
def aaT(_it:aq)(P:aj)(call:Callee)(o:ao)(R:ak.Fr)(W:AW):Option (ae×AW):=
 gW P call o R W
def Kn(_x:aq)(_t:ai)(_a:ai)(_ok:Bool)(P:aj)(call:Callee)(o:ao)(R:ak.Fr)(W:AW):Option (ae×AW):=
 gW P call o R W
def Ua(x:aq)(i:Nat)(P:aj)(call:Callee)(o:ao)(R:ak.Fr)(W:AW):Option (ae×AW):=
 match ah6 (aC R x)with
  |some vs=>(vs[i]?).map λv=>(v,W)
  |none=>none
def ae6(c:Call)(P:aj)(call:Callee)(o:ao)(R:ak.Fr)(W:AW):Option (ae×AW):=
 match c.callee with
  |.builtin b=>iI P o b c.argTypes (c.args.toList.map (aC R)) R W
  |.value f=>call (aC R f) (c.args.toList.map (aC R)) W
  |.invoke r name=>match aC R r with
   |.iface t v=>match qI P t name with
    |some f=>call (.func (.func f) #[] #[]) (v::c.args.toList.map (aC R)) W
    |none=>none
   |_=>none
def hGo(_c:Call)(P:aj)(call:Callee)(o:ao)(R:ak.Fr)(W:AW):Option (ae×AW):=
 gW P call o R W
def acw(_c:Call)(P:aj)(call:Callee)(o:ao)(R:ak.Fr)(W:AW):Option (ae×AW):=
 gW P call o R W
def acR(_x:aq)(P:aj)(call:Callee)(o:ao)(R:ak.Fr)(W:AW):Option (ae×AW):=
 gW P call o R W
def agz(_c:aq)(_x:aq)(P:aj)(call:Callee)(o:ao)(R:ak.Fr)(W:AW):Option (ae×AW):=
 gW P call o R W
def aeB(_t:ai)(_c:aq)(_ok:Bool)(P:aj)(call:Callee)(o:ao)(R:ak.Fr)(W:AW):Option (ae×AW):=
 gW P call o R W
def Yf(_cs:Array SelectCase)(_bl:Bool)(P:aj)(call:Callee)(o:ao)(R:ak.Fr)(W:AW):Option (ae×AW):=
 gW P call o R W
def aln:Op->aj->Callee->ao->ak.Fr->AW->Option (ae×AW):=
 Op.rec (motive:=λ_=>aj->Callee->ao->ak.Fr->AW->Option (ae×AW)) afu Ze aex adj alz acK KU Yb ag5 ac2 abE acM PL Mt agb TX tZ D4 Qd TQ Ph Ns adf Nl ab3 ND adw Zp MJ P0 Ka acS af3 aaT Kn Ua ae6 hGo acw acR agz aeB Yf
def qr(P:aj)(call:Callee)(o:ao)(R:ak.Fr)(W:AW):Option (ae×AW):=aln o.op P call o R W
def vh(P:aj)(call:Callee)(o:ao)(R:ak.Fr)(W:AW):qr P call o R W=gW P call o R W:=by
 obtain⟨dst,op,type,pos,after,guard⟩:=o;cases op with
 |pick c a b=>exact XH (aC R c) _ _
 |load t a=>exact UG P W t (aC R a)
 |store t a x=>exact Sc P W t (aC R a) (aC R x)
 |binOp op t x y yt=>show Mt op t x y yt P call ⟨dst,.binOp op t x y yt,type,pos,after,guard⟩ R W=_;unfold Mt;rw[YT];rfl
 |extract x i=>exact Nz W (aC R x) i
 |fieldAddr s x f=>exact H3 P W s (aC R x) f
 |indexAddr t x i=>exact HW P W t (aC R x) (aC R i)
 |_=>rfl
def vM(P:aj)(f':ae)(dw:List ae)(w:au)(R:ae->au->Prop):Prop:=
 match f' with
 |.func (.func i) fs cs=>(callFunc i (fs++dw.toArray++cs)).run P w=.ok (.enter i (fs++dw.toArray++cs)) w/\
  CallsIn (FE none) 0 P i (fs++dw.toArray++cs) w (λe w'=>∃v,e=.returned v/\R v w')
 |.func (.yield l) fs _=>∃f tmps asC bd,(Instr.yield l (fs++dw.toArray)).run P w=.ok (.round l f tmps asC bd) w/\
  RoundIn (FE none) 0 P l f tmps asC bd w (λe w'=>∃v,e=.returned v/\R v w')
 |_=>False
def cw(P:aj)(ng:List Nat)(call:Callee):Prop:=
 ∀f args W v W',call f args W=some (v,W')->∀σ w f' dw,bt σ W w.heap->vH σ ng->VR σ f f'->LR σ args dw->
  vM P f' dw w (λv' w'=>∃σ',VR σ' v v'/\bt σ' W' w'.heap/\eW σ W w σ' W' w')
section
variable {P:aj} {σ:dj} {W:AW} {w:au}
def Gh(hW:bt σ W w.heap){b:Builtin}{R:ak.Fr}{ρ:aq->ae}{v:ae}{W':AW}{dst:Option Tmp}{type:ai}{pos:String}{after:Array Edge}{guard:Option (Nat×Bool)}{args:Array aq}{argTypes:Array ai}
 (h:iI P {dst,op:=.call {callee:=.builtin b,args,argTypes},type,pos,after,guard} b argTypes (args.toList.map (aC R)) R W=some (v,W'))(hρ:∀x∈args,VR σ (aC R x) (ρ x)):
 vB P σ W w (execOp ρ {dst,op:=.call {callee:=.builtin b,args,argTypes},type,pos,after,guard}) v W':=by
 have hO:∀(x:Option ae),(x.map λv=>(v,W))=some (v,W')->x=some v/\W'=W:=by
  intro x hx;cases x with
  |none=>cases hx
  |some u=>simp at hx;exact⟨by rw[hx.1],hx.2.symm⟩
 have Z8:∀(x:Option AW),(x.map λW'=>(Value.tuple #[],W'))=some (v,W')->x=some W'/\v=.tuple #[]:=by
  intro x hx;cases x with
  |none=>cases hx
  |some u=>simp at hx;exact⟨by rw[hx.2],hx.1.symm⟩
 have Es:execOp ρ {dst,op:=.call {callee:=.builtin b,args,argTypes},type,pos,after,guard}=builtin b argTypes type (args.map λ|.const _=>true|_=>false) (args.map ρ):=by simp[execOp,resolve,invoke];rfl
 have db:LR σ (args.toList.map (aC R)) (args.map ρ).toList:=by have:=BJ args hρ;simpa using this
 unfold iI at h;split at h
 ·rename_i A n c wB;rw[wB]at db;obtain⟨x',l',e1,hx,hl⟩:=db.of_cons;have:=hl.of_nil;subst this;have e2:args.map ρ=#[x']:=by rw[<-ic (xs:=args.map ρ),e1]
  split at h
  ·rename_i e hu;injection h with h;injection h with h1 h2;subst h1;subst h2;rw[Es,e2];cases ha:argTypes[0]? with
   |none=>rw[ha]at hu;cases hu
   |some t=>rw[ha]at hu;simp only[bp]at hu;refine .value (s:=Builtin.len_ argTypes type #[x']) rfl hW (v':=goInt n) ?_ (.int _ _);cases hx<;>simp[Builtin.len_,ha,bU hu]
  ·cases h
 ·rename_i wB;rw[wB]at db;obtain⟨x',l',e1,hx,hl⟩:=db.of_cons;have:=hl.of_nil;subst this;have e2:args.map ρ=#[x']:=by rw[<-ic (xs:=args.map ρ),e1]
  split at h
  ·rename_i k e hu;injection h with h;injection h with h1 h2;subst h1;subst h2;rw[Es,e2];cases ha:argTypes[0]? with
   |none=>rw[ha]at hu;cases hu
   |some t=>rw[ha]at hu;simp only[bp]at hu;refine .value (s:=Builtin.len_ argTypes type #[x']) rfl hW (v':=goInt 0) ?_ (.int _ _);cases hx;simp[Builtin.len_,ha,bU hu]
  ·cases h
 ·rename_i r wB;rw[wB]at db;obtain⟨x',l',e1,hx,hl⟩:=db.of_cons;have:=hl.of_nil;subst this;have e2:args.map ρ=#[x']:=by rw[<-ic (xs:=args.map ρ),e1]
  split at h
  ·rename_i k e es c hu hr;injection h with h;injection h with h1 h2;subst h1;subst h2;rw[Es,e2];cases ha:argTypes[0]? with
   |none=>rw[ha]at hu;cases hu
   |some t=>
    rw[ha]at hu;simp only[bp]at hu;cases hx with
    |map _ g hg=>
     obtain⟨_,_,gj,g3,g4⟩:=BP hW hr hg;refine .value (s:=Builtin.len_ argTypes type #[.map (some g.B)]) rfl hW (v':=goInt es.length) ?_ (.int _ _);have eA:gj.size=es.length:=by have:=g4.1;simp at this;omega
     simp[Builtin.len_,ha,bU hu,run_getObj_map g3,eA]
  ·cases h
 ·rename_i s x wB;rw[wB]at db;obtain⟨s',l',e1,hs,hl⟩:=db.of_cons;obtain⟨x',XS,e3,hx,vX⟩:=hl.of_cons;have:=vX.of_nil;subst this;subst e3;have e2:args.map ρ=#[s',x']:=by rw[<-ic (xs:=args.map ρ),e1]
  rw[Es,e2];exact .kK (s:=Builtin.append_ argTypes type #[s',x']) rfl (H7 hW h hs hx)
 ·rename_i s x wB;rw[wB]at db;obtain⟨s',l',e1,hs,hl⟩:=db.of_cons;obtain⟨x',XS,e3,hx,vX⟩:=hl.of_cons;have:=vX.of_nil;subst this;subst e3;have e2:args.map ρ=#[s',x']:=by rw[<-ic (xs:=args.map ρ),e1]
  rw[Es,e2];obtain⟨v',w',a,b,c,d⟩:=Qt (ty:=type) hW h hs hx;exact .kK (s:=Builtin.copy_ argTypes type #[s',x']) rfl ⟨σ,v',w',a,b,c,d⟩
 ·rename_i x wB;rw[wB]at db;obtain⟨x',l',e1,hx,hl⟩:=db.of_cons;have:=hl.of_nil;subst this;have e2:args.map ρ=#[x']:=by rw[<-ic (xs:=args.map ρ),e1]
  rw[Es,e2];obtain⟨hc,rfl⟩:=Z8 _ h;obtain⟨w',a,b,c⟩:=Ls (ty:=type) hW hc hx;exact .kK (s:=Builtin.clear_ argTypes type #[x']) rfl ⟨σ,.tuple #[],w',a,.undef,b,c⟩
 ·rename_i s x wB;rw[wB]at db;obtain⟨s',l',e1,hs,hl⟩:=db.of_cons;obtain⟨x',XS,e3,hx,vX⟩:=hl.of_cons;have:=vX.of_nil;subst this;subst e3;have e2:args.map ρ=#[s',x']:=by rw[<-ic (xs:=args.map ρ),e1]
  rw[Es,e2];obtain⟨hc,rfl⟩:=Z8 _ h;obtain⟨w',a,b,c⟩:=KI (ty:=type) hW hc hs hx;exact .kK (s:=Builtin.delete_ argTypes type #[s',x']) rfl ⟨σ,.tuple #[],w',a,.undef,b,c⟩
 ·rename_i x wB;rw[wB]at db;obtain⟨x',l',e1,hx,hl⟩:=db.of_cons;have:=hl.of_nil;subst this;have e2:args.map ρ=#[x']:=by rw[<-ic (xs:=args.map ρ),e1]
  rw[Es,e2];obtain⟨hc,rfl⟩:=hO _ h;obtain⟨v',a,b⟩:=Cd (P:=P) (w:=w) (ts:=argTypes) (ty:=type) hc hx;exact .kK (s:=Builtin.unsafeSliceData_ argTypes type #[x']) rfl ⟨σ,v',w,a,b,hW,eW.refl _ _ _⟩
 ·rename_i s x wB;rw[wB]at db;obtain⟨s',l',e1,hs,hl⟩:=db.of_cons;obtain⟨x',XS,e3,hx,vX⟩:=hl.of_cons;have:=vX.of_nil;subst this;subst e3;have e2:args.map ρ=#[s',x']:=by rw[<-ic (xs:=args.map ρ),e1]
  rw[Es,e2];exact .kK (s:=Builtin.unsafeString_ argTypes type #[s',x']) rfl (xW hW h hs hx)
 ·obtain⟨hb,rfl⟩:=hO _ h;exact .ZS hW hb (λx hx=>by simp only[Op.operands,Call.operands]at hx;exact hρ x (by simpa using hx))
def MP{t:ai}{name:String}{f:hZ}(h:qI P t name=some f)(v:ae)(w:au):(method (P.types.size+Made.depth) t v name).run P w=.ok (f,v) w:=by
 unfold qI at h;split at h
 ·rename_i i d hi hd;split at h
  ·rename_i m hm;split at h
   ·rename_i g e hp hf;split at h
    ·rename_i h0;injection h with h;subst h;obtain⟨n,hn⟩:∃n,P.types.size+Made.depth=n+1:=⟨P.types.size+Made.depth-1,by omega⟩;rw[hn];simp[method,typeInfo,hi,hm,hp,follow,hf,receiverAt,bU hd,Place.get]
    ·cases h
   ·cases h
  ·cases h
 ·cases h
def DL(ro:Option Nat):(FE ro).depth=none:=rfl
def CF{ro ro':Option Nat}{n:Nat}{f:hZ}{args:Array ae}{w:au}{R:Ending->au->Prop}(h:CallsIn (FE ro) n P f args w R):CallsIn (FE ro') n P f args w R:=h
def M7{ro ro':Option Nat}{n l:Nat}{f:hZ}{tmps:Array ae}{asC bd:bG}{w:au}{R:Ending->au->Prop}(h:RoundIn (FE ro) n P l f tmps asC bd w R):RoundIn (FE ro') n P l f tmps asC bd w R:=h
def Fi{ro:Option Nat}{o:ao}{a:ba}{v:ae}{W':AW}{next:ba->au->Prop}{Q:dh->ba->au->Prop}(hnd:∀c,o.op≠ .defer c)(h:vB P σ W w (execOp a.eval o) v W')
 (hn:∀σ' v' w',VR σ' v v'->bt σ' W' w'.heap->eW σ W w σ' W' w'->next (a.put o.dst v') w'):o.wpIn (FE ro) 0 P a w next Q:=by
 refine⟨λf _=>trivial,?_⟩;rw[Oper.semAt_eq _ _ _ hnd];obtain⟨σ',nx,v',w',hr,hx,h1,h2,h3⟩:=h;rw[hr];rcases hx with rfl|⟨rfl,rfl⟩
 ·exact hn σ' v' w' h1 h2 h3
 ·exact hn σ' ag w' h1 h2 h3
def CQ{ro:Option Nat}{o:ao}{a:ba}{v:ae}{W':AW}{next:ba->au->Prop}{Q:dh->ba->au->Prop}{f':ae}{dw:List ae}(hnd:∀c,o.op≠ .defer c)
 (hf:∀i fs cs,f'=.func (.func i) fs cs->(execOp a.eval o).run P w=(callFunc i (fs++dw.toArray++cs)).run P w)
 (hy:∀l fs cs,f'=.func (.yield l) fs cs->(execOp a.eval o).run P w=(Instr.yield l (fs++dw.toArray)).run P w)
 (h:vM P f' dw w (λv' w'=>∃σ',VR σ' v v'/\bt σ' W' w'.heap/\eW σ W w σ' W' w'))
 (hn:∀σ' v' w',VR σ' v v'->bt σ' W' w'.heap->eW σ W w σ' W' w'->next (a.put o.dst v') w'):o.wpIn (FE ro) 0 P a w next Q:=by
 refine⟨λf _=>trivial,?_⟩;rw[Oper.semAt_eq _ _ _ hnd];unfold vM at h;split at h
 ·rename_i i fs cs;obtain⟨h1,h2⟩:=h;rw[hf i fs cs rfl,h1];refine⟨λhd=>by rw[DL]at hd;simp at hd,?_⟩;refine nK (CF h2) ?_;rintro e w' ⟨u,rfl,σ',k1,k2,k3⟩;exact hn σ' u w' k1 k2 k3
 ·rename_i l fs cs;obtain⟨f,tmps,asC,bd,h1,h2⟩:=h;rw[hy l fs cs rfl,h1];refine⟨λhd=>by rw[DL]at hd;simp at hd,?_⟩;refine RoundIn.mono (M7 h2) ?_;rintro e w' ⟨u,rfl,σ',k1,k2,k3⟩;exact hn σ' u w' k1 k2 k3
 ·exact h.elim
def GY{ng:List Nat}{call:Callee}(hc:cw P ng call)(hW:bt σ W w.heap)(hG:vH σ ng){ro:Option Nat}{o:ao}{R:ak.Fr}{a:ba}{v:ae}{W':AW}{next:ba->au->Prop}{Q:dh->ba->au->Prop}
 (h:qr P call o R W=some (v,W'))(hρ:∀x∈o.op.operands,VR σ (aC R x) (a.eval x))
 (hn:∀σ' v' w',VR σ' v v'->bt σ' W' w'.heap->eW σ W w σ' W' w'->next (a.put o.dst v') w'):o.wpIn (FE ro) 0 P a w next Q:=by
 rw[vh]at h;unfold gW at h;split at h
 ·rename_i c sV;obtain⟨dst,op,type,pos,after,guard⟩:=o;simp only at sV;subst sV;obtain⟨callee,args,argTypes⟩:=c;have db:∀x∈args,VR σ (aC R x) (a.eval x):=λx hx=>hρ x (by simp[Op.operands,Call.operands,hx])
  have hl:LR σ (args.toList.map (aC R)) (args.map a.eval).toList:=by simpa using BJ args db
  split at h
  ·rename_i b hb;simp only at hb h;subst hb;exact Fi (λ_ hx=>by cases hx) (Gh hW h db) hn
  ·rename_i f hb;simp only at hb h;subst hb;have hf:=hρ f (by simp[Op.operands,Call.operands]);refine CQ (λ_ hx=>by cases hx) ?_ ?_ (hc _ _ _ _ _ h σ w _ _ hW hG hf hl) hn
   ·intro i fs cs e;rw[ic];simp[execOp,resolve,e,Deferred.ofValue,invoke]
   ·intro l fs cs e;rw[ic];simp[execOp,resolve,e,Deferred.ofValue,invoke]
  ·rename_i r name hb;simp only at hb h;subst hb;have hr:=hρ r (by simp[Op.operands,Call.operands]);split at h
   ·rename_i t u JZ;rw[JZ]at hr;obtain⟨u',hu,e⟩:=hr.zy;split at h
    ·rename_i f hm;refine CQ (f':=.func (.func f) #[] #[]) (dw:=u'::(args.map a.eval).toList) (λ_ hx=>by cases hx) ?_ ?_ (hc _ _ _ _ _ h σ w _ _ hW hG (.func _ _ _ _ _ _ (.func f) rfl (λi v v' x=>by simp at x) rfl (λi v v' x=>by simp at x)) (.cons hu hl)) hn
     ·intro i fs cs e';injection e' with e1 e2 e3;injection e1 with e1;subst e1;subst e2;subst e3;have hx:(#[a.eval r]++args.map a.eval).extract 1 (args.size+1)=args.map a.eval:=by apply qv.1;simp[Hp];exact mX (by simp)
      have h0:(#[a.eval r]++args.map a.eval)[0]? =some (.iface t u'):=by rw[yb];simp[e]
      have qD:(#[a.eval r]++args.map a.eval).size=args.size+1:=by simp;omega
      have Nq:(invoke (.fn (.method name) #[]) (#[a.eval r]++args.map a.eval)).run P w=(callFunc f (#[u']++args.map a.eval)).run P w:=by rw[show invoke (.fn (.method name) #[]) (#[a.eval r]++args.map a.eval)=(match(#[a.eval r]++args.map a.eval)[0]? with|some recv=>callMethod recv name ((#[a.eval r]++args.map a.eval).extract 1 (#[a.eval r]++args.map a.eval).size)|none=>stuck "call: a method without a receiver")from by unfold invoke;split<;>simp_all];rw[h0];simp only[qD,hx,callMethod,cJ,run_program,cF,MP hm u' w]
      have e3:(#[]:Array ae)++(u'::(args.map a.eval).toList).toArray++#[]=#[u']++args.map a.eval:=by apply qv.1;simp
      rw[e3,<-Nq];simp[execOp,resolve]
     ·intro l fs cs e';injection e' with e1 e2 e3;cases e1
    ·cases h
   ·cases h
 ·rename_i Xx;refine Fi ?_ (N0 hW h hρ) hn;intro c hx;unfold EX at h;rw[hx]at h;cases h
end
end
section
variable [ak]
def Grow(W W':AW):Prop:=∀b o,W.get b=some o->W'.get b=some o
def Grow.refl(W:AW):Grow W W:=λ_ _ h=>h
def Grow.add{W:AW}(hf:W.get W.next=none)(o:eF):Grow W (W.add o):=λb o' h=>by
 have:W.next≠b:=λe=>by subst e;rw[hf]at h;cases h
 rw[AW.br _ _ this];exact h
def FA(o:ao)(R R':ak.Fr):Prop:=∀x∈o.op.operands,aC R' x=aC R x
def KE{P:aj}{o:ao}{R R':ak.Fr}(h:FA o R R'):iS P R' o=iS P R o:=by
 unfold iS;have e1:o.op.operands.toList.all (λx=>bC (aC R' x))=o.op.operands.toList.all (λx=>bC (aC R x)):=by rw[qu];simp only[cM,Array.mem_toList_iff];exact⟨λk x hx=>by rw[<-h x hx];exact k x hx,λk x hx=>by rw[h x hx];exact k x hx⟩
 rw[e1];cases hn:uX o.op with
 |false=>rfl
 |true=>rw[execOp_congr o (λcs b hs=>by rw[hs]at hn;cases hn) (λx hx=>h x hx)]
def Cq{P:aj}{W W':AW}{t:ai}{x y:ae}(hx:bC x=true):lm P W' t x y=lm P W t x y:=by
 unfold lm;split;case h_3=>simp[bC,eI,cG]at hx
 all_goals first
  |rfl
  |(simp only[*];done)
  |skip
 all_goals(split<;>first|rfl|(simp_all;done)|skip)
def FK{P:aj}{W W':AW}(hg:Grow W W'){t:ai}{x y:ae}{b:Bool}(h:lm P W t x y=some b):lm P W' t x y=some b:=by
 unfold lm at h|-;split at h<;>try exact h
 split at h<;>try(cases h;done)
 split at h<;>try(cases h;done)
 rename_i ca cb h1 h2;rw[hg _ _ h1,hg _ _ h2];exact h
def xP{W W':AW}(hg:Grow W W'){b:Nat}{cs:List ae}(h:aL W b=some cs):aL W' b=some cs:=by
 unfold aL at h|-;split at h
 ·rename_i cP h1;rw[hg _ _ h1];exact h
 ·rename_i cP h1;rw[hg _ _ h1];exact h
 ·rename_i t' cP h1;rw[hg _ _ h1];exact h
 ·cases h
def C9{W W':AW}(hg:Grow W W'){b off n:Nat}{l:List ae}(h:lu W b off n=some l):lu W' b off n=some l:=by
 rw[iu]at h|-;split at h
 ·rename_i cs hc;rw[xP hg hc];exact h
 ·cases h
def Cn{W W':AW}(hg:Grow W W'){x:ae}{n:Nat}{l:List ae}(h:cy W x n=some l):cy W' x n=some l:=by
 unfold cy at h|-;split at h
 ·exact h
 ·split at h
  ·rename_i h0;rw[ax h0];exact h
  ·rename_i h0;rw[ay h0];split at h
   ·cases h
   ·rename_i h1;rw[ay h1];exact C9 hg h
 ·cases h
def Mx{P:aj}{W W':AW}(hg:Grow W W'){s d:ai}{x v:ae}{alt:Option ae}(h:Cc P W s d x alt=some v):Cc P W' s d x alt=some v:=by
 unfold Cc at h|-;split at h
 ·rename_i a n c;show qH P W' s d (.slice (some a) n c)=some v;unfold qH at h|-;dsimp only at h|-;split at h
  ·rename_i e hs hd;split at h
   ·rename_i he;split at h
    ·rename_i cs pw;rw[Cn hg pw];exact h
    ·cases h
   ·cases h
  ·cases h
 ·exact h
def Nw{P:aj}{W W':AW}(hg:Grow W W'){t:ai}{x v:ae}(h:ja P W t x=some v):ja P W' t x=some v:=by
 unfold ja at h|-;split at h
 ·rename_i a;split at h
  ·rename_i ha;split at h
   ·rename_i cs hc;simp only[xP hg hc];exact h
   ·cases h
  ·rename_i ha;split at h
   ·rename_i n hn;cases hr:lu W a.block a.off n with
    |none=>rw[hr]at h;cases h
    |some l=>rw[hr]at h;rw[C9 hg hr];exact h
   ·cases h
  ·cases h
 ·cases h
def GR{P:aj}{W W':AW}(hg:Grow W W'){t:ai}{m k v:ae}{ok:Bool}(h:ms P W t m k ok=some v):ms P W' t m k ok=some v:=by
 unfold ms at h|-;split at h
 ·exact h
 ·rename_i kt e r hu;split at h
  ·rename_i es c hr;simp only[hg _ _ hr];exact h
  ·cases h
 ·cases h
def Js{R R':ak.Fr}{ps:Array (Nat×aq)}(h:∀p∈ps.toList,aC R' p.2=aC R p.2):oJ R' ps=oJ R ps:=by unfold oJ;exact List.map_congr_left λp hp=>by rw[h p hp]
set_option maxHeartbeats 1000000 in
def uR{P:aj}{call:Callee}{o:ao}{R:ak.Fr}{W W1:AW}{v:ae}(hk:ig o<=1)(h:qr P call o R W=some (v,W1)):
 W1=W/\∀R' W',FA o R R'->(ig o=0\/Grow W W')->qr P call o R' W'=some (v,W'):=by
 have hO:∀(x:Option ae),(x.map λv=>(v,W))=some (v,W1)->x=some v/\W1=W:=by
  intro x hx;cases x with
  |none=>cases hx
  |some u=>simp at hx;exact⟨by rw[hx.1],hx.2.symm⟩
 have VF:∀R',FA o R R'->iS P R' o=iS P R o:=λR' ha=>KE ha
 obtain⟨dst,op,type,pos,after,guard⟩:=o;cases op<;>simp only[ig]at hk<;>(try(exfalso;omega))<;>simp only[vh,gW,EX]at h|- <;>simp only[FA,Op.operands]at VF|-;case move x=>injection h with h;injection h with h1 h2;subst h1;subst h2;exact⟨rfl,λR' W' ha _=>by rw[ha x (by simp)]⟩
 case assign x=>injection h with h;injection h with h1 h2;subst h1;subst h2;exact⟨rfl,λR' W' ha _=>by rw[ha x (by simp)]⟩
 case pick c a b=>
  split at h<;>(try(cases h;done))<;>rename_i np<;>injection h with h<;>injection h with h1 h2<;>subst h1<;>subst h2<;>
   exact⟨rfl,λR' W' ha _=>by rw[ha c (by simp),ha a (by simp),ha b (by simp),np]⟩
 case build t ps=>
  obtain⟨hb,rfl⟩:=hO _ h;refine⟨rfl,λR' W' ha _=>?_⟩;have:wi P R' t ps=wi P R t ps:=by unfold wi;rw[Js λp hp=>ha p.2 (by simp;exact⟨p.1,by simpa using hp⟩)]
  rw[this,hb];rfl
 case nilCheck x=>
  split at h<;>(try(cases h;done))<;>rename_i np<;>injection h with h<;>injection h with h1 h2<;>subst h1<;>subst h2<;>
   exact⟨rfl,λR' W' ha _=>by rw[ha x (by simp),np]⟩
 case unOp op t x=>obtain⟨hb,rfl⟩:=hO _ h;exact⟨rfl,λR' W' ha _=>by rw[VF R' (λy hy=>ha y hy),hb];rfl⟩
 case convert s d x=>obtain⟨hb,rfl⟩:=hO _ h;refine⟨rfl,λR' W' ha hg=>?_⟩;have DX:Grow W1 W':=hg.resolve_left (by simp[ig]);rw[ha x (by simp),VF R' (λy hy=>ha y hy),Mx DX hb];rfl
 case makeInterface t x=>
  split at h
  ·cases h
  ·rename_i d hd hu;injection h with h;injection h with h1 h2;subst h1;subst h2;exact⟨rfl,λR' W' ha _=>by rw[ha x (by simp)]⟩
  ·cases h
 case slice t x lo hi mx=>
  have key:∀R',(∀y∈#[x]++lo.toArray++hi.toArray++mx.toArray,aC R' y=aC R y)->mS P t (aC R' x) (lo.map (aC R')) (hi.map (aC R')) (mx.map (aC R'))=mS P t (aC R x) (lo.map (aC R)) (hi.map (aC R)) (mx.map (aC R)):=by
   intro R' ha;have e1:aC R' x=aC R x:=ha x (by simp);have e2:lo.map (aC R')=lo.map (aC R):=by
    cases lo with
    |none=>rfl
    |some y=>simp only[cS];rw[ha y (by simp)]
   have e3:hi.map (aC R')=hi.map (aC R):=by
    cases hi with
    |none=>rfl
    |some y=>simp only[cS];rw[ha y (by simp)]
   have e4:mx.map (aC R')=mx.map (aC R):=by
    cases mx with
    |none=>rfl
    |some y=>simp only[cS];rw[ha y (by simp)]
   rw[e1,e2,e3,e4]
  split at h
  ·rename_i u hs;injection h with h;injection h with h1 h2;subst h1;subst h2;exact⟨rfl,λR' W' ha _=>by rw[key R' (λy hy=>ha y (by simpa using hy)),hs]⟩
  ·rename_i hs;obtain⟨hb,rfl⟩:=hO _ h;exact⟨rfl,λR' W' ha _=>by rw[key R' (λy hy=>ha y (by simpa using hy)),hs,VF R' (λy hy=>ha y hy),hb];rfl⟩
 case fieldAddr s x f=>
  split at h
  ·rename_i fs a hu xX;split at h
   ·rename_i fl hfl;split at h
    ·rename_i n hn;injection h with h;injection h with h1 h2;subst h1;subst h2;exact⟨rfl,λR' W' ha _=>by rw[ha x (by simp)];simp[hu,xX,hfl,hn]⟩
    ·cases h
   ·cases h
  ·cases h
 case field t x f=>
  split at h
  ·rename_i fs cs hu xX;split at h
   ·rename_i fl hfl;obtain⟨hb,rfl⟩:=hO _ h;exact⟨rfl,λR' W' ha _=>by rw[ha x (by simp)];simp[hu,xX,hfl,hb]⟩
   ·cases h
  ·cases h
 case indexAddr t x i=>
  have:W1=W:=by split at h<;>(try(cases h;done))<;>split at h<;>(try(cases h;done))<;>split at h<;>(try(cases h;done))<;>(injection h with h;injection h with h1 h2;exact h2.symm)
  subst this;refine⟨rfl,λR' W' ha _=>?_⟩;rw[ha x (by simp),ha i (by simp)];split at h<;>(try(cases h;done))<;>rename_i z hz<;>split at h<;>(try(cases h;done))<;>split at h<;>(try(cases h;done))<;>(injection h with h;injection h with h1 h2;simp[*])
 case index t x i=>
  split at h
  ·rename_i len e cs n hu xX VW;split at h
   ·rename_i z hz;split at h
    ·rename_i gZ;obtain⟨hb,rfl⟩:=hO _ h;exact⟨rfl,λR' W' ha _=>by rw[ha x (by simp),ha i (by simp)];simp[hu,xX,VW,hz,gZ,hb]⟩
    ·cases h
   ·cases h
  ·rename_i vN;obtain⟨hb,rfl⟩:=hO _ h;refine⟨rfl,λR' W' ha _=>?_⟩;rw[ha x (by simp),ha i (by simp)];split
   ·rename_i len e cs n hu xX VW;exact absurd VW (by intro VW;exact vN _ _ _ _ hu xX VW)
   ·rw[VF R' (λy hy=>ha y hy),hb];rfl
 case extract x i=>
  split at h
  ·rename_i vs xX;obtain⟨hb,rfl⟩:=hO _ h;exact⟨rfl,λR' W' ha _=>by rw[ha x (by simp),xX];simp[hb]⟩
  ·cases h
 case typeAssert x s t ok=>
  split at h
  ·cases h
  ·rename_i vN u v0 hu xX;split at h
   ·rename_i hut;injection h with h;injection h with h1 h2;subst h1;subst h2;exact⟨rfl,λR' W' ha _=>by rw[ha x (by simp)];simp[hu,xX,hut]⟩
   ·cases h
  ·cases h
 case load t a=>obtain⟨hb,rfl⟩:=hO _ h;refine⟨rfl,λR' W' ha hg=>?_⟩;have DX:Grow W1 W':=hg.resolve_left (by simp[ig]);rw[ha a (by simp),Nw DX hb];rfl
 case lookup t m k ok=>obtain⟨hb,rfl⟩:=hO _ h;refine⟨rfl,λR' W' ha hg=>?_⟩;have DX:Grow W1 W':=hg.resolve_left (by simp[ig]);rw[ha m (by simp),ha k (by simp),GR DX hb];rfl
 case makeFunc fn first iQ=>
  cases fn<;>(try(simp only[]at hk;exfalso;omega));rename_i f0;simp only at h|-;injection h with h;injection h with h1 h2;subst h1;subst h2;refine⟨rfl,λR' W' ha _=>?_⟩;have e1:first.map (aC R')=first.map (aC R):=Array.map_congr_left λy hy=>ha y (by simp[hy])
  have e2:iQ.map (aC R')=iQ.map (aC R):=Array.map_congr_left λy hy=>ha y (by simp[hy])
  rw[e1,e2]
 case binOp op t x y yt=>
  by_cases sV:op=.eql\/op=.neq
  ·have fk:∀W',(ig (⟨dst,.binOp op t x y yt,type,pos,after,guard⟩:ao)=0\/Grow W W')->Grow W W':=λW' hg=>hg.resolve_left (by rcases sV with rfl|rfl<;>simp[ig])
   split at h
   ·rename_i u hb;injection h with h;injection h with h1 h2;subst h1;subst h2;refine⟨rfl,λR' W' ha hg=>?_⟩;have DX:=fk W' hg;have:ot P W' op t (aC R x) (aC R y)=some u:=by
     unfold ot at hb|-;split at hb
     ·exact hb
     ·split at hb
      ·cases he:lm P W t (aC R x) (aC R y)with
       |none=>
        rw[he]at hb;cases ht:Ei P t (aC R x) (aC R y)with
        |none=>rw[ht]at hb;cases hb
        |some b=>rw[Fu ht W',<-ht];rw[ht]at hb|-;exact hb
       |some b=>rw[he]at hb;simp only[FK DX he];exact hb
      ·cases he:lm P W t (aC R x) (aC R y)with
       |none=>
        rw[he]at hb;cases ht:Ei P t (aC R x) (aC R y)with
        |none=>rw[ht]at hb;cases hb
        |some b=>rw[Fu ht W',<-ht];rw[ht]at hb|-;exact hb
       |some b=>rw[he]at hb;simp only[FK DX he];exact hb
      ·cases hb
    rw[ha x (by simp),ha y (by simp),this]
   ·rename_i hb;obtain⟨hp,rfl⟩:=hO _ h;refine⟨rfl,λR' W' ha hg=>?_⟩;have oa:bC (aC R x)=true:=by
     unfold iS at hp;split at hp
     ·rename_i hc;simp only[bK,cM,Array.mem_toList_iff]at hc;exact hc.2 x (by simp[Op.operands])
     ·cases hp
    have:ot P W' op t (aC R x) (aC R y)=none:=by
     rw[<-hb];unfold ot;split
     ·rfl
     ·split
      ·rw[Cq oa]
      ·rw[Cq oa]
      ·rfl
    rw[ha x (by simp),ha y (by simp),this,VF R' (λy hy=>ha y hy),hp];rfl
  ·have FM:∀W',ot P W' op t (aC R x) (aC R y)=ot P W op t (aC R x) (aC R y):=by
    intro W';unfold ot;split
    ·rfl
    ·cases op<;>simp at sV|-
   split at h
   ·rename_i u hb;injection h with h;injection h with h1 h2;subst h1;subst h2;exact⟨rfl,λR' W' ha hg=>by rw[ha x (by simp),ha y (by simp),FM W',hb]⟩
   ·rename_i hb;obtain⟨hp,rfl⟩:=hO _ h;exact⟨rfl,λR' W' ha hg=>by rw[ha x (by simp),ha y (by simp),FM W',hb,VF R' (λy hy=>ha y hy),hp];rfl⟩
 case call c=>
  obtain⟨callee,args,argTypes⟩:=c;cases callee with
  |value f=>simp only at hk;exfalso;omega
  |invoke r name=>simp only at hk;exfalso;omega
  |builtin b=>
   cases b<;>(try(simp only at hk;exfalso;omega));simp only at h|-;have db:∀R',(∀y∈(Call.operands {callee:=.builtin .len,args,argTypes}),aC R' y=aC R y)->args.toList.map (aC R')=args.toList.map (aC R):=λR' ha=>List.map_congr_left λy hy=>ha y (by simp only[Call.operands];simpa using hy)
   unfold iI at h;split at h
   ·rename_i n c hl;split at h
    ·rename_i e hu;injection h with h;injection h with h1 h2;subst h1;subst h2;exact⟨rfl,λR' W' ha hg=>by unfold iI;rw[db R' ha,hl];simp only[hu]⟩
    ·cases h
   ·rename_i hl;split at h
    ·rename_i k e hu;injection h with h;injection h with h1 h2;subst h1;subst h2;exact⟨rfl,λR' W' ha hg=>by unfold iI;rw[db R' ha,hl];simp only[hu]⟩
    ·cases h
   ·rename_i r hl;split at h
    ·rename_i k e es c hu hr;injection h with h;injection h with h1 h2;subst h1;subst h2;refine⟨rfl,λR' W' ha hg=>?_⟩;have DX:Grow W W':=hg.resolve_left (by simp[ig]);unfold iI;rw[db R' ha,hl];simp only[hu,DX _ _ hr]
    ·cases h
   ·rename_i hb hl;cases hb
   ·rename_i hb hl;cases hb
   ·rename_i hb hl;cases hb
   ·rename_i hb hl;cases hb
   ·rename_i hb hl;cases hb
   ·rename_i hb hl;cases hb
   ·rename_i h1 h2 h3 _ _ _ _ _ _;obtain⟨hp,rfl⟩:=hO _ h;refine⟨rfl,λR' W' ha hg=>?_⟩;unfold iI;rw[db R' ha];split
    ·rename_i hl;exact absurd hl (h1 _ _ _ rfl)
    ·rename_i hl;exact absurd hl (h2 rfl)
    ·rename_i hl;exact absurd hl (h3 _ rfl)
    ·rename_i hb hl;cases hb
    ·rename_i hb hl;cases hb
    ·rename_i hb hl;cases hb
    ·rename_i hb hl;cases hb
    ·rename_i hb hl;cases hb
    ·rename_i hb hl;cases hb
    ·rw[VF R' (λy hy=>ha y hy),hp];rfl
end
section
variable [ak]
def sI{P:aj}{σ:dj}{b:Nat}(hb:σ b=none)(w:au)(t:ai){cs cP:List ae}(hc:LR σ cs cP):
 (newRow t cP.toArray).run P w=.ok ⟨w.heap.size,0,none⟩ {w with heap:=w.heap.push (.cells cP.toArray t)}/\
 lO (cq σ b ⟨w.heap.size,0,cs.length⟩) (w.heap.push (.cells cP.toArray t)) ⟨w.heap.size,0,cs.length⟩ (.cells cs):=by
 refine⟨by simp[newRow],⟨cP.toArray,t,(0,0),by simp,λ_=>rfl,by simp,by simp[hc.1],λi v hv=>?_⟩⟩;obtain⟨v',a,b⟩:=hc.get hv;exact⟨v',by simpa using a,b.mono (dD hb)⟩
def Lays(P:aj)(R:ak.Fr)(o:ao)(obj:eF)(mk:Nat->ae):Prop:=
 ∀(σ:dj) (ρ:aq->ae) (w:au) (b:Nat),(∀x∈o.op.operands,VR σ (aC R x) (ρ x))->σ b=none->
  ∃v' x e,(execOp ρ o).run P w=.ok (.value v') {w with heap:=w.heap.push x}/\VR (cq σ b ⟨w.heap.size,0,e⟩) (mk b) v'/\lO (cq σ b ⟨w.heap.size,0,e⟩) (w.heap.push x) ⟨w.heap.size,0,e⟩ obj
def Lays.agree{P:aj}{R R':ak.Fr}{o:ao}{obj:eF}{mk:Nat->ae}(h:Lays P R o obj mk)(ha:FA o R R'):Lays P R' o obj mk:=
 λσ ρ w b hρ hb=>h σ ρ w b (λx hx=>by rw[<-ha x hx];exact hρ x hx) hb
def Th{P:aj}{R:ak.Fr}{o:ao}{t:ai}{cs:List ae}(h:∀(σ:dj) (ρ:aq->ae) (w:au),(∀x∈o.op.operands,VR σ (aC R x) (ρ x))->
 ∃cP,LR σ cs cP/\(execOp ρ o).run P w=((do pure (.value (.pointer (some (<-newRow t cP.toArray))))):Sem Next).run P w):
 Lays P R o (.cells cs) (λb=>.pointer (some ⟨b,0,none⟩)):=by
 intro σ ρ w b hρ hb;obtain⟨cP,hc,hr⟩:=h σ ρ w hρ;obtain⟨h1,h2⟩:=sI (P:=P) hb w t hc;refine⟨.pointer (some ⟨w.heap.size,0,none⟩),.cells cP.toArray t,cs.length,by rw[hr];simp only[cJ,h1,cF,fP],?_,h2⟩;have:=VR.ptr (σ:=cq σ b ⟨w.heap.size,0,cs.length⟩) ⟨b,0,none⟩ _ dy rfl;simpa using this
def RJ{P:aj}{R:ak.Fr}{o:ao}{t:ai}{cs:List ae}(h:∀(σ:dj) (ρ:aq->ae) (w:au),(∀x∈o.op.operands,VR σ (aC R x) (ρ x))->
 ∃cP,LR σ cs cP/\(execOp ρ o).run P w=((do pure (.value (.pointer (some (<-newRow t cP.toArray))))):Sem Next).run P w):
 Lays P R o (mL t cs) (λb=>.pointer (some ⟨b,0,none⟩)):=by
 intro σ ρ w b hρ hb;obtain⟨cP,hc,hr⟩:=h σ ρ w hρ;obtain⟨h1,_⟩:=sI (P:=P) hb w t hc;refine⟨.pointer (some ⟨w.heap.size,0,none⟩),.cells cP.toArray t,cs.length,by rw[hr];simp only[cJ,h1,cF,fP],?_,DD (hc.mono (dD hb)) (by simp)⟩;have:=VR.ptr (σ:=cq σ b ⟨w.heap.size,0,cs.length⟩) ⟨b,0,none⟩ _ dy rfl;simpa using this
set_option maxHeartbeats 1000000 in
def Uw{P:aj}{call:Callee}{o:ao}{R:ak.Fr}{W W1:AW}{v:ae}(hk:ig o=2)(h:qr P call o R W=some (v,W1)):
 ∃obj mk,(∀cs,obj≠ .ro cs)/\v=mk W.next/\W1=W.add obj/\Lays P R o obj mk:=by
 obtain⟨dst,op,type,pos,after,guard⟩:=o;cases op<;>simp only[ig]at hk<;>(try(exfalso;omega))<;>simp only[vh,gW,EX]at h;case alloc t=>
  split at h
  ·rename_i z hz;injection h with h;rw[AW.dG]at h;injection h with h1 h2;refine⟨mL t z.cells.toList,λb=>.pointer (some ⟨b,0,none⟩),Ft t _,h1.symm,h2.symm,RJ (t:=t) λσ ρ w hρ=>?_⟩;obtain⟨yK,BL⟩:=gP hz w;refine⟨z.cells.toList,BU BL,?_⟩;simp[execOp,Instr.alloc,yK,newVar]
  ·cases h
 case box t x=>injection h with h;rw[AW.dG]at h;injection h with h1 h2;refine⟨.cells (aC R x).cells.toList,λb=>.pointer (some ⟨b,0,none⟩),λ_=>by simp,h1.symm,h2.symm,Th (t:=t) λσ ρ w hρ=>?_⟩;refine⟨(ρ x).cells.toList,(hρ x (by simp[Op.operands])).cells,?_⟩;simp[execOp,Instr.box,newVar]
 case buildSlice t len ps=>
  replace h:=tb h;unfold nz at h;split at h
  ·rename_i e hu;split at h
   ·rename_i n z hn hz;split at h
    ·rename_i hc;obtain⟨hc1,Q9,Ti⟩:=hc;split at h
     ·rename_i c hf;injection h with h;rw[AW.dG]at h;injection h with h1 h2;refine⟨.cells c.toList,λb=>.slice (some ⟨b,0,none⟩) len len,λ_=>by simp,h1.symm,h2.symm,?_⟩;intro σ ρ w b hρ hb;have hp:=zU (σ:=σ) (R:=R) (ρ:=ρ) ps (λp hp=>hρ p.2 (by simp[Op.operands];exact⟨p.1,by simpa using hp⟩));obtain⟨yK,BL⟩:=gP hz w;obtain⟨zg,h1,h2⟩:=yl _ _ _ _ _ _ hp (LR.mz (σ:=σ) (λ_=>eS) Ti) hf;obtain⟨k1,k2⟩:=sI (P:=P) hb w e (cs:=c.toList) (cP:=zg.toList) h2;refine⟨.slice (some ⟨w.heap.size,0,none⟩) len len,.cells zg.toList.toArray e,c.toList.length,?_,?_,k2⟩
      ·have SO:¬len*n>2^ 24:=by omega
       simp only[ic]at k1;have:(Instr.buildSlice t len (ps.map λ(i,x)=>(i,ρ x))).run P w=.ok (.slice (some ⟨w.heap.size,0,none⟩) len len) {w with heap:=w.heap.push (.cells zg e)}:=by
        by_cases h0:len*n=0
        ·rw[sS h0]at h1;simp only[Instr.buildSlice,cJ,bU hu,cF,bJ hn,ay SO,fP,ax h0];rw[show(Array.map (λx=>(#[]:Array ae)[x % (#[]:Array ae).size]!) (Array.range (len*n)))=#[]by rw[h0];simp,h1];simp[k1]
        ·rw[uG h0]at h1;simp only[Instr.buildSlice,cJ,bU hu,cF,bJ hn,ay SO,fP,ay h0,yK];rw[show(Array.map (λx=>z.cells[x % z.cells.size]!) (Array.range (len*n)))=H5 z (len*n)from rfl,h1];simp[k1]
       simp only[execOp,cJ,this,cF,fP,ic]
      ·have:=VR.slice (σ:=cq σ b ⟨w.heap.size,0,c.toList.length⟩) ⟨b,0,none⟩ len len len _ dy rfl (.known len Q9);simpa using this
     ·cases h
    ·cases h
   ·cases h
  ·cases h
 case makeSlice t l c=>
  unfold lM at h;split at h
  ·rename_i e hu;split at h
   ·rename_i n z bytes kl l0 kc c0 hn hz hbt hel hec;split at h
    ·rename_i rh;obtain⟨c1,c2,c3,c4⟩:=rh;injection h with h;rw[AW.dG]at h;injection h with h1 h2;refine⟨.cells (jp z (c0*n)).toList,λb=>.slice (some ⟨b,0,none⟩) l0 c0,λ_=>by simp,h1.symm,h2.symm,?_⟩;intro σ ρ w b hρ hb;have hl:=hρ l (by simp[Op.operands]);have hc:=hρ c (by simp[Op.operands]);rw[hel]at hl;rw[hec]at hc;have It:=hl.pE;have sX:=hc.pE;obtain⟨yK,BL⟩:=gP hz w;have hi:∃i,P.info? e=some i/\i.bytes=bytes:=by
      cases hi:P.info? e with
      |none=>rw[hi]at hbt;cases hbt
      |some i=>rw[hi]at hbt;simp at hbt;exact⟨i,rfl,hbt⟩
     obtain⟨i,hi,W8⟩:=hi;have Ts:LR σ (jp z (c0*n)).toList (jp z (c0*n)).toList:=LR.mz (λ_=>eS) c4;obtain⟨k1,k2⟩:=sI (P:=P) hb w e Ts;refine⟨.slice (some ⟨w.heap.size,0,none⟩) l0 c0,.cells (jp z (c0*n)).toList.toArray e,_,?_,?_,k2⟩
     ·have:(Instr.makeSlice t (ρ l) (ρ c)).run P w=.ok (.slice (some ⟨w.heap.size,0,none⟩) l0 c0) {w with heap:=w.heap.push (.cells (jp z (c0*n)).toList.toArray e)}:=by
       rw[It,sX];have hwl:IntKind.i64.wrap (Int.ofNat l0)=(l0:Int):=w3 (by omega);have hwc:IntKind.i64.wrap (Int.ofNat c0)=(c0:Int):=w3 c2;have Dn:(typeInfo e).run P w=.ok i w:=by simp[typeInfo,hi]
       have ahN:(bytes:Int)*(c0:Int)<=281474976710656:=by
        have:((c0*bytes:Nat):Int)<=281474976710656:=by omega
        rw[Int.natCast_mul,Int.mul_comm]at this;exact this
       simp only[ic]at k1;have NE:¬(((decide ((c0:Int)<0)||decide ((i.bytes:Int)*(c0:Int)>2^ 48))||decide ((l0:Int)<0)||decide ((l0:Int)>(c0:Int)))=true):=by rw[W8];simp;omega
       simp only[Instr.makeSlice,cJ,bU hu,cF,asInt,asIntOf,fP,Dn,hwl,hwc];rw[ay (by simpa using NE)];by_cases h0:c0*n=0
       ·rw[sS h0]at k1|-;simp only[cJ,run_askRoom,cF,oY,bJ hn,ax h0,fP];rw[show(Array.map (λx=>(#[]:Array ae)[x % (#[]:Array ae).size]!) (Array.range (c0*n)))=#[]by rw[h0];simp,k1];simp
       ·rw[uG h0]at k1|-;simp only[cJ,run_askRoom,cF,oY,bJ hn,ay h0,yK,fP];rw[show(Array.map (λx=>z.cells[x % z.cells.size]!) (Array.range (c0*n)))=H5 z (c0*n)from rfl,k1];simp
      simp only[execOp,cJ,this,cF,fP]
     ·have:=VR.slice (σ:=cq σ b ⟨w.heap.size,0,(jp z (c0*n)).toList.length⟩) ⟨b,0,none⟩ l0 c0 c0 _ dy rfl (.known c0 (by unfold gU;omega));simpa using this
    ·cases h
   ·cases h
  ·cases h
 case binOp op t x y yt=>split at hk<;>omega
 case makeFunc fn a b=>cases fn<;>simp only[]at hk<;>omega
 case call c=>obtain⟨callee,args,argTypes⟩:=c;cases callee<;>simp only at hk<;>(try omega);rename_i b;cases b<;>simp only at hk<;>omega
section
variable {σ:dj} {W:AW} {w:au}
def bt.ghost(h:bt σ W w.heap)(o:eF):bt σ (W.add o) w.heap:=by
 have fk:∀{c:Nat} {g:tu},σ c=some g->c≠W.next:=λhc e=>by have:=(h.pd _ _ hc).1;omega
 refine⟨?_,?_,?_,?_⟩
 ·intro c hc;have sX:W.next+1<=c:=hc;rw[AW.br _ _ (by omega)];exact h.free c (by omega)
 ·intro c g hc;have:=h.pd c g hc;simp only[AW.aG];omega
 ·intro c o2 g hc hg;rw[AW.br _ _ (bL (fk hg))]at hc;exact h.obj c o2 g hc hg
 ·intro b1 b2 o1 o2 g1 g2 Ib h1 h2 k1 k2 hr;rw[AW.br _ _ (bL (fk k1))]at h1;rw[AW.br _ _ (bL (fk k2))]at h2;exact h.pn _ _ _ _ _ _ Ib h1 h2 k1 k2 hr
def bt.bind(h:bt σ W w.heap){b e:Nat}{o:eF}{x:nv}(hb:W.get b=some o)(Eu:σ b=none)
 (mT:lO (cq σ b ⟨w.heap.size,0,e⟩) (w.heap.push x) ⟨w.heap.size,0,e⟩ o):
 bt (cq σ b ⟨w.heap.size,0,e⟩) W (w.heap.push x):=by
 have hs:Sub σ (cq σ b ⟨w.heap.size,0,e⟩):=dD Eu;have fd:∀B,B<w.heap.size->(w.heap.push x)[B]? =w.heap[B]? :=λB hB=>by rw[ss];rw[b8]
 have oc:∀c g,cq σ b ⟨w.heap.size,0,e⟩ c=some g->(c=b/\g=⟨w.heap.size,0,e⟩)\/(c≠b/\σ c=some g):=λc g hc=>by
  unfold cq at hc;split at hc
  ·rename_i hx;injection hc with hc;exact .inl ⟨hx,hc.symm⟩
  ·rename_i hx;exact .inr ⟨hx,hc⟩
 have OP:b<W.next:=by
  rcases vj b W.next with h1|h1
  ·exact h1
  ·rw[h.free b h1]at hb;cases hb
 refine⟨h.free,?_,?_,?_⟩
 ·intro c g hc;rcases oc c g hc with⟨rfl,rfl⟩|⟨_,h2⟩
  ·exact⟨OP,by simp⟩
  ·have:=h.pd c g h2;simp;omega
 ·intro c o2 g hc hk;rcases oc c g hk with⟨rfl,rfl⟩|⟨h1,h2⟩
  ·rw[hb]at hc;injection hc with hc;subst hc;exact mT
  ·exact((h.obj c o2 g hc h2).mono hs).same (fd _ (h.pd c g h2).2)
 ·intro b1 b2 o1 o2 g1 g2 Ib h1 h2 k1 k2 hr;rcases oc b1 g1 k1 with⟨rfl,rfl⟩|⟨x1,y1⟩
  ·rcases oc b2 g2 k2 with⟨rfl,rfl⟩|⟨x2,y2⟩
   ·exact absurd rfl Ib
   ·have:=(h.pd _ _ y2).2;exact .inl (by simp only[ne_eq];omega)
  ·rcases oc b2 g2 k2 with⟨rfl,rfl⟩|⟨x2,y2⟩
   ·have:=(h.pd _ _ y1).2;exact .inl (by simp only[ne_eq];omega)
   ·exact h.pn _ _ _ _ _ _ Ib h1 h2 y1 y2 hr
def eW.P7{σ0:dj}{W0:AW}{w0:au}(h:eW σ0 W0 w0 σ W w)(hw:W.get W.next=none)(o:eF):eW σ0 W0 w0 σ (W.add o) w:=
 ⟨h.sub,λb cs x=>by
   have h1:=h.ro b cs x;have:W.next≠b:=λe=>by subst e;rw[hw]at h1;cases h1
   rw[AW.br _ _ this];exact h1,
   h.size,h.os,h.tape,h.output,h.dq,λb o2 h1 h2=>by
    obtain⟨a1,a2⟩:=h.ghost b o2 h1 h2;have:W.next≠b:=λe=>by subst e;rw[hw]at a1;cases a1
    exact⟨by rw[AW.br _ _ this];exact a1,a2⟩,h.grow⟩
def eW.bind{σ0:dj}{W0:AW}{w0:au}(h:eW σ0 W0 w0 σ W w){b e:Nat}(Eu:σ b=none)(h0:W0.get b=none){x:nv}{o:eF}(mT:lO (cq σ b ⟨w.heap.size,0,e⟩) (w.heap.push x) ⟨w.heap.size,0,e⟩ o)(pM:∀cs,o≠ .ro cs):
 eW σ0 W0 w0 (cq σ b ⟨w.heap.size,0,e⟩) W {w with heap:=w.heap.push x}:=by
 have hs:Sub σ (cq σ b ⟨w.heap.size,0,e⟩):=dD Eu;refine⟨h.sub.trans hs,h.ro,by have:=h.size;simp;omega,h.os,h.tape,h.output,?_,?_,?_⟩
 ·intro B hB hm;rw[<-h.dq B hB hm];have:=h.size;show(w.heap.push x)[B]? =_;rw[ss,b8]
 ·intro c o2 h1 h2;obtain⟨a1,a2⟩:=h.ghost c o2 h1 h2;have:c≠b:=λe=>by subst e;rw[h0]at h1;cases h1
  exact⟨a1,by unfold cq;rw[ay this];exact a2⟩
 ·intro c g hk hB;unfold cq at hk;split at hk
  ·injection hk with hk;subst hk;have:=h.size;simp at hB;omega
  ·exact h.grow c g hk hB
end
end
section
variable [ak]
def Oy{d:Option Tmp}{l:List Tmp}:JL d l=true<->∃t,d=some t/\t∈l:=by
 cases d with
 |none=>simp[JL]
 |some d=>simp[JL,sn]
def qX{d:Option Tmp}{l:List Tmp}(h:JL d l=false){t:Tmp}(ht:d=some t):t∉l:=λhm=>by have:=Oy.2 ⟨t,ht,hm⟩;rw[h]at this;cases this
def g8(ops:Array ao)(R:ak.Fr)(o:ao):Bool:=
 match o.guard with
 |none=>true
 |some (j,w)=>match(ops[j]?).bind (·.dst)with
  |some t=>(match dg R t with|.bool b=>b==w|_=>false)
  |none=>false
def KC{ops:Array ao}{o:ao}{t:Tmp}(h:Operand.tmp t∈o.op.operands):t∈o.looksAt ops:=by unfold Oper.looksAt;refine oU.2 (.inl (List.mem_filterMap.2 ⟨.tmp t,by simpa using h,rfl⟩))
def AB{ops:Array ao}{o:ao}{j:Nat}{w:Bool}{t:Tmp}(h:o.guard=some (j,w))(ht:(ops[j]?).bind (·.dst)=some t):t∈o.looksAt ops:=by unfold Oper.looksAt;refine oU.2 (.inr ?_);rw[h];simp only;rw[ht];simp
def Jb{R R':ak.Fr}{x:aq}(h:∀t,x=.tmp t->dg R' t=dg R t):aC R' x=aC R x:=by
 cases x with
 |tmp t=>exact h t rfl
 |_=>rfl
def xu{ops:Array ao}{o:ao}{R R':ak.Fr}(h:∀t∈o.looksAt ops,dg R' t=dg R t):FA o R R'/\g8 ops R' o=g8 ops R o:=by
 refine⟨λx hx=>Jb λt ht=>h t (KC (by rw[<-ht];exact hx)),?_⟩;unfold g8;split
 ·rfl
 ·rename_i j w hg;split
  ·rename_i t ht;rw[h t (AB hg ht)]
  ·rfl
def VR.R4{σ:dj}{v:ae}{b:Bool}(h:VR σ v (.bool b)):v=.bool b:=by cases h;rfl
def zw{ops:Array ao}{o:ao}{σ:dj}{R:ak.Fr}{a:ba}(h:∀t∈o.looksAt ops,VR σ (dg R t) (a.tmps.getD t ag)):
 Region.wanted o (yielded ops a.tmps)=g8 ops R o:=by
 unfold Region.wanted g8;cases hg:o.guard with
 |none=>rfl
 |some jw=>
  obtain⟨j,w⟩:=jw;simp only;unfold yielded;cases ht:(ops[j]?).bind (·.dst)with
  |none=>rfl
  |some t=>
   have hv:=h t (AB hg ht);simp only[bp];cases hq:a.tmps[t]? with
   |none=>
    have he:a.tmps.getD t ag=ag:=by simp[hq]
    rw[he]at hv;have:∀b,dg R t≠ .bool b:=λb hb=>by rw[hb]at hv;have:=hv.io;simp[ag]at this
    simp only;first
     |rfl
     |(split
       ·rename_i b hb;exact absurd hb (this b)
       ·rfl)
   |some u=>
    have he:a.tmps.getD t ag=u:=by simp[hq]
    rw[he]at hv;cases hr:dg R t with
    |bool b=>rw[hr]at hv;have:=hv.io;subst this;simp
    |_=>
     simp only;split
     ·rename_i b hb;injection hb with hb;subst hb;have:=hv.R4;rw[hr]at this;cases this
     ·rfl
def jY(P:aj)(call:Callee)(ops:Array ao)(o:ao)(R:ak.Fr)(W:AW):Option (ak.Fr×AW):=
 if g8 ops R o then
  match qr P call o R W with
  |some (v,W')=>some (eP R o.dst v,W')
  |none=>none
 else some (eP R o.dst ag,W)
def oX(P:aj)(call:Callee)(ops:Array ao):List ao->ak.Fr->AW->Option (ak.Fr×AW)
 |[],R,W=>some (R,W)
 |o::l,R,W=>match jY P call ops o R W with
  |some (R',W')=>oX P call ops l R' W'
  |none=>none
def xF(a b:ByteArray):Bool:=decide (a.data.toList=b.data.toList)
def wJ(a b:aW):Bool:=Nat.beq a.block b.block&&Nat.beq a.off b.off&&a.spot.isNone&&b.spot.isNone
def tr:ae->ae->Bool
 |.bool a,.bool b=>a==b
 |.int k a,.int j b=>decide (k=j)&&decide (a=b)
 |.string a,.string b=>xF a b
 |.pointer none,.pointer none=>true
 |.pointer (some a),.pointer (some b)=>wJ a b
 |.slice none l c,.slice none l' c'=>Nat.beq l l'&&Nat.beq c c'
 |.slice (some a) l c,.slice (some b) l' c'=>wJ a b&&Nat.beq l l'&&Nat.beq c c'
 |.map none,.map none=>true
 |.map (some a),.map (some b)=>Nat.beq a b
 |.nilFunc,.nilFunc=>true
 |.nilIface,.nilIface=>true
 |.func (.func f) a b,.func (.func g) c d=>Nat.beq f g&&a.isEmpty&&b.isEmpty&&c.isEmpty&&d.isEmpty
 |_,_=>false
def Sv:List ae->List ae->Bool
 |[],[]=>true
 |a::l,b::m=>tr a b&&Sv l m
 |_,_=>false
def fK:ae->ae->Bool
 |.agg a,.agg b=>Sv a.toList b.toList
 |.tuple a,.tuple b=>Sv a.toList b.toList
 |.iface t a,.iface u b=>Nat.beq t u&&tr a b
 |a,b=>tr a b
def DF{a b:ByteArray}(h:xF a b=true):a=b:=by have:=tz h;cases a;cases b;simp only[ByteArray.mk.injEq];exact qv.1 this
def FX{a b:aW}(h:wJ a b=true):a=b:=by simp only[wJ,bK,eM]at h;obtain⟨⟨⟨h1,h2⟩,h3⟩,h4⟩:=h;obtain⟨b1,o1,s1⟩:=a;obtain⟨b2,o2,s2⟩:=b;cases s1<;>cases s2<;>simp_all
def Mu{a b:ae}(h:tr a b=true):a=b:=by
 unfold tr at h;split at h<;>first
  |rfl
  |(simp at h;done)
  |(simp only[bK,eM,mn,mM]at h;simp[h];done)
  |(rw[DF h];done)
  |(rw[FX h];done)
  |(simp only[bK,eM]at h;obtain⟨⟨h1,h2⟩,h3⟩:=h;rw[FX h1,h2,h3];done)
  |(simp only[bK,eM,xz]at h;obtain⟨⟨⟨⟨h1,h2⟩,h3⟩,h4⟩,h5⟩:=h;subst h1 h2 h3 h4 h5;rfl)
def Ui{a b:List ae}(h:Sv a b=true):a=b:=by
 induction a generalizing b with
 |nil=>cases b with|nil=>rfl|cons x l=>cases h
 |cons x l ih=>
  cases b with
  |nil=>cases h
  |cons y m=>simp only[Sv,bK]at h;rw[Mu h.1,ih h.2]
def WP{a b:ae}(h:fK a b=true):a=b:=by
 unfold fK at h;split at h
 ·rw[qv.1 (Ui h)]
 ·rw[qv.1 (Ui h)]
 ·simp only[bK,eM]at h;rw[h.1,Mu h.2]
 ·exact Mu h
def pC(P:aj)(call:Callee)(ops:Array ao)(R:ak.Fr)(W:AW)(j:Nat):Bool:=
 match ops[j]? with
 |none=>false
 |some o=>if g8 ops R o then
  match qr P call o R W with
  |some (v,_)=>(match o.dst with|some t=>fK v (dg R t)|none=>true)
  |none=>false
  else true
def jv(P:aj)(call:Callee)(ops:Array ao):List (Nat×List Nat)->ak.Fr->AW->Option (ak.Fr×AW)
 |[],R,W=>some (R,W)
 |(i,re)::l,R,W=>match ops[i]? with
  |none=>none
  |some o=>match jY P call ops o R W with
   |some (R',W')=>if re.all (pC P call ops R' W')then jv P call ops l R' W' else none
   |none=>none
def Mk{P:aj}{call:Callee}{ops:Array ao}:∀(l:List Nat) (R:ak.Fr) (W:AW),(∀i∈l,i<ops.size)->
 jv P call ops (l.map λi=>(i,[])) R W=oX P call ops (l.filterMap λi=>ops[i]?) R W:=by
 intro l;induction l with
 |nil=>intro R W _;rfl
 |cons i l ih=>
  intro R W h;have hi:i<ops.size:=h i (by simp);have hg:ops[i]? =some ops[i]:=g9 hi;simp only[jd,jv,hg,List.filterMap_cons,oX];split
  ·rename_i R' W' hs;simp only[mf,bh];exact ih R' W' λj hj=>h j (by simp[hj])
  ·rfl
def ke{R:ak.Fr}{d:Option Tmp}{v:ae}{t:Tmp}(h:d≠some t):dg (eP R d v) t=dg R t:=by
 cases d with
 |none=>rfl
 |some d=>exact sC R v (λe=>h (by rw[e]))
def uQ{R:ak.Fr}{d:Option Tmp}{v:ae}{t:Tmp}(h:d=some t):dg (eP R d v) t=v:=by subst h;exact uU R t v
def gY{a:ba}{d:Option Tmp}{v:ae}{t:Tmp}(h:d≠some t):(a.put d v).tmps.getD t ag=a.tmps.getD t ag:=by
 cases d with
 |none=>rfl
 |some d=>
  have:d≠t:=λe=>h (by rw[e])
  simp[Act.put,Dm this]
def oi{a:ba}{d:Option Tmp}{v:ae}{t:Tmp}(h:d=some t)(ht:t<a.tmps.size):(a.put d v).tmps.getD t ag=v:=by subst h;simp[Act.put,ht]
def Ct{a:ba}{d:Option Tmp}{v:ae}:(a.put d v).tmps.size=a.tmps.size:=by cases d<;>simp[Act.put]
end
section
variable [ak]
def OY{a b:Nat}(h:Nat.beq a b=false):a≠b:=λe=>by rw[e,pX]at h;cases h
def UO{A:List Nat}{o:ao}{j:Nat}(h:Nat.testBit (tJ A o) j=true):
 ∃e∈o.after,Region.binds .any e=true/\(j=e.on\/Nat.testBit (A.getD e.on 0) j=true):=by
 have key:∀l:List Edge,Nat.testBit (l.foldr (λe m=>if Region.binds .any e then Nat.lor (Nat.lor (2^ e.on) (A.getD e.on 0)) m else m) 0) j=true->
  ∃e∈l,Region.binds .any e=true/\(j=e.on\/Nat.testBit (A.getD e.on 0) j=true):=by
  intro l;induction l with
  |nil=>intro h;simp at h
  |cons e l ih=>
   intro h;simp only[List.foldr_cons]at h;split at h
   ·rename_i hb;have h':Nat.testBit ((2^ e.on|||A.getD e.on 0)|||(l.foldr (λe m=>if Region.binds .any e then Nat.lor (Nat.lor (2^ e.on) (A.getD e.on 0)) m else m) 0)) j=true:=h;rw[Nat.testBit_or,Nat.testBit_or,mV,mV]at h';rcases h' with(h1|h1)|h1
    ·rw[Nat.testBit_two_pow]at h1;exact⟨e,by simp,hb,.inl (tz h1).symm⟩
    ·exact⟨e,by simp,hb,.inr h1⟩
    ·obtain⟨e',a,b⟩:=ih h1;exact⟨e',by simp[a],b⟩
   ·obtain⟨e',a,b⟩:=ih h;exact⟨e',by simp[a],b⟩
 obtain⟨e,a,b⟩:=key o.after.toList h;exact⟨e,by simpa using a,b⟩
structure abH (ops:Array ao) (A:List Nat) (pre:List DP) (i:Nat) (re:List Nat) (iZ:List (Nat×List Nat)) (o:ao) (e:Bool):Prop where
 op:ops[i]? =some o
 early:e=true->ig o<3/\JL o.dst (o.looksAt ops)=false/\∀d∈pre,JL o.dst (jA ops d.o)=false
 new:∀d∈pre,d.i≠i
 top:∀ed∈o.after,Region.binds .any ed=true->∃d∈pre,d.i=ed.on
 held:∀d∈pre,d.early=true->Nat.testBit (A.getD i 0) d.i=true\/(JL d.o.dst (o.looksAt ops)=false/\(e=true\/(JL o.dst (jA ops d.o)=false/\(ig d.o=0\/ig d.o=2\/d.i∈re))))
 last:e=true\/∀k∈iZ,∃ok,ops[k.1]? =some ok/\∃ed∈ok.after,Region.binds .any ed=true/\∀d∈pre,d.i≠ed.on
 go:yP ops A (⟨i,o,e⟩::pre) iZ=true
def AI{ops:Array ao}{A:List Nat}{pre:List DP}{i:Nat}{re:List Nat}{iZ:List (Nat×List Nat)}(h:yP ops A pre ((i,re)::iZ)=true):
 ∃o e,abH ops A pre i re iZ o e:=by
 unfold yP at h;split at h
 ·cases h
 ·rename_i o ho;simp only[bK]at h;obtain⟨⟨⟨⟨h1,h2⟩,h3⟩,h4⟩,h5⟩:=h;refine⟨o,_,⟨ho,?_,?_,?_,?_,?_,h5⟩⟩
  ·intro he;simp only[bK,cM,tD]at he;obtain⟨⟨a,b⟩,c⟩:=he;exact⟨by simpa[jM]using a,b,c⟩
  ·intro d hd;rw[cM]at h1;have:=h1 d hd;exact OY (by simpa only[tD]using this)
  ·intro ed Yx hb;rw[cM]at h2;have:=h2 ed (by simpa using Yx);rw[hb]at this;simpa using this
  ·intro d hd hde;rw[cM]at h3;have:=h3 d hd;rw[hde]at this;simp only[Bool.not_true,Bool.false_or,mV,bK,tD,eM,sn,or_assoc]at this;simpa only[bK,tD,or_assoc]using this
  ·rw[mV]at h4;refine h4.imp id λh4=>?_
   intro k hk;rw[cM]at h4;have:=h4 k hk;split at this
   ·rename_i ok jq;rw[uL]at this;obtain⟨ed,Yx,hq⟩:=this;simp only[bK,cM,tD]at hq;refine⟨ok,jq,ed,by simpa using Yx,hq.1,λd hd=>?_⟩;have:=hq.2 d hd;exact OY this
   ·cases this
section
variable {P:aj} {call:Callee} {ops:Array ao} {A:List Nat} {nt:Nat} {ng:List Nat} {σ0:dj} {W0:AW} {w0:au} {ds:List dM}
def QJ(P:aj)(call:Callee)(ops:Array ao)(W0:AW)(bd:Nat->Option Nat)(σ:dj)(R:ak.Fr)(W:AW)(d:DP):Prop:=
 (g8 ops R d.o=false/\bd d.i=none/\∀t,d.o.dst=some t->dg R t=ag)\/
 (g8 ops R d.o=true/\bd d.i=none/\ig d.o<=1/\∃v,qr P call d.o R W=some (v,W)/\∀t,d.o.dst=some t->dg R t=v)\/
 (g8 ops R d.o=true/\∃obj mk x,Lays P R d.o obj mk/\(∀t,d.o.dst=some t->dg R t=mk x)/\W.get x=some obj/\W0.get x=none/\σ x=none/\bd d.i=some x/\∀cs,obj≠ .ro cs)
def tT{o:ao}{t:Tmp}(h:t∈o.looksAt ops):t∈jA ops o:=by unfold jA;simp[h]
def nT{o:ao}{t:Tmp}(h:o.dst=some t):t∈jA ops o:=by unfold jA;simp[h]
def QJ.mono{bd Gm:Nat->Option Nat}{σ σ':dj}{R R':ak.Fr}{W W':AW}{d:DP}(h:QJ P call ops W0 bd σ R W d)
 (hb:Gm d.i=bd d.i)(hR:∀t∈jA ops d.o,dg R' t=dg R t)(hg:Grow W W')(hσ:∀x o,W.get x=some o->σ x=none->σ' x=none):
 QJ P call ops W0 Gm σ' R' W' d:=by
 obtain⟨ha,hw⟩:=xu (ops:=ops) (o:=d.o) λt ht=>hR t (tT ht)
 rcases h with⟨h1,h2,h3⟩|⟨h1,h2,h3,v,h4,h5⟩|⟨h1,obj,mk,x,h2,h3,h4,h5,h6,h7⟩
 ·exact .inl ⟨by rw[hw];exact h1,by rw[hb];exact h2,λt ht=>by rw[hR t (nT ht)];exact h3 t ht⟩
 ·exact .inr (.inl ⟨by rw[hw];exact h1,by rw[hb];exact h2,h3,v,(uR h3 h4).2 R' W' ha (.inr hg),λt ht=>by rw[hR t (nT ht)];exact h5 t ht⟩)
 ·exact .inr (.inr ⟨by rw[hw];exact h1,obj,mk,x,h2.agree ha,λt ht=>by rw[hR t (nT ht)];exact h3 t ht,hg _ _ h4,h5,hσ _ _ h4 h6,by rw[hb];exact h7⟩)
structure J (P:aj) (call:Callee) (ops:Array ao) (A:List Nat) (nt:Nat) (ng:List Nat) (σ0:dj) (W0:AW) (w0:au) (ds:List dM)
 (pre:List DP) (listed:Array Bool) (bd:Nat->Option Nat) (σ:dj) (R:ak.Fr) (W:AW) (a:ba) (w:au):Prop where
 yW:bt σ W w.heap
 MA:vH σ ng
 ext:eW σ0 W0 w0 σ W w
 Lc:a.tmps.size=nt
 Xe:a.defers=ds
 vU:listed.size=ops.size
 Qw:∀t,t<nt->(∀d∈pre,listed.getD d.i true=false->d.o.dst≠some t)->VR σ (dg R t) (a.tmps.getD t ag)
 sub:∀i,i<ops.size->listed.getD i true=true->∃d∈pre,d.i=i
 op:∀d∈pre,ops[d.i]? =some d.o
 early:∀d∈pre,d.early=false->listed.getD d.i true=true
 kind:∀d∈pre,d.early=true->ig d.o<3
 down:∀i j,i<ops.size->listed.getD i true=true->Nat.testBit (A.getD i 0) j=true->listed.getD j true=true
 NU:∀d∈pre,∀d'∈pre,d'.early=true->JL d'.o.dst (d.o.looksAt ops)=true->Nat.testBit (A.getD d.i 0) d'.i=true/\d.i≠d'.i
 mJ:∀d∈pre,listed.getD d.i true=false->QJ P call ops W0 bd σ R W d
 inj:∀d∈pre,∀d'∈pre,listed.getD d.i true=false->listed.getD d'.i true=false->∀x,bd d.i=some x->bd d'.i=some x->d.i=d'.i
def J.advance{pre:List DP}{listed:Array Bool}{bd:Nat->Option Nat}{σ:dj}{R R':ak.Fr}{W W':AW}{a:ba}{w:au}{i:Nat}{re:List Nat}{iZ:List (Nat×List Nat)}{o:ao}
 (hJ:J P call ops A nt ng σ0 W0 w0 ds pre listed bd σ R W a w)(hh:abH ops A pre i re iZ o true)(hs:jY P call ops o R W=some (R',W')):
 ∃Gm,J P call ops A nt ng σ0 W0 w0 ds (⟨i,o,true⟩::pre) listed Gm σ R' W' a w:=by
 obtain⟨hk3,aav,UH⟩:=hh.early rfl;have hi:i<ops.size:=(dW.1 hh.op).1;have Hr:listed.getD i true=false:=by
  cases hq:listed.getD i true with
  |false=>rfl
  |true=>obtain⟨d,hd,e⟩:=hJ.sub i hi hq;exact absurd e (hh.new d hd)
 have K6:W.get W.next=none:=hJ.yW.free _ (aP _);have build:∀(Gm:Nat->Option Nat) (u:ae),R'=eP R o.dst u->bt σ W' w.heap->eW σ0 W0 w0 σ W' w->Grow W W'->(∀k,k≠i->Gm k=bd k)->
  QJ P call ops W0 Gm σ R' W' ⟨i,o,true⟩->(∀x,Gm i=some x->W.get x=none)->J P call ops A nt ng σ0 W0 w0 ds (⟨i,o,true⟩::pre) listed Gm σ R' W' a w:=by
  intro Gm u hR' hwr Kw hg hbd wW hbx;have yV:∀d∈pre,∀t∈jA ops d.o,dg R' t=dg R t:=λd hd t ht=>by rw[hR'];exact ke λe=>qX (UH d hd) e ht
  have fd:∀d∈pre,listed.getD d.i true=false->QJ P call ops W0 Gm σ R' W' d:=λd hd hl=>(hJ.mJ d hd hl).mono (hbd _ (hh.new d hd)) (yV d hd) hg (λ_ _ _ h=>h)
  have hpx:∀d∈pre,listed.getD d.i true=false->∀x,bd d.i=some x->∃ob,W.get x=some ob:=by
   intro d hd hl x hx;rcases hJ.mJ d hd hl with⟨_,h2,_⟩|⟨_,h2,_⟩|⟨_,obj,mk,y,_,_,h4,_,_,h7⟩
   ·rw[h2]at hx;cases hx
   ·rw[h2]at hx;cases hx
   ·rw[h7.1]at hx;injection hx with hx;subst hx;exact⟨obj,h4⟩
  refine⟨hwr,hJ.MA,Kw,hJ.Lc,hJ.Xe,hJ.vU,?_,?_,?_,?_,?_,hJ.down,?_,?_,?_⟩
  ·intro t ht vN;have h1:o.dst≠some t:=vN ⟨i,o,true⟩ (by simp) Hr;rw[hR',ke h1];exact hJ.Qw t ht λd hd=>vN d (by simp[hd])
  ·intro k hk hl;obtain⟨d,hd,e⟩:=hJ.sub k hk hl;exact⟨d,by simp[hd],e⟩
  ·intro d hd;rcases dz.1 hd with rfl|hd
   ·exact hh.op
   ·exact hJ.op d hd
  ·intro d hd he;rcases dz.1 hd with rfl|hd
   ·cases he
   ·exact hJ.early d hd he
  ·intro d hd he;rcases dz.1 hd with rfl|hd
   ·exact hk3
   ·exact hJ.kind d hd he
  ·intro d hd d' ie he kX;rcases dz.1 hd with rfl|hd
   ·rcases dz.1 ie with rfl|ie
    ·simp only at kX;rw[aav]at kX;cases kX
    ·rcases hh.held d' ie he with h1|⟨h1,_⟩
     ·exact⟨h1,λe=>hh.new d' ie e.symm⟩
     ·simp only at kX;rw[h1]at kX;cases kX
   ·rcases dz.1 ie with rfl|ie
    ·exfalso;have h1:=UH d hd;obtain⟨t,ht,hm⟩:=Oy.1 kX;exact qX h1 ht (tT hm)
    ·exact hJ.NU d hd d' ie he kX
  ·intro d hd hl;rcases dz.1 hd with rfl|hd
   ·exact wW
   ·exact fd d hd hl
  ·intro d hd d' ie hl It x hx DG;rcases dz.1 hd with rfl|hd
   ·rcases dz.1 ie with rfl|ie
    ·rfl
    ·rw[hbd _ (hh.new d' ie)]at DG;obtain⟨ob,h1⟩:=hpx d' ie It x DG;rw[hbx x hx]at h1;cases h1
   ·rcases dz.1 ie with rfl|ie
    ·rw[hbd _ (hh.new d hd)]at hx;obtain⟨ob,h1⟩:=hpx d hd hl x hx;rw[hbx x DG]at h1;cases h1
    ·rw[hbd _ (hh.new d hd)]at hx;rw[hbd _ (hh.new d' ie)]at DG;exact hJ.inj d hd d' ie hl It x hx DG
 have Su:∀u,(∀t∈o.looksAt ops,dg (eP R o.dst u) t=dg R t):=λu t ht=>ke λe=>qX aav e ht
 unfold jY at hs;split at hs
 ·rename_i hw;split at hs
  ·rename_i v W1 sV;injection hs with hs;injection hs with Bl nI;subst Bl;subst nI;obtain⟨ha,hwa⟩:=xu (Su v);by_cases hk1:ig o<=1
   ·obtain⟨Ld,hk⟩:=uR hk1 sV;subst Ld;refine⟨λk=>if k=i then none else bd k,build _ v rfl hJ.yW hJ.ext (.refl _) (λk hk=>by simp[hk]) (.inr (.inl ⟨by rw[hwa];exact hw,by simp,hk1,v,hk _ _ ha (.inr (.refl _)),λt ht=>uQ ht⟩)) (λx hx=>by simp at hx)⟩
   ·have HB:ig o=2:=by omega
    obtain⟨obj,mk,pM,rfl,rfl,hl⟩:=Uw HB sV;have amQ:W0.get W.next=none:=by
     cases hq:W0.get W.next with
     |none=>rfl
     |some ob=>
      cases hq2:σ0 W.next with
      |none=>rw[(hJ.ext.ghost _ _ hq hq2).1]at K6;cases K6
      |some g=>have:=(hJ.yW.pd _ _ (hJ.ext.sub _ _ hq2)).1;omega
    refine⟨λk=>if k=i then some W.next else bd k,build _ _ rfl (hJ.yW.ghost obj) (hJ.ext.P7 K6 obj) (.add K6 obj) (λk hk=>by simp[hk])
     (.inr (.inr ⟨by rw[hwa];exact hw,obj,mk,W.next,hl.agree ha,λt ht=>uQ ht,AW.aT _ _,amQ,hJ.yW.fresh,by simp,pM⟩)) (λx hx=>by simp at hx;subst hx;exact K6)⟩
  ·cases hs
 ·rename_i hw;injection hs with hs;injection hs with Bl nI;subst Bl;subst nI;obtain⟨ha,hwa⟩:=xu (Su ag);refine⟨λk=>if k=i then none else bd k,build _ ag rfl hJ.yW hJ.ext (.refl _) (λk hk=>by simp[hk]) (.inl ⟨by rw[hwa];simpa using hw,by simp,λt ht=>uQ ht⟩) (λx hx=>by simp at hx)⟩
end
end
section
variable [ak]
def dx{l:Array Bool}{i:Nat}(h:i<l.size)(d:Bool):(l.setIfInBounds i true).getD i d=true:=by simp[h]
def aX{l:Array Bool}{i j:Nat}(h:i≠j)(d:Bool):(l.setIfInBounds i true).getD j d=l.getD j d:=by simp[Dm h]
def HO{l:Array Bool}{i:Nat}(h:l.getD i false=true):l.getD i true=true/\i<l.size:=by
 by_cases hi:i<l.size
 ·simp[hi]at h|-;exact h
 ·simp[hi]at h
def Jg{ops:Array ao}{nt:Nat}{ng:List Nat}(jq:∀(i:Nat) (o:ao),ops[i]? =some o->kL nt ng o=true){i:Nat}{o:ao}(ho:ops[i]? =some o){t:Tmp}(ht:t∈o.looksAt ops):t<nt:=by
 unfold Oper.looksAt at ht;rcases oU.1 ht with h|h
 ·obtain⟨x,hx,e⟩:=List.mem_filterMap.1 h;have:=jq i o ho;simp only[kL,bK,cM]at this;have h2:=this.1 x hx;cases x with
  |tmp u=>simp only[gJ]at e;subst e;simpa[nN,jM]using h2
  |_=>cases e
 ·split at h
  ·rename_i g b hg;cases hq:(ops[g]?).bind (·.dst)with
   |none=>rw[hq]at h;simp at h
   |some u=>
    rw[hq]at h;simp at h;subst h;cases hg:ops[g]? with
    |none=>rw[hg]at hq;cases hq
    |some og=>rw[hg]at hq;simp only[bp]at hq;have:=jq g og hg;simp only[kL,hq,bK]at this;simpa[jM]using this.2
  ·simp at h
def rV{ops:Array ao}{nt:Nat}{ng:List Nat}{σ:dj}{R:ak.Fr}{a:ba}(hG:vH σ ng){o:ao}(jq:kL nt ng o=true)
 (h:∀t∈o.looksAt ops,VR σ (dg R t) (a.tmps.getD t ag)):∀x∈o.op.operands,VR σ (aC R x) (a.eval x):=by
 intro x hx;simp only[kL,bK,cM]at jq;have hk:=jq.1 x (by simpa using hx);cases x with
 |tmp t=>exact h t (KC hx)
 |const v=>exact iO hk
 |global g=>obtain⟨e,he⟩:=hG g (sn.1 hk);have:=VR.ptr (σ:=σ) ⟨g,0,none⟩ _ he rfl;simpa[aC,Act.eval]using this
 |func f=>exact .func _ _ _ _ _ _ (.func f) rfl (λi v v' h=>by simp at h) rfl (λi v v' h=>by simp at h)
def UU{o:ao}(h:ig o<3):∀c,o.op≠ .defer c:=λc e=>by unfold ig at h;rw[e]at h;simp at h
section
variable {P:aj} {call:Callee} {ops:Array ao} {A:List Nat} {nt:Nat} {ng:List Nat} {σ0:dj} {W0:AW} {w0:au} {ds:List dM}
def J.anc{pre:List DP}{listed:Array Bool}{bd:Nat->Option Nat}{σ:dj}{R:ak.Fr}{W:AW}{a:ba}{w:au}
 (hJ:J P call ops A nt ng σ0 W0 w0 ds pre listed bd σ R W a w)(hA:∀(i:Nat) (o:ao),ops[i]? =some o->A.getD i 0=tJ A o)
 {i:Nat}{o:ao}(ho:ops[i]? =some o)(hr:∀e∈o.after,Region.binds .any e=true->listed.getD e.on false=true){j:Nat}(hj:Nat.testBit (A.getD i 0) j=true):
 listed.getD j true=true:=by
 rw[hA i o ho]at hj;obtain⟨e,he,hb,h|h⟩:=UO hj
 ·rw[h];exact(HO (hr e he hb)).1
 ·have:=HO (hr e he hb);exact hJ.down e.on j (by rw[<-hJ.vU];exact this.2) this.1 h
def J.mark{pre:List DP}{listed:Array Bool}{bd:Nat->Option Nat}{σ σ':dj}{R:ak.Fr}{W:AW}{a:ba}{w w':au}
 (hJ:J P call ops A nt ng σ0 W0 w0 ds pre listed bd σ R W a w){d:DP}(hd:d∈pre)(v':ae)(hs:Sub σ σ')(hw:bt σ' W w'.heap)(he:eW σ0 W0 w0 σ' W w')
 (hv:∀t,d.o.dst=some t->VR σ' (dg R t) v')(hx:∀d'∈pre,d'.i≠d.i->listed.getD d'.i true=false->∀x,bd d'.i=some x->σ x=none->(∃o,W.get x=some o)->σ' x=none)
 (HK:∀j,Nat.testBit (A.getD d.i 0) j=true->listed.getD j true=true):
 J P call ops A nt ng σ0 W0 w0 ds pre (listed.setIfInBounds d.i true) bd σ' R W (a.put d.o.dst v') w':=by
 have hi:d.i<listed.size:=by rw[hJ.vU];exact(dW.1 (hJ.op d hd)).1
 have vL:∀k,listed.getD k true=true->(listed.setIfInBounds d.i true).getD k true=true:=λk hk=>by
  by_cases e:d.i=k
  ·subst e;exact dx hi _
  ·rw[aX e];exact hk
 have Am:∀k,(listed.setIfInBounds d.i true).getD k true=false->k≠d.i/\listed.getD k true=false:=λk hk=>by
  by_cases e:d.i=k
  ·subst e;rw[dx hi]at hk;cases hk
  ·rw[aX e]at hk;exact⟨bL e,hk⟩
 refine⟨hw,hJ.MA.mono hs,he,by rw[Ct];exact hJ.Lc,by rw[oy];exact hJ.Xe,by simp[hJ.vU],?_,?_,hJ.op,?_,hJ.kind,?_,hJ.NU,?_,?_⟩
 ·intro t ht vN;by_cases Za:d.o.dst=some t
  ·rw[oi Za (by rw[hJ.Lc];exact ht)];exact hv t Za
  ·rw[gY Za];refine(hJ.Qw t ht λd' ie hl=>?_).mono hs;by_cases e:d'.i=d.i
   ·have h1:=hJ.op d' ie;have h2:=hJ.op d hd;rw[e,h2]at h1;injection h1 with h1;rw[<-h1];exact Za
   ·exact vN d' ie (by rw[aX (bL e)];exact hl)
 ·intro k hk hl;by_cases e:d.i=k
  ·exact⟨d,hd,e⟩
  ·rw[aX e]at hl;exact hJ.sub k hk hl
 ·intro d' ie h;exact vL _ (hJ.early d' ie h)
 ·intro k j hk hl hb;by_cases e:d.i=k
  ·subst e;exact vL _ (HK j hb)
  ·rw[aX e]at hl;exact vL _ (hJ.down k j hk hl hb)
 ·intro d' ie hl;obtain⟨h1,h2⟩:=Am _ hl;rcases hJ.mJ d' ie h2 with k|k|⟨k1,obj,mk,x,k2,k3,k4,k5,k6,k7⟩
  ·exact .inl k
  ·exact .inr (.inl k)
  ·exact .inr (.inr ⟨k1,obj,mk,x,k2,k3,k4,k5,hx d' ie h1 h2 x k7.1 k6 ⟨_,k4⟩,k7⟩)
 ·intro d1 h1 d2 h2 l1 l2;exact hJ.inj d1 h1 d2 h2 (Am _ l1).2 (Am _ l2).2
def J.looks{pre:List DP}{listed:Array Bool}{bd:Nat->Option Nat}{σ:dj}{R:ak.Fr}{W:AW}{a:ba}{w:au}
 (hJ:J P call ops A nt ng σ0 W0 w0 ds pre listed bd σ R W a w)(jq:∀(i:Nat) (o:ao),ops[i]? =some o->kL nt ng o=true){i:Nat}{o:ao}(ho:ops[i]? =some o)
 (hp:∀d∈pre,listed.getD d.i true=false->JL d.o.dst (o.looksAt ops)=false):∀t∈o.looksAt ops,VR σ (dg R t) (a.tmps.getD t ag):=
 λt ht=>hJ.Qw t (Jg jq ho ht) λd hd hl e=>qX (hp d hd hl) e ht
def J.sj{pre:List DP}{listed:Array Bool}{bd:Nat->Option Nat}{σ:dj}{R:ak.Fr}{W:AW}{a:ba}{w:au}
 (hJ:J P call ops A nt ng σ0 W0 w0 ds pre listed bd σ R W a w){d:DP}(hd:d∈pre)(hl:listed.getD d.i true=false):d.early=true:=by
 cases he:d.early with
 |true=>rfl
 |false=>rw[hJ.early d hd he]at hl;cases hl
def J.aeM(hc:cw P ng call)(jq:∀(i:Nat) (o:ao),ops[i]? =some o->kL nt ng o=true)(hA:∀(i:Nat) (o:ao),ops[i]? =some o->A.getD i 0=tJ A o)
 {pre:List DP}{listed:Array Bool}{bd:Nat->Option Nat}{σ:dj}{R:ak.Fr}{W:AW}{a:ba}{w:au}
 (hJ:J P call ops A nt ng σ0 W0 w0 ds pre listed bd σ R W a w){d:DP}(hd:d∈pre)(hl:listed.getD d.i true=false)
 (hr:∀e∈d.o.after,Region.binds .any e=true->listed.getD e.on false=true){ro:Option Nat}{K:ba->au->Prop}{Q:dh->ba->au->Prop}
 (hK:∀σ' a' w',J P call ops A nt ng σ0 W0 w0 ds pre (listed.setIfInBounds d.i true) bd σ' R W a' w'->K a' w'):wpOpIn (FE ro) 0 P ops Q d.i K a w:=by
 have ho:=hJ.op d hd;have HK:∀j,Nat.testBit (A.getD d.i 0) j=true->listed.getD j true=true:=λj hj=>hJ.anc hA ho hr hj
 have A7:=hJ.looks jq ho (λd' ie It=>by
  cases hq:JL d'.o.dst (d.o.looksAt ops)with
  |false=>rfl
  |true=>have:=HK _ (hJ.NU d hd d' ie (hJ.sj ie It) hq).1;rw[It]at this;cases this);have hρ:=rV hJ.MA (jq _ _ ho) A7;have Be:=zw A7;have hk3:=hJ.kind d hd (hJ.sj hd hl);have hnd:=UU hk3;unfold wpOpIn;rw[ho];simp only[Be];rcases hJ.mJ d hd hl with⟨h1,h2,h3⟩|⟨h1,h2,h3,v,h4,h5⟩|⟨h1,obj,mk,x,h2,h3,h4,h5,h6,h7⟩
 ·rw[h1,ay (by simp)];refine⟨λf _=>trivial,hK σ _ w (hJ.mark hd ag (.refl _) hJ.yW hJ.ext (λt ht=>by rw[h3 t ht];exact .undef) (λ_ _ _ _ _ _ h _=>h) HK)⟩
 ·rw[h1,ax rfl];refine GY hc hJ.yW hJ.MA h4 hρ λσ' v' w' hv hw he=>?_
  exact hK σ' _ w' (hJ.mark hd v' he.sub hw (hJ.ext.trans he) (λt ht=>by rw[h5 t ht];exact hv) (λd' _ _ _ x _ h6 ⟨ob,hx⟩=>(he.ghost _ _ hx h6).2) HK)
 ·rw[h1,ax rfl];obtain⟨v',xo,e,r1,r2,r3⟩:=h2 σ a.eval w x hρ h6;refine⟨λf _=>trivial,?_⟩;rw[Oper.semAt_eq _ _ _ hnd,r1];refine hK (cq σ x ⟨w.heap.size,0,e⟩) _ _ (hJ.mark hd v' (dD h6) (hJ.yW.bind h4 h6 r3) (hJ.ext.bind h6 h5 r3 h7.2) (λt ht=>by rw[h3 t ht];exact r2) ?_ HK);intro d' ie fk It y hy hσ _;have:y≠x:=λe=>by subst e;exact fk (hJ.inj d' ie d hd It hl y hy h7.1)
  unfold cq;rw[ay this];exact hσ
def J.force(hc:cw P ng call)(jq:∀(i:Nat) (o:ao),ops[i]? =some o->kL nt ng o=true)(hA:∀(i:Nat) (o:ao),ops[i]? =some o->A.getD i 0=tJ A o)
 {pre:List DP}{listed:Array Bool}{bd:Nat->Option Nat}{σ:dj}{R R':ak.Fr}{W W':AW}{a:ba}{w:au}{i:Nat}{re:List Nat}{iZ:List (Nat×List Nat)}{o:ao}
 (hJ:J P call ops A nt ng σ0 W0 w0 ds pre listed bd σ R W a w)(hh:abH ops A pre i re iZ o false)(hs:jY P call ops o R W=some (R',W'))(JZ:re.all (pC P call ops R' W')=true)
 (hr:∀e∈o.after,Region.binds .any e=true->listed.getD e.on false=true){ro:Option Nat}{K:ba->au->Prop}{Q:dh->ba->au->Prop}
 (hK:∀σ' a' w',J P call ops A nt ng σ0 W0 w0 ds (⟨i,o,false⟩::pre) (listed.setIfInBounds i true) bd σ' R' W' a' w'->K a' w'):wpOpIn (FE ro) 0 P ops Q i K a w:=by
 have ho:=hh.op;have hi:i<listed.size:=by rw[hJ.vU];exact(dW.1 ho).1
 have HK:∀j,Nat.testBit (A.getD i 0) j=true->listed.getD j true=true:=λj hj=>hJ.anc hA ho hr hj
 have wW:∀d∈pre,listed.getD d.i true=false->JL d.o.dst (o.looksAt ops)=false/\JL o.dst (jA ops d.o)=false/\(ig d.o=0\/ig d.o=2\/d.i∈re):=by
  intro d hd hl;rcases hh.held d hd (hJ.sj hd hl)with h1|⟨h1,h2⟩
  ·rw[HK _ h1]at hl;cases hl
  ·rcases h2 with h2|⟨h2,h3⟩
   ·cases h2
   ·exact⟨h1,h2,h3⟩
 have A7:=hJ.looks jq ho (λd hd hl=>(wW d hd hl).1);have hρ:=rV hJ.MA (jq _ _ ho) A7;have Be:=zw A7;have Am:∀k,(listed.setIfInBounds i true).getD k true=false->k≠i/\listed.getD k true=false:=λk hk=>by
  by_cases e:i=k
  ·subst e;rw[dx hi]at hk;cases hk
  ·rw[aX e]at hk;exact⟨bL e,hk⟩
 have vL:∀k,listed.getD k true=true->(listed.setIfInBounds i true).getD k true=true:=λk hk=>by
  by_cases e:i=k
  ·subst e;exact dx hi _
  ·rw[aX e];exact hk
 have build:∀(σ':dj) (u u':ae) (w':au),R'=eP R o.dst u->VR σ' u u'->bt σ' W' w'.heap->eW σ W w σ' W' w'->
  J P call ops A nt ng σ0 W0 w0 ds (⟨i,o,false⟩::pre) (listed.setIfInBounds i true) bd σ' R' W' (a.put o.dst u') w':=by
  intro σ' u u' w' hR' hu hw he;refine⟨hw,hJ.MA.mono he.sub,hJ.ext.trans he,by rw[Ct];exact hJ.Lc,by rw[oy];exact hJ.Xe,by simp[hJ.vU],?_,?_,?_,?_,?_,?_,?_,?_,?_⟩
  ·intro t ht vN;by_cases Za:o.dst=some t
   ·rw[oi Za (by rw[hJ.Lc];exact ht),hR',uQ Za];exact hu
   ·rw[gY Za,hR',ke Za];refine(hJ.Qw t ht λd' ie hl=>?_).mono he.sub;exact vN d' (by simp[ie]) (by rw[aX (bL (hh.new d' ie))];exact hl)
  ·intro k hk hl;by_cases e:i=k
   ·exact⟨⟨i,o,false⟩,by simp,e⟩
   ·rw[aX e]at hl;obtain⟨d,hd,e⟩:=hJ.sub k hk hl;exact⟨d,by simp[hd],e⟩
  ·intro d hd;rcases dz.1 hd with rfl|hd
   ·exact ho
   ·exact hJ.op d hd
  ·intro d hd h;rcases dz.1 hd with rfl|hd
   ·exact dx hi _
   ·exact vL _ (hJ.early d hd h)
  ·intro d hd h;rcases dz.1 hd with rfl|hd
   ·cases h
   ·exact hJ.kind d hd h
  ·intro k j hk hl hb;by_cases e:i=k
   ·subst e;exact vL _ (HK j hb)
   ·rw[aX e]at hl;exact vL _ (hJ.down k j hk hl hb)
  ·intro d hd d' ie hde kX;rcases dz.1 ie with rfl|ie
   ·cases hde
   ·rcases dz.1 hd with rfl|hd
    ·rcases hh.held d' ie hde with h1|⟨h1,_⟩
     ·exact⟨h1,λe=>hh.new d' ie e.symm⟩
     ·simp only at kX;rw[h1]at kX;cases kX
    ·exact hJ.NU d hd d' ie hde kX
  ·intro d hd hl;rcases dz.1 hd with rfl|hd
   ·rw[dx hi]at hl;cases hl
   ·have It:=(Am _ hl).2;obtain⟨g1,g2,g3⟩:=wW d hd It;have yV:∀t∈jA ops d.o,dg R' t=dg R t:=λt ht=>by rw[hR'];exact ke λe=>qX g2 e ht
    obtain⟨ha,hwd⟩:=xu (ops:=ops) (o:=d.o) λt ht=>yV t (tT ht)
    rcases hJ.mJ d hd It with⟨h1,h2,h3⟩|⟨h1,h2,h3,v,h4,h5⟩|⟨h1,obj,mk,x,h2,h3,h4,h5,h6,h7⟩
    ·exact .inl ⟨by rw[hwd];exact h1,h2,λt ht=>by rw[yV t (nT ht)];exact h3 t ht⟩
    ·refine .inr (.inl ⟨by rw[hwd];exact h1,h2,h3,?_⟩);rcases g3 with g3|g3|g3
     ·exact⟨v,(uR h3 h4).2 R' W' ha (.inl g3),λt ht=>by rw[yV t (nT ht)];exact h5 t ht⟩
     ·omega
     ·have Su:=cM.1 JZ d.i g3;unfold pC at Su;rw[hJ.op d hd]at Su;simp only[hwd,h1,bh]at Su;split at Su
      ·rename_i u W2 sV;have:=(uR h3 sV).1;subst this;refine⟨u,sV,λt ht=>?_⟩;rw[ht]at Su;exact(WP Su).symm
      ·cases Su
    ·obtain⟨k1,k2⟩:=he.ghost _ _ h4 h6;exact .inr (.inr ⟨by rw[hwd];exact h1,obj,mk,x,h2.agree ha,λt ht=>by rw[yV t (nT ht)];exact h3 t ht,k1,h5,k2,h7⟩)
  ·intro d1 h1 d2 h2 l1 l2 x hx1 hx2;rcases dz.1 h1 with rfl|h1
   ·rw[dx hi]at l1;cases l1
   ·rcases dz.1 h2 with rfl|h2
    ·rw[dx hi]at l2;cases l2
    ·exact hJ.inj d1 h1 d2 h2 (Am _ l1).2 (Am _ l2).2 x hx1 hx2
 unfold wpOpIn;rw[ho];simp only[Be];unfold jY at hs;split at hs
 ·rename_i hw;rw[ax hw];split at hs
  ·rename_i v W1 sV;injection hs with hs;injection hs with Bl nI;subst Bl;subst nI;exact GY hc hJ.yW hJ.MA sV hρ λσ' v' w' hv hw' he=>hK σ' _ w' (build σ' v v' w' rfl hv hw' he)
  ·cases hs
 ·rename_i hw;rw[ay hw];injection hs with hs;injection hs with Bl nI;subst Bl;subst nI;exact⟨λf _=>trivial,hK σ _ w (build σ ag ag w rfl .undef hJ.yW (.refl _ _ _))⟩
end
end
section
variable [ak]
def Z9(n:Nat)(l:Array Bool):Nat:=(List.range n).countP λi=> !l.getD i true
def F4{α:Type}{p q:α->Bool}{x:α}:∀{l:List α},x∈l->p x=true->q x=false->(∀y,q y=true->p y=true)->l.countP q<l.countP p:=by
 intro l;induction l with
 |nil=>intro h;cases h
 |cons y l ih=>
  intro h hp hq hi;have a8:l.countP q<=l.countP p:=List.countP_mono_left λz _ hz=>hi z hz
  rcases dz.1 h with rfl|h
  ·rw[List.countP_cons,List.countP_cons,hp,hq];simp;omega
  ·have:=ih h hp hq hi;rw[List.countP_cons,List.countP_cons];cases hqy:q y with
   |true=>rw[hi y hqy];simp;omega
   |false=>cases p y<;>simp<;>omega
def BX{n i:Nat}{l:Array Bool}(hi:i<n)(hs:i<l.size)(h:l.getD i true=false):Z9 n (l.setIfInBounds i true)<Z9 n l:=by
 refine F4 (x:=i) (by simpa using hi) (by rw[h];rfl) (by rw[dx hs];rfl) λy hy=>?_
 by_cases e:i=y
 ·subst e;rw[dx hs]at hy;cases hy
 ·rw[aX e]at hy;exact hy
def KR{n:Nat}{l:Array Bool}(h:Z9 n l=0){i:Nat}(hi:i<n):l.getD i true=true:=by unfold Z9 at h;rw[List.countP_eq_zero]at h;have:=h i (by simpa using hi);simpa using this
section
variable {P:aj} {call:Callee} {ops:Array ao} {A:List Nat} {nt:Nat} {ng:List Nat} {σ0:dj} {W0:AW} {w0:au} {ds:List dM}
inductive Av (ops:Array ao):List DP->Prop where
 |nil:Av ops []
 |cons (d:DP) (pre:List DP) (h:Av ops pre) (ht:∀e∈d.o.after,Region.binds .any e=true->∃d'∈pre,d'.i=e.on) (ho:ops[d.i]? =some d.o):Av ops (d::pre)
def Av.ready{listed:Array Bool}(qD:listed.size=ops.size):∀{pre:List DP},Av ops pre->(∃d∈pre,listed.getD d.i true=false)->Region.ready .any ops listed≠[]:=by
 intro pre h;induction h with
 |nil=>rintro⟨d,hd,_⟩;cases hd
 |cons d pre h ht ho ih=>
  rintro⟨d',ie,hl⟩ hr;by_cases Es:∃d∈pre,listed.getD d.i true=false
  ·exact ih Es hr
  ·rcases dz.1 ie with rfl|ie
   ·have:d'.i∈Region.ready .any ops listed:=nF.2 ⟨hl,d'.o,ho,λe he hb=>by
     obtain⟨d2,h2,e2⟩:=ht e he hb;have vX:listed.getD d2.i true=true:=by
      cases hq:listed.getD d2.i true with
      |true=>rfl
      |false=>exact absurd ⟨d2,h2,hq⟩ Es
     have hir:d2.i<ops.size:=by
      have:∀{pre},Av ops pre->∀d∈pre,d.i<ops.size:=by
       intro pre h;induction h with
       |nil=>intro d hd;cases hd
       |cons d pre h ht ho ih=>
        intro d' ie;rcases dz.1 ie with rfl|ie
        ·exact(dW.1 ho).1
        ·exact ih d' ie
      exact this h d2 h2
     rw[<-e2];simp only[uo]at vX|-;rw[g9 (by omega)]at vX|-;exact vX⟩;rw[hr]at this;cases this
   ·exact Es ⟨d',ie,hl⟩
def Wl(hc:cw P ng call)(jq:∀(i:Nat) (o:ao),ops[i]? =some o->kL nt ng o=true)(hA:∀(i:Nat) (o:ao),ops[i]? =some o->A.getD i 0=tJ A o)
 {ro:Option Nat}{Q:dh->ba->au->Prop}{Rf:ak.Fr}{Wf:AW}
 (hQ:∀σ' a' w',eG nt σ' Rf a'.tmps->a'.defers=ds->bt σ' Wf w'.heap->eW σ0 W0 w0 σ' Wf w'->Q .normal a' w'):
 ∀(wm:Nat) (suf:List (Nat×List Nat)) (pre:List DP) (listed:Array Bool) (bd:Nat->Option Nat) (σ:dj) (R:ak.Fr) (W:AW) (a:ba) (w:au),
  J P call ops A nt ng σ0 W0 w0 ds pre listed bd σ R W a w->Av ops pre->yP ops A pre suf=true->jv P call ops suf R W=some (Rf,Wf)->
  (∀i,i<ops.size->(∃d∈pre,d.i=i)\/∃k∈suf,k.1=i)->Z9 ops.size listed<=wm->wpAnyIn (FE ro) 0 P .any ops Q wm listed a w:=by
 intro wm;induction wm with
 |zero=>
  intro suf pre listed bd σ R W a w hJ tg Nq oa HA hun;have th:∀i,i<ops.size->listed.getD i true=true:=λi hi=>KR (by omega) hi
  have aaD:Region.ready .any ops listed=[]:=by rw[List.eq_nil_iff_forall_not_mem];intro i hi;obtain⟨h1,o,ho,_⟩:=nF.1 hi;rw[th i (dW.1 ho).1]at h1;cases h1
  refine⟨aaD,?_⟩;cases suf with
  |nil=>injection oa with oa;injection oa with h1 h2;subst h1;subst h2;refine hQ σ a w ⟨hJ.Lc,λt ht=>hJ.Qw t ht λd hd hl=>?_⟩ hJ.Xe hJ.yW hJ.ext;rw[th d.i (dW.1 (hJ.op d hd)).1]at hl;cases hl
  |cons k iZ=>obtain⟨i,re⟩:=k;obtain⟨o,e,hh⟩:=AI Nq;have hi:=(dW.1 hh.op).1;obtain⟨d,hd,e⟩:=hJ.sub i hi (th i hi);exact absurd e (hh.new d hd)
 |succ wm ih=>
  intro suf;induction suf with
  |nil=>
   intro pre listed bd σ R W a w hJ tg Nq oa HA hun;refine⟨λhr=>?_,λi hi=>?_⟩
   ·have vN:∀d∈pre,listed.getD d.i true=true:=λd hd=>by
     cases hq:listed.getD d.i true with
     |true=>rfl
     |false=>exact absurd hr (tg.ready hJ.vU ⟨d,hd,hq⟩)
    injection oa with oa;injection oa with h1 h2;subst h1;subst h2;exact hQ σ a w ⟨hJ.Lc,λt ht=>hJ.Qw t ht λd hd hl=>by rw[vN d hd]at hl;cases hl⟩ hJ.Xe hJ.yW hJ.ext
   ·obtain⟨h1,o,ho,h2⟩:=nF.1 hi;have gZ:=(dW.1 ho).1;rcases HA i gZ with⟨d,hd,e⟩|⟨k,hk,_⟩
    ·subst e;have NM:=hJ.op d hd;rw[ho]at NM;injection NM with NM;subst NM;refine hJ.aeM hc jq hA hd h1 h2 λσ' a' w' hJ'=>?_
     exact ih [] pre _ bd σ' R W a' w' hJ' tg Nq oa HA (by have:=BX gZ (by rw[hJ.vU];exact gZ) h1;omega)
    ·cases hk
  |cons k iZ ihs=>
   intro pre listed bd σ R W a w hJ tg Nq oa HA hun;obtain⟨i,re⟩:=k;obtain⟨o,e,hh⟩:=AI Nq;have hi:=(dW.1 hh.op).1;simp only[jv,hh.op]at oa;split at oa;case h_2=>cases oa
   rename_i R' W' hs;split at oa;case isFalse=>cases oa
   rename_i JZ;have aas:∀j,j<ops.size->(∃d∈(⟨i,o,e⟩::pre:List DP),d.i=j)\/∃k∈iZ,k.1=j:=by
    intro j hj;rcases HA j hj with⟨d,hd,h1⟩|⟨k,hk,h1⟩
    ·exact .inl ⟨d,by simp[hd],h1⟩
    ·rcases dz.1 hk with rfl|hk
     ·exact .inl ⟨⟨i,o,e⟩,by simp,h1⟩
     ·exact .inr ⟨k,hk,h1⟩
   have ZR:Av ops (⟨i,o,e⟩::pre):=.cons _ _ tg hh.top hh.op;cases e with
   |true=>obtain⟨Gm,hJ'⟩:=hJ.advance hh hs;exact ihs _ listed Gm σ R' W' a w hJ' ZR hh.go oa aas hun
   |false=>
    refine⟨λhr=>?_,λj hj=>?_⟩
    ·exfalso;by_cases Es:∃d∈pre,listed.getD d.i true=false
     ·exact tg.ready hJ.vU Es hr
     ·have hl:listed.getD i true=false:=by
       cases hq:listed.getD i true with
       |false=>rfl
       |true=>obtain⟨d,hd,e⟩:=hJ.sub i hi hq;exact absurd e (hh.new d hd)
      have:i∈Region.ready .any ops listed:=nF.2 ⟨hl,o,hh.op,λed he hb=>by
       obtain⟨d2,h2,e2⟩:=hh.top ed he hb;have vX:listed.getD d2.i true=true:=by
        cases hq:listed.getD d2.i true with
        |true=>rfl
        |false=>exact absurd ⟨d2,h2,hq⟩ Es
       have hir:d2.i<listed.size:=by rw[hJ.vU];exact(dW.1 (hJ.op d2 h2)).1
       rw[<-e2];simp only[uo]at vX|-;rw[g9 hir]at vX|-;exact vX⟩;rw[hr]at this;cases this
    ·obtain⟨h1,oj,ho,h2⟩:=nF.1 hj;have gZ:=(dW.1 ho).1;rcases HA j gZ with⟨d,hd,e⟩|⟨k,hk,e⟩
     ·subst e;have NM:=hJ.op d hd;rw[ho]at NM;injection NM with NM;subst NM;refine hJ.aeM hc jq hA hd h1 h2 λσ' a' w' hJ'=>?_
      refine ih ((i,re)::iZ) pre _ bd σ' R W a' w' hJ' tg Nq ?_ HA (by have:=BX gZ (by rw[hJ.vU];exact gZ) h1;omega);simp only[jv,hh.op,hs,JZ,bh];exact oa
     ·rcases dz.1 hk with rfl|hk
      ·simp only at e;subst e;have NM:=hh.op;rw[ho]at NM;injection NM with NM;subst NM;refine hJ.force hc jq hA hh hs JZ h2 λσ' a' w' hJ'=>?_
       exact ih iZ _ _ bd σ' R' W' a' w' hJ' ZR hh.go oa aas (by have:=BX gZ (by rw[hJ.vU];exact gZ) h1;omega)
      ·exfalso;rcases hh.last with h|h
       ·cases h
       ·obtain⟨ok,JT,ed,Yx,hb,vN⟩:=h k hk;rw[e,ho]at JT;injection JT with JT;subst JT;have h3:=HO (h2 ed Yx hb);obtain⟨d,hd,e⟩:=hJ.sub ed.on (by rw[<-hJ.vU];exact h3.2) h3.1;exact vN d hd e
def IA{P:aj}(hm:P.follows .mixedOrders=true){ng:List Nat}{nt:Nat}{call:Callee}(hc:cw P ng call){id:Nat}{ops:Array ao}{pl:List (Nat×List Nat)}
 (jq:ops.toList.all (kL nt ng)=true)(hp:Hh ops pl=true){σ:dj}{R Rf:ak.Fr}{W Wf:AW}{a:ba}{w:au}(hW:bt σ W w.heap)(hG:vH σ ng)(hR:eG nt σ R a.tmps)
 (h:jv P call ops pl R W=some (Rf,Wf)){ro:Option Nat}{Q:dh->ba->au->Prop}
 (hQ:∀σ' a' w',eG nt σ' Rf a'.tmps->a'.defers=a.defers->bt σ' Wf w'.heap->eW σ W w σ' Wf w'->Q .normal a' w'):
 (Code.region id ops true).wpIn (FE ro) 0 P Q a w:=by
 refine wpIn_region_any hm ?_;unfold Hh at hp;simp only[bK,cM,pW]at hp;obtain⟨h1,h2⟩:=hp;have mE:∀i o,ops[i]? =some o->(Vw ops.toList []).getD i 0=tJ (Vw ops.toList []) o/\∃k∈pl,k.1=i:=by intro i o ho;have:=h1 i (dW.1 ho).1;rw[ho]at this;simp only[bK,eM,uL]at this;exact this.1
 have JT:∀(i:Nat) (o:ao),ops[i]? =some o->kL nt ng o=true:=λi o ho=>cM.1 jq o (by have:=Array.mem_of_getElem? ho;simpa using this)
 have qD:∀i,i<ops.size->(Array.replicate ops.size false).getD i true=false:=λi hi=>by simp[hi]
 have HA:∀i,i<ops.size->(∃d∈([]:List DP),d.i=i)\/∃k∈pl,k.1=i:=λi hi=> .inr (mE i ops[i] (g9 hi)).2
 refine Wl (A:=Vw ops.toList []) (W0:=W) (σ0:=σ) (w0:=w) (ds:=a.defers) hc JT (λi o ho=>(mE i o ho).1) hQ ops.size pl [] _ (λ_=>none) σ R W a _ ?_ .nil h2 h HA ?_
 ·refine⟨hW,hG,.drawn _ _ _ _,hR.1,rfl,by simp,λt ht _=>hR.2 t ht,?_,?_,?_,?_,?_,?_,?_,?_⟩
  ·intro i hi hl;rw[qD i hi]at hl;cases hl
  ·intro d hd;cases hd
  ·intro d hd;cases hd
  ·intro d hd;cases hd
  ·intro i j hi hl;rw[qD i hi]at hl;cases hl
  ·intro d hd;cases hd
  ·intro d hd;cases hd
  ·intro d hd;cases hd
 ·unfold Z9;have:=List.countP_le_length (p:=λi=> !(Array.replicate ops.size false).getD i true) (l:=List.range ops.size);simpa using this
end
end
end Go.Eng
