/- A part: the engine and its laws. -/
import Derived.RangeFuncLeaves
import Derived.OrdersIn
import Derived.KernelRfl
import Derived.Laws.Cells
import Derived.Laws.CopyRow
import Derived.ChangeKeysEq
import Derived.ArgAppend
import Derived.Laws.Append
import Derived.Lib.AppendStr
import Derived.Lib.UnsafeStr
import Derived.Laws.BytesArg
import Derived.LaidEqlPtr
import Derived.Laws.StructEq
set_option linter.unusedVariables false
set_option linter.unusedSimpArgs false
set_option linter.unusedSectionVars false
set_option linter.defProp false
noncomputable section
open Go renaming Act->aQ,Addr->aM,Code->ba,Deferred->cH,Exit->cj,FuncId->fo,IntKind->aK,MapEntry->aV,Obj->kb,Oper->am,Operand->ao,Program->ag,TypeId->ah,Value->ae,World->ap,undef->ai
namespace Go
def lV{p:Prop}[Decidable p](h:p:=by omega):decide p=true:=decide_eq_true h
def fF{p:Prop}[Decidable p](h:¬p:=by omega):decide p=false:=decide_eq_false h
def oM.{u}{c:Prop}{h:Decidable c}(q:c:=by omega){α:Sort u}{t e:α}:(ite c t e)=t:=if_pos q
def bX.{u}{c:Prop}{h:Decidable c}(q:¬c:=by omega){α:Sort u}{t e:α}:(ite c t e)=e:=if_neg q
abbrev Value.af(n:Int):ae:=.int .i64 n
abbrev Lit.af(n:Int):Lit:=.int .i64 n
def aI:=@And.intro
def ay.{u}:=@if_neg.{u}
def aU:=@Nat.zero_add
def ax.{u}:=@if_pos.{u}
def bK:=@decide_eq_false
def bm:=@Bool.and_eq_true
def br:=@decide_eq_true
def cx.{u}:=@List.getElem?_eq_getElem.{u}
def aF:=@trivial
def aL.{u}:=@Eq.trans.{u}
def bl.{u,v}:=@Option.bind_some.{u,v}
def aS:=@Nat.le_refl
def cr.{u}:=@List.getElem?_eq_some_iff.{u}
def cQ.{u}:=@Array.getElem?_eq_some_iff.{u}
def bG:=@Go.Result.andThen_ok
def bn:=@Go.run_underlying
def bV.{u}:=@List.all_eq_true.{u}
def bR.{u,v}:=@Option.map_some.{u,v}
def bJ:=@Go.Sem.run_bind
def ft.{u}:=@Array.getElem?_eq_getElem.{u}
def dj.{u}:=@List.length_append.{u}
def dB.{u}:=@List.length_cons.{u}
def ef:=@Nat.lt_of_lt_of_le
def fw.{u}:=@Array.toArray_toList.{u}
def ir.{u}:=@List.getElem?_append_right.{u}
def dK.{u}:=@List.take_length.{u}
def cP.{u}:=@List.mem_cons.{u}
def dR.{u}:=@List.length_take.{u}
def bc.{u}:=@if_true.{u}
def jj.{u}:=@List.getD_eq_getElem?_getD.{u}
def fH.{u,v}:=@List.flatMap_append.{u,v}
def fb.{u}:=@Option.some.injEq.{u}
def jd.{u}:=@List.length_eq_zero_iff.{u}
def fq.{u}:=@List.getElem_mem.{u}
def dA:=@Nat.add_zero
def il:=@Go.Lib.strCells_length
def fa.{u}:=@List.all_cons.{u}
def cg.{u,v}:=@congrArg.{u,v}
def fW.{u,v}:=@List.length_map.{u,v}
def eh:=@Go.Sem.run_pure
def dp:=@Nat.beq_eq
def pr.{u}:=@List.eq_nil_of_length_eq_zero.{u}
def bL.{u}:=@Ne.symm.{u}
def jg.{u}:=@List.getElem?_take.{u}
def oz.{u}:=@List.drop_eq_getElem_cons.{u}
def mz.{u}:=@List.take_of_length_le.{u}
def pU.{u}:=@Array.getD_eq_getD_getElem?.{u}
def cE.{u}:=@if_false.{u}
def jn:=@of_decide_eq_true
def o6.{u}:=@List.getElem?_append_left.{u}
def fK:=@Nat.le_trans
def mD.{u}:=@List.mem_of_getElem?.{u}
def kW:=@Bool.false_eq_true
def kX.{u}:=@List.mem_singleton.{u}
def nB.{u}:=@List.getElem?_eq_none.{u}
def jY.{u}:=@List.append_nil.{u}
def pB.{u}:=@Array.toList_eq_nil_iff.{u}
def kN.{u,v}:=@List.getElem?_map.{u,v}
def ly.{u,v}:=@List.flatMap_cons.{u,v}
def oB:=@Nat.mul_le_mul_right
def o4.{u}:=@Array.getElem?_eq_none.{u}
def jP.{u}:=@List.length_set.{u}
def iN.{u,v}:=@List.map_cons.{u,v}
def nz.{u}:=@Array.getElem?_push.{u}
def pm.{u}:=@Array.getElem?_toList.{u}
def xX.{u}:=@Array.getElem?_setIfInBounds_ne.{u}
def kL:=@Bool.or_eq_true
def jW:=@Nat.add_assoc
def mB.{u}:=@List.nil_append.{u}
def mA.{u}:=@Array.toList_inj.{u}
def nY.{u}:=@List.getElem?_set.{u}
def nG:=@Int.toNat_natCast
def oq:=@decide_eq_true_eq
def mC.{u}:=@List.mem_append.{u}
def mG:=@Nat.min_eq_left
def pk.{u}:=@List.getElem?_drop.{u}
def sf.{u}:=@List.getElem?_append.{u}
def nO.{u}:=@Option.getD_some.{u}
def pM.{u}:=@List.append_assoc.{u}
def rI.{u}:=@List.size_toArray.{u}
def gO:=@Nat.blt_eq
def ol.{u}:=@List.drop_zero.{u}
def oc.{u}:=@List.mem_filter.{u}
def yH.{u}:=@Option.isNone_iff_eq_none.{u}
def um.{u}:=@Array.getElem?_modify.{u}
def uZ:=@Nat.eq_of_beq_eq_true
def ul.{u}:=@Classical.choose_spec.{u}
def uX.{u}:=@List.take_append_drop.{u}
def rA.{u}:=@List.cons_append.{u}
def nW:=@Bool.true_and
def ov:=@Bool.and_true
def lA.{u,v}:=@List.map_nil.{u,v}
def zj.{u}:=@List.take_append_getElem.{u}
def pH:=@Bool.false_and
def oZ.{u}:=@List.take_zero.{u}
def Br.{u}:=@List.getElem?_cons_succ.{u}
def sa:=@Bool.not_eq_true'
def xz.{u}:=@List.eraseIdx_cons_succ.{u}
def rE:=@Classical.not_not
def o7:=@Bool.eq_iff_iff
def qv.{u}:=@List.length_pos_iff.{u}
def js:=@Int.add_zero
def nZ.{u}:=@List.any_eq_true.{u}
def p7:=@Bool.true_eq_false
def qK.{u}:=@Option.toList_some.{u}
def tQ.{u}:=@Array.getElem?_append.{u}
def Bj.{u}:=@List.set_eq_take_append_cons_drop.{u}
def nQ:=@Nat.le_max_left
def oA.{u,v}:=@List.map_append.{u,v}
def nv:=@List.range_succ
def qy.{u}:=@List.ext_getElem?.{u}
def jp:=@Nat.mul_pos
def kh:=@Go.CallsIn.mono
def qi.{u}:=@List.take_add_one.{u}
def sx:=@Go.World.grownBy_alloc
def tv.{u}:=@List.getElem_of_mem.{u}
def Bo.{u}:=@List.getElem?_cons_zero.{u}
def qC:=@Nat.le_max_right
def w5:=@Nat.add_sub_cancel_left
def oe.{u}:=@List.drop_drop.{u}
def wT.{u}:=@List.pairwise_singleton.{u}
def kp:=@Nat.mul_one
def mp:=@Nat.sub_self
def sO.{u}:=@Option.isSome_none.{u}
def mu:=@Nat.beq_refl
def xe.{u}:=@List.drop_of_length_le.{u}
def w9:=@List.pairwise_lt_range
def Cs.{u}:=@Array.getElem?_setIfInBounds.{u}
def qA:=@Bool.and_self
def tp.{u}:=@Array.isEmpty_iff.{u}
def Cc.{u}:=@Array.toList_setIfInBounds.{u}
def qh:=@List.mem_range
def CB:=@Int.tmod_eq_emod_of_nonneg
def qf.{u}:=@List.all_nil.{u}
def BQ.{u}:=@List.extract_eq_take_drop.{u}
def Ca.{u}:=@List.mem_of_find?_eq_some.{u}
def B7.{u}:=@List.take_succ_cons.{u}
def wZ.{u}:=@List.toList_toArray.{u}
def xh.{u}:=@List.dropWhile_cons.{u}
def xl:=@Int.toNat_of_nonneg
def sU.{u}:=@Option.some.inj.{u}
def xg.{u}:=@List.length_nil.{u}
def xj:=@Go.run_loadCells_list
def xd:=@Go.grownCap_le_maxLen
def lZ.{u}:=@beq_iff_eq.{u}
def BX.{u}:=@List.set_cons_zero.{u}
def Bb.{u}:=@List.set_cons_succ.{u}
def xk.{u}:=@List.prefix_append.{u}
def nD:=@Go.setRow_heap
def j9:=@Go.mem_ready
def wX:=@Go.run_storeCells_at
def qF:=@Nat.lt_or_ge
def qw:=@Go.callsIn_wide
def qg.{u,v}:=@List.mem_map.{u,v}
def tj.{u}:=@List.take_left.{u}
def tC.{u}:=@List.take_take.{u}
def w8.{u,v}:=@List.pairwise_map.{u,v}
def tN:=@Int.add_assoc
def md:=@and_self
end Go
namespace Go.Eng
open Go
inductive T (α:Type) where
 |lf:T α
 |nd (l:T α) (v:Option α) (r:T α):T α
def vE(rW:Nat):Nat->List Bool:=
 Nat.rec (motive:=λ_=>Nat->List Bool) (λ_=>[])
  (λ_ ih n=>Nat.rec (motive:=λ_=>List Bool) [] (λm _=>(Nat.beq (Nat.mod m 2) 0)::ih (Nat.div m 2)) n) rW
def path(n:Nat):List Bool:=vE n n
def T.get{α:Type}(p:List Bool):T α->Option α:=
 List.rec (motive:=λ_=>T α->Option α) (λt=>T.rec (motive:=λ_=>Option α) none (λ_ v _ _ _=>v) t)
  (λb _ ih t=>T.rec (motive:=λ_=>Option α) none (λl _ r _ _=>Bool.rec (motive:=λ_=>Option α) (ih r) (ih l) b) t) p
def T.set{α:Type}(x:Option α)(p:List Bool):T α->T α:=
 List.rec (motive:=λ_=>T α->T α) (λt=>T.rec (motive:=λ_=>T α) (.nd .lf x .lf) (λl _ r _ _=>.nd l x r) t)
  (λb _ ih t=>T.rec (motive:=λ_=>T α) (Bool.rec (motive:=λ_=>T α) (.nd .lf none (ih .lf)) (.nd (ih .lf) none .lf) b)
    (λl v r _ _=>Bool.rec (motive:=λ_=>T α) (.nd l v (ih r)) (.nd (ih l) v r) b) t) p
def JN:∀(f g n m:Nat),n<=f->m<=g->vE f n=vE g m->n=m:=by
 intro f;induction f with
 |zero=>
  intro g n m hn hm h;have Iu:n=0:=by omega
  subst Iu;cases m with
  |zero=>rfl
  |succ m=>
   cases g with
   |zero=>omega
   |succ g=>exact absurd h (by simp[vE])
 |succ f ih=>
  intro g n m hn hm h;cases n with
  |zero=>
   cases m with
   |zero=>rfl
   |succ m=>
    cases g with
    |zero=>omega
    |succ g=>exact absurd h (by simp[vE])
  |succ n=>
   cases m with
   |zero=>cases g<;>exact absurd h (by simp[vE])
   |succ m=>
    cases g with
    |zero=>omega
    |succ g=>
     have h':(Nat.beq (Nat.mod n 2) 0)::vE f (Nat.div n 2)=(Nat.beq (Nat.mod m 2) 0)::vE g (Nat.div m 2):=h;injection h' with h1 h2;have e1:Nat.div n 2=n/2:=rfl;have e2:Nat.div m 2=m/2:=rfl;have e3:Nat.mod n 2=n % 2:=rfl;have e4:Nat.mod m 2=m % 2:=rfl;have h3:=ih g (n/2) (m/2) (by omega) (by omega) (by rw[<-e1,<-e2];exact h2);rw[e3,e4]at h1;have h4:(n % 2=0)<->(m % 2=0):=by rw[<-dp,<-dp,h1]
     omega
def ME{n m:Nat}(h:path n=path m):n=m:=JN _ _ _ _ (aS _) (aS _) h
def qH{n m:Nat}(h:n≠m):path n≠path m:=λe=>h (ME e)
def T.iC{α:Type}(x:Option α):∀(p:List Bool) (t:T α),T.get p (T.set x p t)=x:=by
 intro p;induction p with
 |nil=>intro t;cases t<;>rfl
 |cons b p ih=>intro t;cases t<;>cases b<;>exact ih _
def T.uu{α:Type}(p:List Bool):T.get p (.lf:T α)=none:=by cases p<;>rfl
def T.eL{α:Type}(x:Option α):∀(p q:List Bool) (t:T α),p≠q->T.get q (T.set x p t)=T.get q t:=by
 intro p;induction p with
 |nil=>
  intro q t h;cases q with
  |nil=>exact absurd rfl h
  |cons b q=>cases t<;>cases b<;>first|rfl|exact(T.uu q)
 |cons b p ih=>
  intro q t h;cases q with
  |nil=>cases t<;>cases b<;>rfl
  |cons c q=>
   have ht:b=c->p≠q:=λe1 e2=>h (by rw[e1,e2])
   cases t<;>cases b<;>cases c<;>
    first
     |rfl
     |exact T.uu q
     |exact(ih q .lf (ht rfl)).trans (T.uu q)
     |exact ih q _ (ht rfl)
def T.set_set{α:Type}(x y:Option α):∀(p:List Bool) (t:T α),T.set y p (T.set x p t)=T.set y p t:=by
 intro p;induction p with
 |nil=>intro t;cases t<;>rfl
 |cons b p ih=>
  intro t;cases t with
  |lf=>
   cases b
   ·exact cg (T.nd .lf none) (ih .lf)
   ·exact cg (λl=>T.nd l none .lf) (ih .lf)
  |nd l v r=>
   cases b
   ·exact cg (T.nd l v) (ih r)
   ·exact cg (λl=>T.nd l v r) (ih l)
class aj where
 D:Nat->Array am->Option (List (Nat×List Nat))
 ng:List Nat
 ex:ah->Bool
 Fr:Type
 G9:Fr->Nat->ae
 NK:Fr->Nat->ae->Fr
 blank:Fr
 iC:∀R t v,G9 (NK R t v) t=v
 eL:∀R t u v,t≠u->G9 (NK R t v) u=G9 R u
 uv:∀t,G9 blank t=ai
def Qs{α:Type}(l:List α):Nat->Option α:=
 List.rec (motive:=λ_=>Nat->Option α) (λ_=>none) (λv _ ih n=>Nat.rec (motive:=λ_=>Option α) (some v) (λm _=>ih m) n) l
def BB{α:Type}(l:List α):∀n,Qs l n=l[n]? :=by
 induction l with
 |nil=>intro n;rfl
 |cons v l ih=>intro n;cases n with|zero=>rfl|succ n=>exact(ih n).trans (by simp)
section
variable [aj]
inductive de where
 |cells (cs:List ae)
 |ro (cs:List ae)
 |map (es:List aV) (gU:Nat)
 |loop (state:LoopState) (pending:Option ba) (tmps:aj.Fr) (ntmps:Nat) (params:Array Tmp) (assign body:ba)
 |jy (s:ByteArray) (pos:Nat)
 |tc (t:ah) (cs:List ae)
structure AW where
 heap:T de
 next:Nat
def AW.get(W:AW)(b:Nat):Option de:=T.get (path b) W.heap
def AW.put(W:AW)(b:Nat)(o:de):AW:=⟨T.set (some o) (path b) W.heap,W.next⟩
def AW.kill(W:AW)(b:Nat):AW:=⟨T.set none (path b) W.heap,W.next⟩
def AW.new{X:Type}(W:AW)(o:de)(k:Nat->AW->X):X:=
 AW.rec (motive:=λ_=>X) (λh n=>Nat.rec (motive:=λ_=>X) (k 0 ⟨T.set (some o) (path 0) h,1⟩)
  (λm _=>k (Nat.succ m) ⟨T.set (some o) (path (Nat.succ m)) h,Nat.succ (Nat.succ m)⟩) n) W
def AW.add(W:AW)(o:de):AW:=⟨T.set (some o) (path W.next) W.heap,W.next+1⟩
def AW.cF{X:Type}(W:AW)(o:de)(k:Nat->AW->X):W.new o k=k W.next (W.add o):=by obtain⟨h,n⟩:=W;cases n<;>rfl
def AW.bH(W:AW)(b:Nat)(o:de):(W.put b o).get b=some o:=T.iC _ _ _
def AW.aE(W:AW){b c:Nat}(o:de)(h:b≠c):(W.put b o).get c=W.get c:=T.eL _ _ _ _ (qH h)
def AW.ta(W:AW)(b:Nat):(W.kill b).get b=none:=T.iC _ _ _
def AW.db(W:AW){b c:Nat}(h:b≠c):(W.kill b).get c=W.get c:=T.eL _ _ _ _ (qH h)
def AW.bf(W:AW)(o:de):(W.add o).get W.next=some o:=T.iC _ _ _
def AW.aZ(W:AW){c:Nat}(o:de)(h:W.next≠c):(W.add o).get c=W.get c:=T.eL _ _ _ _ (qH h)
def AW.cu(W:AW)(b:Nat)(o:de):(W.put b o).next=W.next:=rfl
def AW.dm(W:AW)(b:Nat):(W.kill b).next=W.next:=rfl
def AW.aJ(W:AW)(o:de):(W.add o).next=W.next+1:=rfl
end
structure pY where
 B:Nat
 s:Nat
 e:Nat
abbrev cm:=Nat->Option pY
def eS:Nat:=18446744073709551616
inductive BC (g:pY) (off l:Nat):Nat->Nat->Prop where
 |known (c:Nat) (h:c<eS):BC g off l c c
 |open_ (z c':Nat) (hz:0<z) (hl:l<=c') (h:g.s+off+c'*z=g.e) (hb:c'<=maxLen):BC g off l (eS+z) c'
inductive N6 (σ:cm):Fn->Fn->Prop where
 |func (f:fo):N6 σ (.func f) (.func f)
 |yield (l:Nat) (g:pY) (h:σ l=some g):N6 σ (.yield l) (.yield g.B)
inductive VR (σ:cm):ae->ae->Prop where
 |bool (b:Bool):VR σ (.bool b) (.bool b)
 |int (k:aK) (n:Int):VR σ (.int k n) (.int k n)
 |float (k:FloatKind) (n:Nat):VR σ (.float k n) (.float k n)
 |string (s:ByteArray):VR σ (.string s) (.string s)
 |Ez:VR σ (.pointer none) (.pointer none)
 |ptr (a:aM) (g:pY) (h:σ a.block=some g) (hs:a.spot=none):VR σ (.pointer (some a)) (.pointer (some ⟨g.B,g.s+a.off,none⟩))
 |zn (l c:Nat):VR σ (.slice none l c) (.slice none l c)
 |slice (a:aM) (l c c':Nat) (g:pY) (h:σ a.block=some g) (hs:a.spot=none) (hc:BC g a.off l c c'):
   VR σ (.slice (some a) l c) (.slice (some ⟨g.B,g.s+a.off,none⟩) l c')
 |cD (a a':aM) (c:Nat) (g:pY) (h:σ a.block=some g) (hc:c=0\/eS<c):VR σ (.slice (some a) 0 c) (.slice (some a') 0 0)
 |FW:VR σ (.map none) (.map none)
 |map (r:Nat) (g:pY) (h:σ r=some g):VR σ (.map (some r)) (.map (some g.B))
 |nilFunc:VR σ .nilFunc .nilFunc
 |func (fn zT:Fn) (fs pV cs bP:Array ae) (hf:N6 σ fn zT) (h1:fs.size=pV.size) (h2:∀(i:Nat) (v v':ae),fs[i]? =some v->pV[i]? =some v'->VR σ v v')
   (h3:cs.size=bP.size) (h4:∀(i:Nat) (v v':ae),cs[i]? =some v->bP[i]? =some v'->VR σ v v'):VR σ (.func fn fs cs) (.func zT pV bP)
 |nilIface:VR σ .nilIface .nilIface
 |iface (t:ah) (v v':ae) (h:VR σ v v'):VR σ (.iface t v) (.iface t v')
 |agg (cs bP:Array ae) (h1:cs.size=bP.size) (h2:∀(i:Nat) (v v':ae),cs[i]? =some v->bP[i]? =some v'->VR σ v v'):VR σ (.agg cs) (.agg bP)
 |tuple (cs bP:Array ae) (h1:cs.size=bP.size) (h2:∀(i:Nat) (v v':ae),cs[i]? =some v->bP[i]? =some v'->VR σ v v'):VR σ (.tuple cs) (.tuple bP)
def Sub(σ σ':cm):Prop:=∀b g,σ b=some g->σ' b=some g
def Sub.refl(σ:cm):Sub σ σ:=λ_ _ h=>h
def Sub.trans{σ σ' Bt:cm}(h:Sub σ σ')(k:Sub σ' Bt):Sub σ Bt:=λb g x=>k b g (h b g x)
def N6.mono{σ σ':cm}(hs:Sub σ σ'){f f':Fn}(h:N6 σ f f'):N6 σ' f f':=by
 cases h with
 |func f=>exact .func f
 |yield l g h=>exact .yield l g (hs _ _ h)
def VR.mono{σ σ':cm}(hs:Sub σ σ'){v v':ae}(h:VR σ v v'):VR σ' v v':=by
 induction h with
 |bool b=>exact .bool b
 |int k n=>exact .int k n
 |float k n=>exact .float k n
 |string s=>exact .string s
 |Ez=>exact .Ez
 |ptr a g h mb=>exact .ptr a g (hs _ _ h) mb
 |zn l c=>exact .zn l c
 |slice a l c c' g h mb hc=>exact .slice a l c c' g (hs _ _ h) mb hc
 |cD a a' c g h hc=>exact .cD a a' c g (hs _ _ h) hc
 |FW=>exact .FW
 |map r g h=>exact .map r g (hs _ _ h)
 |nilFunc=>exact .nilFunc
 |func fn zT fs pV cs bP hf h1 _ h3 _ ih1 ih2=>exact .func fn zT fs pV cs bP (hf.mono hs) h1 ih1 h3 ih2
 |nilIface=>exact .nilIface
 |iface t v v' _ ih=>exact .iface t v v' ih
 |agg cs bP h1 _ ih=>exact .agg cs bP h1 ih
 |tuple cs bP h1 _ ih=>exact .tuple cs bP h1 ih
def LR(σ:cm)(l l':List ae):Prop:=l.length=l'.length/\∀(i:Nat) (v v':ae),l[i]? =some v->l'[i]? =some v'->VR σ v v'
def LR.mono{σ σ':cm}(hs:Sub σ σ'){l l':List ae}(h:LR σ l l'):LR σ' l l':=⟨h.1,λi v v' a b=>(h.2 i v v' a b).mono hs⟩
def LR.nil{σ:cm}:LR σ [] []:=⟨rfl,λi v v' a=>by simp at a⟩
def LR.cons{σ:cm}{v v':ae}{l l':List ae}(h:VR σ v v')(hl:LR σ l l'):LR σ (v::l) (v'::l'):=by
 refine⟨by simp[hl.1],λi u u' a b=>?_⟩;cases i with
 |zero=>simp at a b;subst a;subst b;exact h
 |succ i=>simp at a b;exact hl.2 i u u' a b
def LR.of_cons{σ:cm}{v:ae}{l m:List ae}(h:LR σ (v::l) m):∃v' l',m=v'::l'/\VR σ v v'/\LR σ l l':=by
 cases m with
 |nil=>have:=h.1;simp at this
 |cons v' l'=>refine⟨v',l',rfl,h.2 0 v v' (by simp) (by simp),by have:=h.1;simpa using this,λi u u' a b=>h.2 (i+1) u u' (by simpa using a) (by simpa using b)⟩
def LR.of_nil{σ:cm}{m:List ae}(h:LR σ [] m):m=[]:=by have:=h.1;simp at this;exact pr this.symm
def LR.append{σ:cm}{l l' m m':List ae}(h:LR σ l l')(k:LR σ m m'):LR σ (l++m) (l'++m'):=by
 induction l generalizing l' with
 |nil=>have:=h.of_nil;subst this;exact k
 |cons v l ih=>obtain⟨v',Qw,rfl,hv,hl⟩:=h.of_cons;exact(ih hl).cons hv
def LR.take{σ:cm}{l l':List ae}(h:LR σ l l')(n:Nat):LR σ (l.take n) (l'.take n):=by
 refine⟨by simp[h.1],λi v v' a b=>?_⟩;rw[jg]at a b;split at a
 ·rename_i hi;rw[ax hi]at b;exact h.2 i v v' a b
 ·cases a
def LR.drop{σ:cm}{l l':List ae}(h:LR σ l l')(n:Nat):LR σ (l.drop n) (l'.drop n):=by refine⟨by simp[h.1],λi v v' a b=>?_⟩;rw[pk]at a b;exact h.2 _ v v' a b
def LR.get{σ:cm}{l l':List ae}(h:LR σ l l'){i:Nat}{v:ae}(hv:l[i]? =some v):∃v',l'[i]? =some v'/\VR σ v v':=by
 have hi:i<l.length:=(cr.1 hv).1;have mJ:i<l'.length:=by rw[<-h.1];exact hi
 exact⟨l'[i],cx mJ,h.2 i v _ hv (cx mJ)⟩
def LR.set{σ:cm}{l l':List ae}(h:LR σ l l')(n:Nat){x x':ae}(hx:VR σ x x'):LR σ (l.set n x) (l'.set n x'):=by
 refine⟨by simp[h.1],λi v v' a b=>?_⟩;rw[nY]at a b;by_cases hn:n=i
 ·subst hn;simp only[bc]at a b;split at a
  ·split at b
   ·simp at a b;subst a;subst b;exact hx
   ·cases b
  ·cases a
 ·rw[ay hn]at a b;exact h.2 i v v' a b
def LR.sj{σ:cm}{a a':Array ae}(h1:a.size=a'.size)(h2:∀(i:Nat) (v v':ae),a[i]? =some v->a'[i]? =some v'->VR σ v v'):LR σ a.toList a'.toList:=
 ⟨by simpa using h1,λi v v' x y=>h2 i v v' (by simpa using x) (by simpa using y)⟩
def LR.arr{σ:cm}{a a':Array ae}(h:LR σ a.toList a'.toList):a.size=a'.size/\∀(i:Nat) (v v':ae),a[i]? =some v->a'[i]? =some v'->VR σ v v':=
 ⟨by simpa using h.1,λi v v' x y=>h.2 i v v' (by simpa using x) (by simpa using y)⟩
def VR.F2{σ:cm}{a a':Array ae}(h:LR σ a.toList a'.toList):VR σ (.agg a) (.agg a'):=.agg _ _ h.arr.1 h.arr.2
def VR.tuple'{σ:cm}{a a':Array ae}(h:LR σ a.toList a'.toList):VR σ (.tuple a) (.tuple a'):=.tuple _ _ h.arr.1 h.arr.2
def VR.cells{σ:cm}{v v':ae}(h:VR σ v v'):LR σ v.cells.toList v'.cells.toList:=by
 cases h with
 |agg cs bP h1 h2=>exact .sj h1 h2
 |bool b=>exact .cons (.bool b) .nil
 |int k n=>exact .cons (.int k n) .nil
 |float k n=>exact .cons (.float k n) .nil
 |string s=>exact .cons (.string s) .nil
 |Ez=>exact .cons .Ez .nil
 |ptr a g h hs=>exact .cons (.ptr a g h hs) .nil
 |zn l c=>exact .cons (.zn l c) .nil
 |slice a l c c' g h hs hc=>exact .cons (.slice a l c c' g h hs hc) .nil
 |cD a a' c g h hc=>exact .cons (.cD a a' c g h hc) .nil
 |FW=>exact .cons .FW .nil
 |map r g h=>exact .cons (.map r g h) .nil
 |nilFunc=>exact .cons .nilFunc .nil
 |func fn zT fs pV cs bP hf h1 h2 h3 h4=>exact .cons (.func fn zT fs pV cs bP hf h1 h2 h3 h4) .nil
 |nilIface=>exact .cons .nilIface .nil
 |iface t v v' h=>exact .cons (.iface t v v' h) .nil
 |tuple cs bP h1 h2=>exact .cons (.tuple cs bP h1 h2) .nil
def VR.undef{σ:cm}:VR σ ai ai:=VR.tuple' (a:=#[]) (a':=#[]) .nil
def bZ:ae->Bool
 |.bool _|.int .. |.string _|.pointer none|.slice none _ _|.map none|.nilFunc|.nilIface|.float .. =>true
 |_=>false
def dI:ae->Bool
 |.agg cs=>cs.toList.all bZ
 |v=>bZ v
def a7:ae->Bool
 |.tuple vs=>vs.toList.all dI
 |.iface _ v=>dI v
 |v=>dI v
def Au{σ:cm}{v v':ae}(hp:bZ v=true)(h:VR σ v v'):v'=v:=by cases h<;>first|rfl|simp[bZ]at hp
def dx{σ:cm}{v:ae}(hp:bZ v=true):VR σ v v:=by
 cases v with
 |bool b=>exact .bool b
 |int k n=>exact .int k n
 |float k n=>exact .float k n
 |string s=>exact .string s
 |pointer a=>cases a with|none=>exact .Ez|some a=>simp[bZ]at hp
 |slice a l c=>cases a with|none=>exact .zn l c|some a=>simp[bZ]at hp
 |map r=>cases r with|none=>exact .FW|some a=>simp[bZ]at hp
 |nilFunc=>exact .nilFunc
 |nilIface=>exact .nilIface
 |_=>simp[bZ]at hp
def LR.Oi{σ:cm}{p:ae->Bool}(hp:∀v v',p v=true->VR σ v v'->v'=v):∀{l l':List ae},l.all p=true->LR σ l l'->l'=l:=by
 intro l;induction l with
 |nil=>intro l' _ h;exact h.of_nil
 |cons v l ih=>intro l' ha h;obtain⟨v',Qw,rfl,hv,hl⟩:=h.of_cons;simp only[fa,bm]at ha;rw[hp v v' ha.1 hv,ih ha.2 hl]
def LR.jt{σ:cm}{p:ae->Bool}(hp:∀v,p v=true->VR σ v v):∀{l:List ae},l.all p=true->LR σ l l:=by
 intro l;induction l with
 |nil=>intro _;exact .nil
 |cons v l ih=>intro ha;simp only[fa,bm]at ha;exact(ih ha.2).cons (hp v ha.1)
def uE{σ:cm}{v v':ae}(hp:dI v=true)(h:VR σ v v'):v'=v:=by
 cases h with
 |agg cs bP h1 h2=>have:=LR.Oi (λv v'=>Au) (show cs.toList.all bZ=true from hp) (LR.sj h1 h2);rw[mA.1 this]
 |_=>first|rfl|simp[dI,bZ]at hp
def pD{σ:cm}{v:ae}(hp:dI v=true):VR σ v v:=by
 cases v with
 |agg cs=>exact VR.F2 (LR.jt (λv=>dx) (show cs.toList.all bZ=true from hp))
 |_=>exact dx hp
def dU{σ:cm}{v v':ae}(hp:a7 v=true)(h:VR σ v v'):v'=v:=by
 cases h with
 |tuple cs bP h1 h2=>have:=LR.Oi (λv v'=>uE) (show cs.toList.all dI=true from hp) (LR.sj h1 h2);rw[mA.1 this]
 |iface t v v' h=>rw[uE hp h]
 |agg cs bP h1 h2=>exact uE (v:=.agg cs) hp (.agg cs bP h1 h2)
 |_=>first|rfl|simp[a7,dI,bZ]at hp
def fX{σ:cm}{v:ae}(hp:a7 v=true):VR σ v v:=by
 cases v with
 |tuple cs=>exact VR.tuple' (LR.jt (λv=>pD) (show cs.toList.all dI=true from hp))
 |iface t v=>exact .iface t v v (pD hp)
 |_=>exact pD hp
def El(i:Nat):List Nat->Bool
 |[]=>false
 |x::l=>Nat.beq x i||El i l
def oC{i:Nat}{l:List Nat}:El i l=true<->i∈l:=by
 induction l with
 |nil=>simp[El]
 |cons x l ih=>simp only[El,kL,dp,ih,cP];exact⟨λh=>h.imp Eq.symm id,λh=>h.imp Eq.symm id⟩
def kG(nt:Nat)(ng:List Nat):ao->Bool
 |.tmp t=>Nat.blt t nt
 |.const v=>a7 v
 |.global g=>El g ng
 |.func _=>true
def qM(σ:cm)(ng:List Nat):Prop:=∀g,g∈ng->∃e,σ g=some ⟨g,0,e⟩
def qM.mono{σ σ':cm}{ng:List Nat}(hs:Sub σ σ')(h:qM σ ng):qM σ' ng:=λg hg=>let⟨e,he⟩:=h g hg;⟨e,hs _ _ he⟩
def iH(nt:Nat)(ng:List Nat)(o:am):Bool:=o.op.operands.toList.all (kG nt ng)&&(match o.dst with|some d=>Nat.blt d nt|none=>true)
def fB(o:am):Nat:=
 match o.op with
 |.move _|.assign _|.pick .. |.build .. |.nilCheck _|.unOp .. |.makeInterface .. |.slice .. |.fieldAddr .. |.field .. |.indexAddr .. |.index .. |.extract .. |.typeAssert .. =>0
 |.makeFunc (.func _) _ _=>0
 |.binOp op _ _ _ _=>match op with|.eql|.neq=>1|_=>0
 |.load .. |.lookup .. |.convert .. =>1
 |.call c=>match c.callee with|.builtin .len=>1|_=>3
 |.alloc _|.box .. |.buildSlice .. |.makeSlice .. =>2
 |_=>3
def MR(o:Option am):Nat:=match o with
 |some o=>(match o.dst with|some d=>d|none=>0)
 |none=>0
def Bs(id:Nat)(ops:Array am):Nat:=(id*128+ops.size)*4096+(MR ops[0]? +3*MR ops[ops.size-1]? +7*MR ops[ops.size/2]?)
def pZ(A:List Nat)(o:am):Nat:=o.after.toList.foldr (λe m=>if Region.binds .any e then Nat.lor (Nat.lor (2^ e.on) (A.getD e.on 0)) m else m) 0
def LY:List am->List Nat->List Nat
 |[],A=>A
 |o::os,A=>LY os (A++[pZ A o])
def EW(d:Option Tmp)(l:List Tmp):Bool:=match d with|some d=>El d l|none=>false
def gN(ops:Array am)(o:am):List Tmp:=o.dst.toList++o.looksAt ops
structure yP where
 i:Nat
 o:am
 early:Bool
def uL(ops:Array am)(A:List Nat):List yP->List (Nat×List Nat)->Bool
 |_,[]=>true
 |pre,(i,re)::gn=>
  match ops[i]? with
  |none=>false
  |some o=>
   let e:=Nat.blt (fB o) 3&& !EW o.dst (o.looksAt ops)&&pre.all λd=> !EW o.dst (gN ops d.o)
   pre.all (λd=> !Nat.beq d.i i)&&
   o.after.toList.all (λe=> !Region.binds .any e||pre.any λd=>Nat.beq d.i e.on)&&
   pre.all (λd=> !d.early||(Nat.testBit (A.getD i 0) d.i||(!EW d.o.dst (o.looksAt ops)&&(e||(!EW o.dst (gN ops d.o)&&(Nat.beq (fB d.o) 0||Nat.beq (fB d.o) 2||El d.i re))))))&&
   (e||gn.all λk=>match ops[k.1]? with
     |some ok=>ok.after.toList.any λe=>Region.binds .any e&&pre.all λd=> !Nat.beq d.i e.on
     |none=>false)&&
   uL ops A (⟨i,o,e⟩::pre) gn
def LF(ops:Array am):Option (List (Nat×List Nat))->List (Nat×List Nat)
 |some pl=>pl
 |none=>(List.range ops.size).map λi=>(i,[])
def A0(ops:Array am)(pl:List (Nat×List Nat)):Bool:=
 let A:=LY ops.toList []
 (List.range ops.size).all (λi=>match ops[i]? with
  |some o=>Nat.beq (A.getD i 0) (pZ A o)&&pl.any (λx=>Nat.beq x.1 i)&&(match o.op with|.select .. =>false|_=>true)
  |none=>false)&&
 uL ops A [] pl
def fI[aj](nt:Nat)(ng:List Nat):ba->Bool
 |.region id ops uW=>ops.toList.all (iH nt ng)&&(!uW||A0 ops (LF ops (aj.D id ops)))
 |.seq a b=>fI nt ng a&&fI nt ng b
 |.cond c a b=>kG nt ng c&&fI nt ng a&&fI nt ng b
 |.block _ b=>fI nt ng b
 |.loop b=>fI nt ng b
 |.scope b=>fI nt ng b
 |.rangeFunc f ps ajb bd=>kG nt ng f&&ps.toList.all (λt=>Nat.blt t nt)&&fI nt ng ajb&&fI nt ng bd
 |_=>true
def Ek[aj](σ:cm)(nt:Nat)(c:ba):Prop:=qM σ aj.ng/\fI nt aj.ng c=true
def Ek.mono[aj]{σ σ':cm}{nt:Nat}{c:ba}(hs:Sub σ σ')(h:Ek σ nt c):Ek σ' nt c:=⟨h.1.mono hs,h.2⟩
section
variable [aj]
def ch(R:aj.Fr)(t:Nat):ae:=aj.G9 R t
def De(R:aj.Fr)(t:Nat)(v:ae):aj.Fr:=aj.NK R t v
def dw(R:aj.Fr)(d:Option Tmp)(v:ae):aj.Fr:=match d with|some t=>De R t v|none=>R
def qo(R:aj.Fr)(t:Nat)(v:ae):ch (De R t v) t=v:=aj.iC R t v
def n9(R:aj.Fr){t u:Nat}(v:ae)(h:t≠u):ch (De R t v) u=ch R u:=aj.eL R t u v h
def dn(nt:Nat)(σ:cm)(R:aj.Fr)(tmps:Array ae):Prop:=tmps.size=nt/\∀t,t<nt->VR σ (ch R t) (tmps.getD t ai)
def dn.mono{nt:Nat}{σ σ':cm}(hs:Sub σ σ'){R:aj.Fr}{tmps:Array ae}(h:dn nt σ R tmps):dn nt σ' R tmps:=
 ⟨h.1,λt ht=>(h.2 t ht).mono hs⟩
def dn.set{nt:Nat}{σ:cm}{R:aj.Fr}{tmps:Array ae}(h:dn nt σ R tmps)(d:Nat){v v':ae}(hv:VR σ v v'):
 dn nt σ (De R d v) (tmps.setIfInBounds d v'):=by
 refine⟨by simp[h.1],λt ht=>?_⟩;by_cases hd:d=t
 ·subst hd;rw[qo];have:d<tmps.size:=by rw[h.1];exact ht
  simpa[Cs,this]using hv
 ·rw[n9 _ _ hd];have:=h.2 t ht;simpa[xX hd]using this
def dn.put{nt:Nat}{σ:cm}{R:aj.Fr}{a:aQ}(h:dn nt σ R a.tmps)(d:Option Tmp){v v':ae}(hv:VR σ v v'):
 dn nt σ (dw R d v) (a.put d v').tmps:=by
 cases d with
 |none=>exact h
 |some d=>exact h.set d hv
@[simp] theorem kQ (a:aQ) (d:Option Tmp) (v:ae):(a.put d v).defers=a.defers:=by cases d<;>rfl
def ER(σ:cm)(es eR:List aV):Prop:=
 es.length=eR.length/\∀(i:Nat) (e e':aV),es[i]? =some e->eR[i]? =some e'->VR σ e.key e'.key/\VR σ e.val e'.val/\e.born=e'.born
def ER.mono{σ σ':cm}(hs:Sub σ σ'){es eR:List aV}(h:ER σ es eR):ER σ' es eR:=
 ⟨h.1,λi e e' a b=>let⟨x,y,z⟩:=h.2 i e e' a b;⟨x.mono hs,y.mono hs,z⟩⟩
def jh(σ:cm)(h:Array kb)(g:pY):de->Prop
 |.cells cs=>∃c t fr,h[g.B]? =some (.cells c t fr)/\(g.s<g.e->fr=(0,0))/\g.s+cs.length<=g.e/\g.e<=c.size/\
  ∀(i:Nat) (v:ae),cs[i]? =some v->∃v',c[g.s+i]? =some v'/\VR σ v v'
 |.ro cs=>∃c t fr,h[g.B]? =some (.cells c t fr)/\g.s+cs.length<=g.e/\
  ∀(i:Nat) (v:ae),cs[i]? =some v->∃v',c[g.s+i]? =some v'/\VR σ v v'
 |.map es gU=>g.s=0/\g.e=1/\∃eR:Array aV,h[g.B]? =some (.map eR gU)/\ER σ es eR.toList
 |.loop st jF R nt ps ajb bd=>g.s=0/\g.e=1/\∃r:Loop,h[g.B]? =some (.loop r)/\r.state=st/\r.pending=jF/\dn nt σ R r.tmps/\r.params=ps/\r.assign=ajb/\r.body=bd/\Ek σ nt ajb/\Ek σ nt bd/\ps.toList.all (λt=>Nat.blt t nt)=true
 |.jy s pos=>g.s=0/\g.e=1/\h[g.B]? =some (.stringIter s pos)
 |.tc t cs=>g.s=0/\0<g.e/\(g.e<=maxLen/\(aj.ex t=true->cs.length=g.e))/\∃c,h[g.B]? =some (.cells c t (0,0))/\cs.length<=g.e/\g.e=c.size/\
  ∀(i:Nat) (v:ae),cs[i]? =some v->∃v',c[i]? =some v'/\VR σ v v'
def jh.mono{σ σ':cm}(hs:Sub σ σ'){h:Array kb}{g:pY}{o:de}(k:jh σ h g o):jh σ' h g o:=by
 cases o with
 |cells cs=>obtain⟨c,t,fr,h1,h0,h2,h3,h4⟩:=k;exact⟨c,t,fr,h1,h0,h2,h3,λi v hv=>let⟨v',a,b⟩:=h4 i v hv;⟨v',a,b.mono hs⟩⟩
 |ro cs=>obtain⟨c,t,fr,h1,h2,h4⟩:=k;exact⟨c,t,fr,h1,h2,λi v hv=>let⟨v',a,b⟩:=h4 i v hv;⟨v',a,b.mono hs⟩⟩
 |map es gU=>obtain⟨a,b,eR,h1,h2⟩:=k;exact⟨a,b,eR,h1,h2.mono hs⟩
 |loop st jF R nt ps ajb bd=>obtain⟨a,b,r,h1,h2,h3,h4,h5,h6,h7,h8,h9,zy⟩:=k;exact⟨a,b,r,h1,h2,h3,h4.mono hs,h5,h6,h7,h8.mono hs,h9.mono hs,zy⟩
 |jy s pos=>exact k
 |tc t cs=>obtain⟨a1,a2,a3,c,h1,h2,h3,h4⟩:=k;exact⟨a1,a2,a3,c,h1,h2,h3,λi v hv=>let⟨v',a,b⟩:=h4 i v hv;⟨v',a,b.mono hs⟩⟩
def jh.same{σ:cm}{h h':Array kb}{g:pY}{o:de}(k:jh σ h g o)(e:h'[g.B]? =h[g.B]?):jh σ h' g o:=by
 cases o with
 |cells cs=>obtain⟨c,t,fr,h1,h2⟩:=k;exact⟨c,t,fr,e.trans h1,h2⟩
 |ro cs=>obtain⟨c,t,fr,h1,h2⟩:=k;exact⟨c,t,fr,e.trans h1,h2⟩
 |map es gU=>obtain⟨a,b,eR,h1,h2⟩:=k;exact⟨a,b,eR,e.trans h1,h2⟩
 |loop st jF R nt ps ajb bd=>obtain⟨a,b,r,h1,h2⟩:=k;exact⟨a,b,r,e.trans h1,h2⟩
 |jy s pos=>obtain⟨a,b,h1⟩:=k;exact⟨a,b,e.trans h1⟩
 |tc t cs=>obtain⟨a1,a2,a3,c,h1,h2⟩:=k;exact⟨a1,a2,a3,c,e.trans h1,h2⟩
def K6:de->Bool
 |.ro _=>false
 |_=>true
def Ar{o:de}(h:∀cs,o≠ .ro cs):K6 o=true:=by cases o<;>first|rfl|exact absurd rfl (h _)
def rwL{o o2:de}(h:∀cs,o≠ .ro cs):(K6 o||K6 o2)=true:=by rw[Ar h];rfl
def rwR{o o2:de}(h:∀cs,o≠ .ro cs):(K6 o2||K6 o)=true:=by rw[Ar h];simp
structure aX (σ:cm) (W:AW) (h:Array kb):Prop where
 free:∀b,W.next<=b->W.get b=none
 lH:∀b g,σ b=some g->b<W.next/\g.B<h.size
 obj:∀b o g,W.get b=some o->σ b=some g->jh σ h g o
 lP:∀b1 b2 o1 o2 g1 g2,b1≠b2->W.get b1=some o1->W.get b2=some o2->σ b1=some g1->σ b2=some g2->(K6 o1||K6 o2)=true->g1.B≠g2.B\/g1.e<=g2.s\/g2.e<=g1.s
def SM(σ:cm)(W:AW)(B:Nat):Prop:=∃b g,σ b=some g/\g.B=B/\∀cs,W.get b≠some (.ro cs)
def Et{w w':ap}{a:aM}(h:w'.heap[a.block]? =w.heap[a.block]?):w'.frozen? a=w.frozen? a:=by unfold World.frozen?;rw[h]
def jh.adA{σ:cm}{w:ap}{g:pY}{o:de}(k:jh σ w.heap g o)(lT:∀cs,o≠ .ro cs)(dQ:g.s<g.e){a:aM}(ha:a.block=g.B):w.frozen? a=false:=by
 unfold World.frozen?;rw[ha];cases o with
 |cells cs=>obtain⟨c,t,fr,h1,h0,_⟩:=k;rw[h1,h0 dQ];simp
 |ro cs=>exact absurd rfl (lT cs)
 |map es gU=>obtain⟨_,_,eR,h1,_⟩:=k;rw[h1]
 |loop st jF R nt ps ajb bd=>obtain⟨_,_,r,h1,_⟩:=k;rw[h1]
 |jy s pos=>obtain⟨_,_,h1⟩:=k;rw[h1]
 |tc t cs=>obtain⟨_,_,_,c,h1,_⟩:=k;rw[h1];simp
structure dE (σ:cm) (W:AW) (w:ap) (σ':cm) (W':AW) (w':ap):Prop where
 sub:Sub σ σ'
 ro:∀b cs,W.get b=some (.ro cs)->W'.get b=some (.ro cs)
 size:w.heap.size<=w'.heap.size
 os:w'.os=w.os
 tape:w'.tape=w.tape
 output:w'.output=w.output
 dD:∀B,B<w.heap.size->¬SM σ W B->w'.heap[B]? =w.heap[B]?
 ghost:∀b o,W.get b=some o->σ b=none->W'.get b=some o/\σ' b=none
 grow:∀b g,σ' b=some g->g.B<w.heap.size->σ b=some g\/SM σ W g.B
def dE.Ka{σ σ':cm}{W W':AW}{w w':ap}(h:dE σ W w σ' W' w'):∀B,B<w.heap.size->SM σ' W' B->SM σ W B:=by
 rintro B hB ⟨b,g,hg,rfl,lT⟩;rcases h.grow b g hg hB with h1|h1
 ·exact⟨b,g,h1,rfl,λcs hc=>lT cs (h.ro b cs hc)⟩
 ·exact h1
def dE.refl(σ:cm)(W:AW)(w:ap):dE σ W w σ W w:=⟨.refl _,λ_ _ h=>h,aS _,rfl,rfl,rfl,λ_ _ _=>rfl,λ_ _ h k=>⟨h,k⟩,λ_ _ h _=>.inl h⟩
def dE.trans{σ σ' Bt:cm}{W W' W'':AW}{w w' Mh:ap}(h:dE σ W w σ' W' w')(k:dE σ' W' w' Bt W'' Mh):dE σ W w Bt W'' Mh:=
 ⟨h.sub.trans k.sub,λb cs x=>k.ro b cs (h.ro b cs x),fK h.size k.size,k.os.trans h.os,k.tape.trans h.tape,k.output.trans h.output,
  λB hB hm=>(k.dD B (ef hB h.size) (λm=>hm (h.Ka B hB m))).trans (h.dD B hB hm),
  λb o h1 h2=>let⟨a1,a2⟩:=h.ghost b o h1 h2;k.ghost b o a1 a2,
  λb g hg hB=>by
   rcases k.grow b g hg (ef hB h.size)with h1|h1
   ·exact h.grow b g h1 hB
   ·exact .inr (h.Ka _ hB h1)⟩
def dE.drawn(σ:cm)(W:AW)(w:ap)(n:Nat):dE σ W w σ W {w with drawn:=n}:=⟨.refl _,λ_ _ h=>h,aS _,rfl,rfl,rfl,λ_ _ _=>rfl,λ_ _ h k=>⟨h,k⟩,λ_ _ h _=>.inl h⟩
section
variable {σ:cm} {W:AW} {w w':ap}
def aX.Ka(h:aX σ W w.heap){b:Nat}{o o':de}{g:pY}(hb:W.get b=some o)(lT:∀cs,o≠ .ro cs)(DK:∀cs,o'≠ .ro cs)(hg:σ b=some g)
 (mK:w'.heap.size=w.heap.size)(K2:w'.os=w.os)(Ni:w'.tape=w.tape)(vt:w'.output=w.output)
 (gx:∀B,B≠g.B->w'.heap[B]? =w.heap[B]?)
 (jJ:jh σ w'.heap g o')
 (Ix:∀b2 o2 g2,b2≠b->W.get b2=some o2->σ b2=some g2->g2.B=g.B->(g.e<=g2.s\/g2.e<=g.s)->jh σ w.heap g2 o2->jh σ w'.heap g2 o2):
 aX σ (W.put b o') w'.heap/\dE σ W w σ (W.put b o') w':=by
 have dQ:∀{c:Nat},c≠b->(W.put b o').get c=W.get c:=λhc=>W.aE _ (bL hc)
 refine⟨⟨?_,?_,?_,?_⟩,⟨.refl _,?_,?_,K2,Ni,vt,?_,?_,?_⟩⟩
 ·intro c hc;have HN:=(h.lH b g hg).1;have qU:W.next<=c:=hc;rw[dQ (by omega)];exact h.free c qU
 ·intro c k hk;have:=h.lH c k hk;exact⟨this.1,by rw[mK];exact this.2⟩
 ·intro c o2 g2 hc hk;by_cases AI:c=b
  ·subst AI;rw[AW.bH]at hc;injection hc with hc;subst hc;rw[hg]at hk;injection hk with hk;subst hk;exact jJ
  ·rw[dQ AI]at hc;by_cases hB:g2.B=g.B
   ·refine Ix c o2 g2 AI hc hk hB ?_ (h.obj c o2 g2 hc hk);rcases h.lP c b o2 o g2 g AI hc hb hk hg (rwR lT)with h1|h1|h1
    ·exact absurd hB h1
    ·exact .inr h1
    ·exact .inl h1
   ·exact(h.obj c o2 g2 hc hk).same (gx _ hB)
 ·intro b1 b2 o1 o2 g1 g2 adw h1 h2 k1 k2 hr;have e1:∃o1',W.get b1=some o1'/\K6 o1'=K6 o1:=by
   by_cases hx:b1=b
   ·subst hx;rw[AW.bH]at h1;injection h1 with h1;subst h1;exact⟨o,hb,by rw[Ar lT,Ar DK]⟩
   ·rw[dQ hx]at h1;exact⟨o1,h1,rfl⟩
  have e2:∃o2',W.get b2=some o2'/\K6 o2'=K6 o2:=by
   by_cases hx:b2=b
   ·subst hx;rw[AW.bH]at h2;injection h2 with h2;subst h2;exact⟨o,hb,by rw[Ar lT,Ar DK]⟩
   ·rw[dQ hx]at h2;exact⟨o2,h2,rfl⟩
  obtain⟨o1',e1,q1⟩:=e1;obtain⟨o2',e2,q2⟩:=e2;exact h.lP b1 b2 o1' o2' g1 g2 adw e1 e2 k1 k2 (by rw[q1,q2];exact hr)
 ·intro c cs hc;by_cases AI:c=b
  ·subst AI;rw[hb]at hc;injection hc with hc;exact absurd hc (lT cs)
  ·rw[dQ AI];exact hc
 ·rw[mK];exact aS _
 ·intro B hB hm;by_cases hBg:B=g.B
  ·subst hBg;exact absurd ⟨b,g,hg,rfl,λcs hc=>by rw[hb]at hc;injection hc with hc;exact lT cs hc⟩ hm
  ·exact gx B hBg
 ·intro c o2 hc hk;have AI:c≠b:=λe=>by subst e;rw[hg]at hk;cases hk
  exact⟨by rw[dQ AI];exact hc,hk⟩
 ·exactλc k hk _=>.inl hk
def aX.NV(h:aX σ W w.heap){b:Nat}{o o':de}{g:pY}(hb:W.get b=some o)(lT:∀cs,o≠ .ro cs)(DK:∀cs,o'≠ .ro cs)(hg:σ b=some g)
 (mK:w'.heap.size=w.heap.size)(K2:w'.os=w.os)(Ni:w'.tape=w.tape)(vt:w'.output=w.output)
 (gx:∀B,B≠g.B->w'.heap[B]? =w.heap[B]?)
 {c c':Array ae}{t:ah}(hc:w.heap[g.B]? =some (.cells c t (0,0)))(qU:w'.heap[g.B]? =some (.cells c' t (0,0)))(mI:c'.size=c.size)
 (pR:∀i,i<g.s\/g.e<=i->c'[i]? =c[i]?)(jJ:jh σ w'.heap g o'):
 aX σ (W.put b o') w'.heap/\dE σ W w σ (W.put b o') w':=by
 refine h.Ka hb lT DK hg mK K2 Ni vt gx jJ ?_
 ·intro b2 o2 g2 dQ h2 k2 hB hd dH;cases o2 with
  |cells zS=>obtain⟨c0,t0,RG,e1,e0,e2,e3,e4⟩:=dH;rw[hB,hc]at e1;injection e1 with e1;injection e1 with e1 OM;subst e1;refine⟨c',t,(0,0),by rw[hB];exact qU,λ_=>rfl,e2,by omega,λi v hv=>?_⟩;obtain⟨v',f1,f2⟩:=e4 i v hv;have hi:i<zS.length:=(cr.1 hv).1;exact⟨v',by rw[pR _ (by omega)];exact f1,f2⟩
  |ro zS=>obtain⟨c0,t0,fr,e1,e2,e3⟩:=dH;rw[hB,hc]at e1;injection e1 with e1;injection e1 with e1 OM;subst e1;refine⟨c',t,(0,0),by rw[hB];exact qU,e2,λi v hv=>?_⟩;have hi:i<zS.length:=(cr.1 hv).1;obtain⟨v',f1,f2⟩:=e3 i v hv;exact⟨v',by rw[pR _ (by omega)];exact f1,f2⟩
  |map es gU=>obtain⟨_,_,eR,e1,_⟩:=dH;rw[hB,hc]at e1;cases e1
  |loop st jF R nt ps ajb bd=>obtain⟨_,_,r,e1,_⟩:=dH;rw[hB,hc]at e1;cases e1
  |jy s pos=>obtain⟨_,_,e1⟩:=dH;rw[hB,hc]at e1;cases e1
  |tc t2 zS=>obtain⟨a1,a2,a3,c0,e1,e2,e3,e4⟩:=dH;rw[hB,hc]at e1;injection e1 with e1;injection e1 with e1 OM;subst e1;subst OM;refine⟨a1,a2,a3,c',by rw[hB];exact qU,e2,by omega,λi v hv=>?_⟩;obtain⟨v',f1,f2⟩:=e4 i v hv;have hi:i<zS.length:=(cr.1 hv).1;exact⟨v',by rw[pR _ (by omega)];exact f1,f2⟩
def aX.write(h:aX σ W w.heap){b:Nat}{cs bP:List ae}{g:pY}(hb:W.get b=some (.cells cs))(hg:σ b=some g)
 (mK:w'.heap.size=w.heap.size)(K2:w'.os=w.os)(Ni:w'.tape=w.tape)(vt:w'.output=w.output)
 (gx:∀B,B≠g.B->w'.heap[B]? =w.heap[B]?)
 {c c':Array ae}{t:ah}(hc:w.heap[g.B]? =some (.cells c t (0,0)))(qU:w'.heap[g.B]? =some (.cells c' t (0,0)))(mI:c'.size=c.size)
 (pR:∀i,i<g.s\/g.e<=i->c'[i]? =c[i]?)(dy:g.s+bP.length<=g.e)
 (iU:∀(i:Nat) (v:ae),bP[i]? =some v->∃v',c'[g.s+i]? =some v'/\VR σ v v'):
 aX σ (W.put b (.cells bP)) w'.heap/\dE σ W w σ (W.put b (.cells bP)) w':=by
 refine h.NV hb (λ_=>by simp) (λ_=>by simp) hg mK K2 Ni vt gx hc qU mI pR ?_
 ·obtain⟨c0,t0,RG,h1,h0,h2,h3,h4⟩:=h.obj b _ g hb hg;rw[hc]at h1;injection h1 with h1;injection h1 with h1 Nf;subst h1;exact⟨c',t,(0,0),qU,λ_=>rfl,dy,by omega,iU⟩
def aX.T9(h:aX σ W w.heap){b:Nat}{t0:ah}{cs bP:List ae}{g:pY}(hb:W.get b=some (.tc t0 cs))(hg:σ b=some g)
 (mK:w'.heap.size=w.heap.size)(K2:w'.os=w.os)(Ni:w'.tape=w.tape)(vt:w'.output=w.output)
 (gx:∀B,B≠g.B->w'.heap[B]? =w.heap[B]?)
 {c c':Array ae}(hc:w.heap[g.B]? =some (.cells c t0 (0,0)))(qU:w'.heap[g.B]? =some (.cells c' t0 (0,0)))(mI:c'.size=c.size)
 (dy:bP.length=cs.length)
 (iU:∀(i:Nat) (v:ae),bP[i]? =some v->∃v',c'[i]? =some v'/\VR σ v v'):
 aX σ (W.put b (.tc t0 bP)) w'.heap/\dE σ W w σ (W.put b (.tc t0 bP)) w':=by
 obtain⟨a1,a2,a3,c0,h1,h2,h3,h4⟩:=h.obj b _ g hb hg;rw[hc]at h1;injection h1 with h1;injection h1 with h1 Nf;subst h1;refine h.NV hb (λ_=>by simp) (λ_=>by simp) hg mK K2 Ni vt gx hc qU mI (λi hi=>?_) ⟨a1,a2,⟨a3.1,λhx=>by rw[dy];exact a3.2 hx⟩,c',qU,by omega,by omega,iU⟩;rw[o4 (by omega),o4 (by omega)]
def aX.setObj(h:aX σ W w.heap){b:Nat}{o o':de}{g:pY}{x:kb}(hb:W.get b=some o)(lT:∀cs,o≠ .ro cs)(hg:σ b=some g)(LW:g.s=0/\g.e=1)
 (P8:∀c t fr,w.heap[g.B]? ≠some (.cells c t fr))
 (jJ:jh σ (w.heap.setIfInBounds g.B x) g o')(DK:∀cs,o'≠ .ro cs:=by intro _ hx;cases hx):
 aX σ (W.put b o') (w.heap.setIfInBounds g.B x)/\dE σ W w σ (W.put b o') {w with heap:=w.heap.setIfInBounds g.B x}:=by
 refine h.Ka (w':={w with heap:=w.heap.setIfInBounds g.B x}) hb lT DK hg (by simp) rfl rfl rfl (λB hB=>?_) jJ ?_
 ·simp only[Cs];rw[ay (bL hB)]
 ·intro b2 o2 g2 _ _ _ hB hd dH;exfalso;cases o2 with
  |cells zS=>obtain⟨c0,t0,RG,e1,_⟩:=dH;rw[hB]at e1;exact P8 _ _ _ e1
  |ro zS=>obtain⟨c0,t0,fr,e1,_⟩:=dH;rw[hB]at e1;exact P8 _ _ _ e1
  |map es gU=>obtain⟨_,_,_⟩:=dH;omega
  |loop st jF R nt ps ajb bd=>obtain⟨_,_,_⟩:=dH;omega
  |jy s pos=>obtain⟨_,_,_⟩:=dH;omega
  |tc t2 zS=>obtain⟨_,_,_,c0,e1,_⟩:=dH;rw[hB]at e1;exact P8 _ _ _ e1
def bu(σ:cm)(b:Nat)(g:pY):cm:=λc=>if c=b then some g else σ c
def cA{b:Nat}{g:pY}(hb:σ b=none):Sub σ (bu σ b g):=λc k hc=>by
 unfold bu;split
 ·rename_i e;subst e;rw[hb]at hc;cases hc
 ·exact hc
def cz{b:Nat}{g:pY}:bu σ b g b=some g:=by simp[bu]
def aX.fresh(h:aX σ W w.heap):σ W.next=none:=by
 cases hk:σ W.next with
 |none=>rfl
 |some g=>have:=(h.lH _ _ hk).1;omega
def aX.alloc(h:aX σ W w.heap){o:de}{x:kb}{e:Nat}
 (jJ:jh (bu σ W.next ⟨w.heap.size,0,e⟩) (w.heap.push x) ⟨w.heap.size,0,e⟩ o)(lT:∀cs,o≠ .ro cs:=by intro _ hx;cases hx):
 aX (bu σ W.next ⟨w.heap.size,0,e⟩) (W.add o) (w.heap.push x)/\dE σ W w (bu σ W.next ⟨w.heap.size,0,e⟩) (W.add o) {w with heap:=w.heap.push x}:=by
 have zA:=h.fresh;have hs:Sub σ (bu σ W.next ⟨w.heap.size,0,e⟩):=cA zA;have dH:∀B,B<w.heap.size->(w.heap.push x)[B]? =w.heap[B]? :=λB hB=>by rw[nz];rw[bX]
 have dQ:∀{c:Nat},c≠W.next->(W.add o).get c=W.get c:=λhc=>W.aZ _ (bL hc)
 have lu:∀c g,bu σ W.next ⟨w.heap.size,0,e⟩ c=some g->(c=W.next/\g=⟨w.heap.size,0,e⟩)\/(c≠W.next/\σ c=some g):=λc g hc=>by
  unfold bu at hc;split at hc
  ·rename_i hx;injection hc with hc;exact .inl ⟨hx,hc.symm⟩
  ·rename_i hx;exact .inr ⟨hx,hc⟩
 refine⟨⟨?_,?_,?_,?_⟩,⟨hs,?_,?_,rfl,rfl,rfl,?_,?_,?_⟩⟩
 ·intro c hc;have qU:W.next+1<=c:=hc;rw[dQ (by omega)];exact h.free c (by omega)
 ·intro c g hc;rcases lu c g hc with⟨rfl,rfl⟩|⟨_,h2⟩
  ·simp[AW.aJ]
  ·have:=h.lH c g h2;simp[AW.aJ];omega
 ·intro c o2 g hc hk;rcases lu c g hk with⟨rfl,rfl⟩|⟨h1,h2⟩
  ·rw[AW.bf]at hc;injection hc with hc;subst hc;exact jJ
  ·rw[dQ h1]at hc;exact((h.obj c o2 g hc h2).mono hs).same (dH _ (h.lH c g h2).2)
 ·intro b1 b2 o1 o2 g1 g2 CI h1 h2 k1 k2 hr;rcases lu b1 g1 k1 with⟨rfl,rfl⟩|⟨x1,y1⟩
  ·rcases lu b2 g2 k2 with⟨rfl,rfl⟩|⟨x2,y2⟩
   ·exact absurd rfl CI
   ·have:=(h.lH _ _ y2).2;exact .inl (by simp only[ne_eq];omega)
  ·rcases lu b2 g2 k2 with⟨rfl,rfl⟩|⟨x2,y2⟩
   ·have:=(h.lH _ _ y1).2;exact .inl (by simp only[ne_eq];omega)
   ·rw[dQ x1]at h1;rw[dQ x2]at h2;exact h.lP _ _ _ _ _ _ CI h1 h2 y1 y2 hr
 ·intro b cs hb;by_cases hx:b=W.next
  ·subst hx;rw[h.free _ (aS _)]at hb;cases hb
  ·rw[dQ hx];exact hb
 ·simp
 ·intro B hB _;exact dH B hB
 ·intro c o2 hc hk;have hcn:c≠W.next:=λe=>by subst e;rw[h.free _ (aS _)]at hc;cases hc
  refine⟨by rw[dQ hcn];exact hc,?_⟩;unfold bu;rw[ay hcn];exact hk
 ·intro c g hk hB;rcases lu c g hk with⟨rfl,rfl⟩|⟨h1,h2⟩
  ·simp at hB
  ·exact .inl h2
end
end
section
variable [aj]
def cO(B o j:Nat):(⟨B,o,none⟩:aM).add j=⟨B,o+j,none⟩:=by
 unfold Addr.add;split
 ·rename_i h;subst h;rfl
 ·rfl
def kJ(a:aM)(j:Nat)(h:a.spot=none):(a.add j).spot=none:=by unfold Addr.add;split<;>simp[h]
def ff(a:aM)(j:Nat):(a.add j).block=a.block:=by unfold Addr.add;split<;>rfl
def lU(a:aM)(j:Nat):(a.add j).off=a.off+j:=by
 unfold Addr.add;split
 ·rename_i h;subst h;rfl
 ·rfl
def Jc(P:ag)(t:ah):Option Bool:=(P.underlying t).map λd=>match d with|.struct _|.array .. =>true|_=>false
def jq(P:ag)(t:ah):Option Nat:=(P.info? t).map (·.size)
def uN{P:ag}{t:ah}{n:Nat}(h:jq P t=some n):∃i,P.info? t=some i/\i.size=n/\P.cellsOf t=n:=by
 unfold jq at h;cases hi:P.info? t with
 |none=>rw[hi]at h;cases h
 |some i=>rw[hi]at h;simp at h;exact⟨i,rfl,h,by simp[Program.cellsOf,hi,h]⟩
def be{P:ag}{t:ah}{n:Nat}(h:jq P t=some n)(w:ap):(sizeOf t).run P w=.ok n w:=by
 obtain⟨i,hi,_,h3⟩:=uN h;have:(sizeOf t).run P w=.ok (P.cellsOf t) w:=by simp[sizeOf,typeInfo,hi,Program.cellsOf]
 rw[this,h3]
def oy{P:ag}{t:ah}{b:Bool}(h:Jc P t=some b)(w:ap):(isAgg t).run P w=.ok b w:=by
 unfold Jc at h;cases hu:P.underlying t with
 |none=>rw[hu]at h;cases h
 |some d=>rw[hu]at h;simp only[bR,fb]at h;subst h;cases d<;>simp[isAgg,bn hu]
def aH(W:AW)(b:Nat):Option (List ae):=match W.get b with|some (.cells cs)=>some cs|some (.ro cs)=>some cs|some (.tc _ cs)=>some cs|_=>none
section
variable {P:ag} {σ:cm} {W:AW} {w:ap}
def th(h:aX σ W w.heap){b:Nat}{cs:List ae}{g:pY}(hc:aH W b=some cs)(hg:σ b=some g){i:Nat}{v:ae}(hv:cs[i]? =some v):
 ∃v',w.cell? ⟨g.B,g.s+i,none⟩=some v'/\VR σ v v':=by
 unfold aH at hc;split at hc
 ·rename_i bP dL;injection hc with hc;subst hc;obtain⟨c,t,fr,h1,h0,h2,h3,h4⟩:=h.obj b _ g dL hg;obtain⟨v',f1,f2⟩:=h4 i v hv;exact⟨v',by simp[World.cell?,h1,f1],f2⟩
 ·rename_i bP dL;injection hc with hc;subst hc;obtain⟨c,t,fr,h1,h2,h4⟩:=h.obj b _ g dL hg;obtain⟨v',f1,f2⟩:=h4 i v hv;exact⟨v',by simp[World.cell?,h1,f1],f2⟩
 ·rename_i t bP dL;injection hc with hc;subst hc;obtain⟨a1,a2,a3,c,h1,h2,h3,h4⟩:=h.obj b _ g dL hg;obtain⟨v',f1,f2⟩:=h4 i v hv;exact⟨v',by simp[World.cell?,h1,a1,f1],f2⟩
 ·cases hc
def Mi{α:Type}(l:List α):Nat->List α:=
 List.rec (motive:=λ_=>Nat->List α) (λ_=>[]) (λv t ih n=>Nat.rec (motive:=λ_=>List α) (v::t) (λm _=>ih m) n) l
def Ba{α:Type}(l:List α):Nat->Option (List α):=
 List.rec (motive:=λ_=>Nat->Option (List α)) (λn=>Nat.rec (motive:=λ_=>Option (List α)) (some []) (λ_ _=>none) n)
  (λv _ ih n=>Nat.rec (motive:=λ_=>Option (List α)) (some []) (λm _=>Option.rec (motive:=λ_=>Option (List α)) none (λr=>some (v::r)) (ih m)) n) l
def Mj{α:Type}(l:List α):∀n,Mi l n=l.drop n:=by
 induction l with
 |nil=>intro n;simp[Mi]
 |cons v l ih=>intro n;cases n with|zero=>rfl|succ n=>exact(ih n).trans (by simp)
def JD{α:Type}(l:List α):∀n,Ba l n=if(l.take n).length=n then some (l.take n)else none:=by
 induction l with
 |nil=>intro n;cases n with|zero=>rfl|succ n=>simp[Ba]
 |cons v l ih=>
  intro n;cases n with
  |zero=>rfl
  |succ n=>
   show Option.rec (motive:=λ_=>Option (List α)) none (λr=>some (v::r)) (Ba l n)=_;rw[ih n];by_cases h:(l.take n).length=n
   ·rw[ax h,ax (by simp only[B7,dB,h])];simp
   ·rw[ay h,ay (by simp only[B7,dB];omega)]
def iZ(W:AW)(b off n:Nat):Option (List ae):=
 match aH W b with
 |some cs=>Ba (Mi cs off) n
 |none=>none
def fG(W:AW)(b off n:Nat):iZ W b off n=match aH W b with
 |some cs=>let l:=(cs.drop off).take n;if l.length=n then some l else none
 |none=>none:=by
 unfold iZ;cases aH W b with
 |none=>rfl
 |some cs=>simp only[Mj,JD]
def vd(h:aX σ W w.heap){b off n:Nat}{l:List ae}{g:pY}(hr:iZ W b off n=some l)(hg:σ b=some g):
 ∃l',LR σ l l'/\l.length=n/\(∀j v,l'[j]? =some v->w.cell? ⟨g.B,g.s+off+j,none⟩=some v)/\(loadCells ⟨g.B,g.s+off,none⟩ n).run P w=.ok l'.toArray w:=by
 rw[fG]at hr;split at hr
 ·rename_i cs hc;simp only at hr;split at hr
  ·rename_i dy;injection hr with hr;have dL:∀j v,l[j]? =some v->∃v',w.cell? ⟨g.B,g.s+off+j,none⟩=some v'/\VR σ v v':=by
    intro j v hj;rw[<-hr,jg]at hj;split at hj
    ·rw[pk]at hj;obtain⟨v',a,b⟩:=th h hc hg hj;exact⟨v',by rw[jW];exact a,b⟩
    ·cases hj
   have WB:l.length=n:=by rw[<-hr];exact dy
   let f:Nat->ae:=λj=>(w.cell? ⟨g.B,g.s+off+j,none⟩).getD ai
   refine⟨(List.range n).map f,⟨by simp[WB],λj v v' a b=>?_⟩,WB,?_,?_⟩
   ·have hj:j<n:=by rw[<-WB];exact(cr.1 a).1
    obtain⟨u,h1,h2⟩:=dL j v a;simp[hj,f,h1]at b;subst b;exact h2
   ·intro j v hj;have ZQ:j<n:=by have:=(cr.1 hj).1;simpa using this
    obtain⟨u,h1,h2⟩:=dL j l[j] (cx (by omega));simp[ZQ,f,h1]at hj;subst hj;exact h1
   ·have:=run_loadCells (P:=P) w ⟨g.B,g.s+off,none⟩ n f (λj hj=>by rw[cO];obtain⟨u,h1,h2⟩:=dL j l[j] (cx (by omega));simp[f,h1]);exact this
  ·cases hr
 ·cases hr
def gK(P:ag)(W:AW)(t:ah)(x:ae):Option ae:=
 match x with
 |.pointer (some a)=>match Jc P t with
  |some false=>match aH W a.block with
   |some cs=>Qs cs a.off
   |none=>none
  |some true=>match jq P t with
   |some n=>(iZ W a.block a.off n).map λl=>.agg l.toArray
   |none=>none
  |none=>none
 |_=>none
def Al(h:aX σ W w.heap){t:ah}{x x' v:ae}(ha:gK P W t x=some v)(hx:VR σ x x'):
 ∃v',(Instr.loadAt t x').run P w=.ok v' w/\VR σ v v':=by
 unfold gK at ha;split at ha
 ·rename_i a;cases hx with
  |ptr a g hg hs=>
   split at ha
   ·rename_i UF;split at ha
    ·rename_i cs hc;rw[BB]at ha;obtain⟨v',h1,h2⟩:=th h hc hg ha;exact⟨v',by simp[Instr.loadAt,Instr.sureAddr,loadVar,oy UF,h1],h2⟩
    ·cases ha
   ·rename_i UF;split at ha
    ·rename_i n hn;cases hr:iZ W a.block a.off n with
     |none=>rw[hr]at ha;cases ha
     |some l=>rw[hr]at ha;simp only[bR,fb]at ha;subst ha;obtain⟨l',h1,_,_,h3⟩:=vd (P:=P) h hr hg;exact⟨.agg l'.toArray,by simp[Instr.loadAt,Instr.sureAddr,loadVar,oy UF,be hn,h3],VR.F2 (by simpa using h1)⟩
    ·cases ha
   ·cases ha
 ·cases ha
def one(v:ae):Bool:=v.oneCell'
def TY{v v':ae}(h:VR σ v v'):one v'=one v:=by cases h<;>rfl
def wV{l l':List ae}(h:LR σ l l')(ha:l.all one=true):∀v∈l',v.oneCell'=true:=by
 intro v hv;obtain⟨i,hi⟩:=List.getElem?_of_mem hv;have Rl:i<l.length:=by rw[h.1];exact(cr.1 hi).1
 have:=h.2 i l[i] v (cx Rl) hi;rw[show v.oneCell'=one v from rfl,TY this];exact bV.1 ha _ (fq Rl)
def fh(cs:List ae)(off:Nat)(vs:List ae):List ae:=cs.take off++vs++cs.drop (off+vs.length)
def TI:ae->Bool:=
 Value.rec (motive_1:=λ_=>Bool) (motive_2:=λ_=>PUnit) (motive_3:=λ_=>PUnit) (λ_=>true) (λ_ _=>true) (λ_ _=>true) (λ_ _ _=>true) (λ_=>true) (λ_=>true) (λ_ _ _=>true) (λ_=>true) (λ_=>true) (λ_ _ _ _ _=>true) true (λ_ _ _=>true) true (λ_ _=>false) (λ_ _=>false) (λ_ _=>.unit) .unit (λ_ _ _ _=>.unit)
def P1(v:ae):TI v=one v:=by cases v<;>rfl
def vV(vs:List ae):List ae->Option (List ae):=
 List.rec (motive:=λ_=>List ae->Option (List ae)) (λcs=>some cs)
  (λv _ ih cs=>List.rec (motive:=λ_=>Option (List ae)) none (λ_ t _=>Bool.rec (motive:=λ_=>Option (List ae)) none (Option.rec (motive:=λ_=>Option (List ae)) none (λr=>some (v::r)) (ih t)) (TI v)) cs) vs
def D2(vs:List ae):∀cs,vV vs cs=if vs.length<=cs.length/\vs.all one=true then some (vs++cs.drop vs.length)else none:=by
 induction vs with
 |nil=>intro cs;simp[vV]
 |cons v vs ih=>
  intro cs;cases cs with
  |nil=>simp[vV]
  |cons c t=>
   show Bool.rec (motive:=λ_=>Option (List ae)) none (Option.rec (motive:=λ_=>Option (List ae)) none (λr=>some (v::r)) (vV vs t)) (TI v)=_;rw[ih t,P1];cases h1:one v with
   |false=>simp[h1]
   |true=>
    by_cases h:vs.length<=t.length/\vs.all one=true
    ·rw[ax h,ax (by simp only[dB,fa,h1,h.2];exact⟨by omega,rfl⟩)];simp
    ·rw[ay h,ay (by simp only[dB,fa,h1,nW];exactλk=>h ⟨by omega,k.2⟩)]
def xn(cs:List ae):Nat->List ae->Option (List ae):=
 List.rec (motive:=λ_=>Nat->List ae->Option (List ae)) (λn vs=>Nat.rec (motive:=λ_=>Option (List ae)) (vV vs []) (λ_ _=>none) n)
  (λc t ih n vs=>Nat.rec (motive:=λ_=>Option (List ae)) (vV vs (c::t)) (λm _=>Option.rec (motive:=λ_=>Option (List ae)) none (λr=>some (c::r)) (ih m vs)) n) cs
def vo(cs:List ae):∀(off:Nat) (vs:List ae),xn cs off vs=if off+vs.length<=cs.length/\vs.all one=true then some (fh cs off vs)else none:=by
 induction cs with
 |nil=>
  intro off vs;cases off with
  |zero=>show vV vs []=_;rw[D2];simp[fh]
  |succ n=>show(none:Option (List ae))=_;rw[ay (by simp)]
 |cons c t ih=>
  intro off vs;cases off with
  |zero=>show vV vs (c::t)=_;rw[D2];simp[fh]
  |succ n=>
   show Option.rec (motive:=λ_=>Option (List ae)) none (λr=>some (c::r)) (xn t n vs)=_;rw[ih n vs];have e:n+1+vs.length=(n+vs.length)+1:=by omega
   by_cases h:n+vs.length<=t.length/\vs.all one=true
   ·rw[ax h,ax ⟨by simp only[dB];omega,h.2⟩];simp[fh,e]
   ·rw[ay h,ay (by simp only[dB];exactλk=>h ⟨by omega,k.2⟩)]
def jQ(W:AW)(b off:Nat)(vs:List ae):Option AW:=
 match W.get b with
 |some (.cells cs)=>(match xn cs off vs with
  |some l=>some (W.put b (.cells l))
  |none=>none)
 |some (.tc t cs)=>(match xn cs off vs with
  |some l=>some (W.put b (.tc t l))
  |none=>none)
 |_=>none
def GM(W:AW)(b off:Nat)(vs:List ae):jQ W b off vs=match W.get b with
 |some (.cells cs)=>if off+vs.length<=cs.length/\vs.all one=true then some (W.put b (.cells (fh cs off vs)))else none
 |some (.tc t cs)=>if off+vs.length<=cs.length/\vs.all one=true then some (W.put b (.tc t (fh cs off vs)))else none
 |_=>none:=by
 unfold jQ;split
 ·rename_i cs mI;rw[vo];by_cases h:off+vs.length<=cs.length/\vs.all one=true
  ·rw[ax h,ax h]
  ·rw[ay h,ay h]
 ·rename_i t cs mI;rw[vo];by_cases h:off+vs.length<=cs.length/\vs.all one=true
  ·rw[ax h,ax h]
  ·rw[ay h,ay h]
 ·rfl
def iv(c:List ae)(o:Nat)(vs:List ae)(h:o+vs.length<=c.length)(i:Nat):
 (c.take o++vs++c.drop (o+vs.length))[i]? =if o<=i/\i<o+vs.length then vs[i-o]? else c[i]? :=by
 rw[pM,sf];simp only[dR];have hm:min o c.length=o:=by omega
 rw[hm];split
 ·rename_i h1;rw[jg,ax h1,bX]
 ·rename_i h1;rw[sf];split
  ·rename_i h2;rw[oM]
  ·rename_i h2;rw[bX,pk];congr 1;omega
def fU(w:ap)(g B:Nat)(c:Array ae)(h:B≠g):(w.setRow g c).heap[B]? =w.heap[B]? :=by simp only[World.setRow,um];rw[ay (bL h)]
def nS(h:aX σ W w.heap){b off:Nat}{vs zb:List ae}{W':AW}{g:pY}(hw:jQ W b off vs=some W')(hg:σ b=some g)(hv:LR σ vs zb):
 ∃w',(storeCells ⟨g.B,g.s+off,none⟩ zb).run P w=.ok () w'/\aX σ W' w'.heap/\dE σ W w σ W' w':=by
 rw[GM]at hw;split at hw
 ·rename_i cs dL;split at hw
  ·rename_i mU;injection hw with hw;obtain⟨dy,Kw⟩:=mU;obtain⟨c,t,fr,h1,h0,h2,h3,h4⟩:=h.obj b _ g dL hg;have hvl:=hv.1;by_cases Sv:g.s<g.e;case neg=>
    have K5:zb=[]:=pr (by omega);have acV:vs=[]:=pr (by omega);have aeN:cs=[]:=pr (by omega);subst K5;subst acV;subst aeN;have Cg:off=0:=by simpa using dy
    subst Cg;refine⟨w,by simp[storeCells],?_⟩;rw[<-hw];have acg:fh ([]:List ae) 0 []=[]:=rfl;rw[acg];refine h.Ka dL (λ_=>by simp) (λ_=>by simp) hg rfl rfl rfl rfl (λ_ _=>rfl) ⟨c,t,fr,h1,h0,h2,h3,h4⟩ (λ_ _ _ _ _ _ _ _ k=>k)
   obtain rfl:=h0 Sv;have my:=wX (P:=P) g.B (g.s+off) t zb 0 c w h1 (by omega) (wV hv Kw);simp only[dA]at my;refine⟨_,my,?_⟩;rw[<-hw];have wH:=iv c.toList (g.s+off) zb (by simp;omega);refine h.write (bP:=fh cs off vs) dL hg (by simp[World.setRow]) rfl rfl rfl (λB hB=>fU w g.B B _ hB) h1 (nD w g.B c _ t _ h1) (by simp;omega) ?_ ?_ ?_
   ·intro i hi;have:=wH i;rw[bX]at this;simpa using this
   ·simp[fh];omega
   ·intro i v NB;have hsg:=iv cs off vs dy i;rw[show fh cs off vs=cs.take off++vs++cs.drop (off+vs.length)from rfl,hsg]at NB;have oS:=wH (g.s+i);by_cases iU:off<=i/\i<off+vs.length
    ·rw[ax iU]at NB;rw[oM]at oS;obtain⟨v',f1,f2⟩:=hv.get NB;refine⟨v',?_,f2⟩;rw[show g.s+i-(g.s+off)=i-off by omega]at oS;rw[<-f1];simpa using oS
    ·rw[ay iU]at NB;rw[bX]at oS;obtain⟨v',f1,f2⟩:=h4 i v NB;exact⟨v',by rw[<-f1];simpa using oS,f2⟩
  ·cases hw
 ·rename_i t cs dL;split at hw
  ·rename_i mU;injection hw with hw;obtain⟨dy,Kw⟩:=mU;obtain⟨a1,a2,a3,c,h1,h2,h3,h4⟩:=h.obj b _ g dL hg;have hvl:=hv.1;have my:=wX (P:=P) g.B (g.s+off) t zb 0 c w h1 (by omega) (wV hv Kw);simp only[dA]at my;refine⟨_,my,?_⟩;rw[<-hw];have wH:=iv c.toList (g.s+off) zb (by simp;omega);refine h.T9 (bP:=fh cs off vs) dL hg (by simp[World.setRow]) rfl rfl rfl (λB hB=>fU w g.B B _ hB) h1 (nD w g.B c _ t _ h1) (by simp;omega) ?_ ?_
   ·simp[fh];omega
   ·intro i v NB;have hsg:=iv cs off vs dy i;rw[show fh cs off vs=cs.take off++vs++cs.drop (off+vs.length)from rfl,hsg]at NB;have oS:=wH i;by_cases iU:off<=i/\i<off+vs.length
    ·rw[ax iU]at NB;rw[oM]at oS;obtain⟨v',f1,f2⟩:=hv.get NB;refine⟨v',?_,f2⟩;rw[show i-(g.s+off)=i-off by omega]at oS;rw[<-f1];simpa using oS
    ·rw[ay iU]at NB;rw[bX]at oS;obtain⟨v',f1,f2⟩:=h4 i v NB;exact⟨v',by rw[<-f1];simpa using oS,f2⟩
  ·cases hw
 ·cases hw
def rT(P:ag)(W:AW)(t:ah)(x v:ae):Option AW:=
 match x with
 |.pointer (some a)=>match jq P t with
  |some n=>if v.cells.size=n then jQ W a.block a.off v.cells.toList else none
  |none=>none
 |_=>none
def Ho(h:aX σ W w.heap){t:ah}{x x' v v':ae}{W':AW}(ha:rT P W t x v=some W')(hx:VR σ x x')(hv:VR σ v v'):
 ∃w',(Instr.storeAt t x' v').run P w=.ok () w'/\aX σ W' w'.heap/\dE σ W w σ W' w':=by
 unfold rT at ha;split at ha
 ·rename_i a;cases hx with
  |ptr a g hg hs=>
   split at ha
   ·rename_i n hn;split at ha
    ·rename_i mK;obtain⟨w',h1,h2⟩:=nS (P:=P) h ha hg hv.cells;have aem:v'.cells.size=n:=by have:=hv.cells.1;simp at this;omega
     exact⟨w',by simp[Instr.storeAt,Instr.sureAddr,storeVar,be hn,aem,h1],h2⟩
    ·cases ha
   ·cases ha
 ·cases ha
def rF(h:aX σ W w.heap)(t:ah){cs bP:List ae}(hc:LR σ cs bP):
 (newRow t bP.toArray).run P w=.ok ⟨w.heap.size,0,none⟩ {w with heap:=w.heap.push (.cells bP.toArray t)}/\
 bu σ W.next ⟨w.heap.size,0,cs.length⟩ W.next=some ⟨w.heap.size,0,cs.length⟩/\
 aX (bu σ W.next ⟨w.heap.size,0,cs.length⟩) (W.add (.cells cs)) (w.heap.push (.cells bP.toArray t))/\
 dE σ W w (bu σ W.next ⟨w.heap.size,0,cs.length⟩) (W.add (.cells cs)) {w with heap:=w.heap.push (.cells bP.toArray t)}:=by
 refine⟨by simp[newRow],cz,h.alloc ?_⟩;refine⟨bP.toArray,t,(0,0),by simp,λ_=>rfl,by simp,by simp[hc.1],λi v hv=>?_⟩;obtain⟨v',a,b⟩:=hc.get hv;exact⟨v',by simpa using a,b.mono (cA h.fresh)⟩
def aX.kill(h:aX σ W w.heap){b:Nat}{g0:pY}(hb:∀cs,W.get b≠some (.ro cs))(ye:σ b=some g0):aX σ (W.kill b) w.heap/\dE σ W w σ (W.kill b) w:=by
 have hk:∀c o,(W.kill b).get c=some o->c≠b/\W.get c=some o:=λc o hc=>by
  by_cases hx:c=b
  ·subst hx;rw[AW.ta]at hc;cases hc
  ·rw[AW.db _ (bL hx)]at hc;exact⟨hx,hc⟩
 refine⟨⟨?_,h.lH,?_,?_⟩,⟨.refl _,?_,aS _,rfl,rfl,rfl,λ_ _ _=>rfl,?_,?_⟩⟩
 ·intro c hc;by_cases hx:c=b
  ·subst hx;exact AW.ta _ _
  ·rw[AW.db _ (bL hx)];exact h.free c hc
 ·intro c o g hc hg;exact h.obj c o g (hk c o hc).2 hg
 ·intro b1 b2 o1 o2 g1 g2 dQ h1 h2 k1 k2 hr;exact h.lP b1 b2 o1 o2 g1 g2 dQ (hk _ _ h1).2 (hk _ _ h2).2 k1 k2 hr
 ·intro c cs hc;have hx:c≠b:=λe=>by subst e;exact hb cs hc
  rw[AW.db _ (bL hx)];exact hc
 ·intro c o2 hc hkn;have AI:c≠b:=λe=>by subst e;rw[ye]at hkn;cases hkn
  exact⟨by rw[AW.db _ (bL AI)];exact hc,hkn⟩
 ·exactλc g hg _=>.inl hg
end
end
section
variable [aj]
def bI(P:ag){α:Type}(s:Sem α):Option α:=
 Sem.rec (motive:=λ_=>Option α) (λa=>some a) (λ_ _ _ _=>none) (λ_ _ _ _ _=>none) (λ_ _ _=>none) (λ_ _ _=>none) (λ_ _ _ _=>none) (λ_ _ _=>none) (λ_ _ _=>none) (λ_ _ _ _=>none) (λ_ _ _=>none) (λ_ _ _=>none) (λ_ ih=>ih P) (λ_ _ _=>none) (λ_=>none) s
def lX{P:ag}{α:Type}(s:Sem α){a:α}(h:bI P s=some a)(w:ap):s.run P w=.ok a w:=by
 induction s generalizing w with
 |pure b=>simp only[bI]at h;injection h with h;subst h;rfl
 |program k ih=>exact ih P h w
 |load m b k ih=>simp[bI]at h
 |store m b v k ih=>simp[bI]at h
 |new o k ih=>simp[bI]at h
 |shape r k ih=>simp[bI]at h
 |freeze b n k ih=>simp[bI]at h
 |frozen b k ih=>simp[bI]at h
 |getObj r k ih=>simp[bI]at h
 |setObj r o k ih=>simp[bI]at h
 |choose q k ih=>simp[bI]at h
 |sys c k ih=>simp[bI]at h
 |mark m k ih=>simp[bI]at h
 |halt x=>simp[bI]at h
def aw(R:aj.Fr)(o:ao):ae:=
 match o with
 |.tmp t=>ch R t
 |.const v=>v
 |.global g=>.pointer (some ⟨g,0,none⟩)
 |.func f=>.func (.func f) #[] #[]
def Ab{nt:Nat}{ng:List Nat}{σ:cm}{R:aj.Fr}{a:aQ}(hR:dn nt σ R a.tmps)(hG:qM σ ng){o:ao}(ho:kG nt ng o=true):VR σ (aw R o) (a.eval o):=by
 cases o with
 |tmp t=>exact hR.2 t (by simpa[kG]using ho)
 |const v=>exact fX ho
 |global g=>obtain⟨e,he⟩:=hG g (oC.1 ho);have:=VR.ptr (σ:=σ) ⟨g,0,none⟩ _ he rfl;simpa[aw,Act.eval]using this
 |func f=>exact .func _ _ _ _ _ _ (.func f) rfl (λi v v' h=>by simp at h) rfl (λi v v' h=>by simp at h)
def sC:Option Next->Option ae
 |some (.value v)=>some v
 |_=>none
def qu:Op->Bool
 |.select .. =>false
 |_=>true
def fZ(P:ag)(R:aj.Fr)(o:am):Option ae:=
 if qu o.op&&o.op.operands.toList.all (λx=>a7 (aw R x))then
  match sC (bI P (execOp (aw R) o))with
  |some v=>if a7 v then some v else none
  |none=>none
 else none
def KA{P:ag}{σ:cm}{R:aj.Fr}{ρ:ao->ae}{o:am}{v:ae}(h:fZ P R o=some v)
 (hρ:∀x∈o.op.operands,VR σ (aw R x) (ρ x))(w:ap):(execOp ρ o).run P w=.ok (.value v) w/\VR σ v v:=by
 unfold fZ at h;split at h
 ·rename_i hc;simp only[bm,bV]at hc;obtain⟨hns,np⟩:=hc;have Y4:execOp (aw R) o=execOp ρ o:=execOp_congr o (λcs b e=>by rw[e]at hns;simp[qu]at hns) (λx hx=>(dU (np x (by simpa using hx)) (hρ x hx)).symm);rw[Y4]at h;split at h
  ·rename_i u hu;split at h
   ·rename_i hp;injection h with h;subst h;cases hr:bI P (execOp ρ o)with
    |none=>rw[hr]at hu;cases hu
    |some nx=>rw[hr]at hu;cases nx<;>first|(simp only[sC]at hu;injection hu with hu;subst hu;exact⟨lX _ hr w,fX hp⟩)|(simp[sC]at hu)
   ·cases h
  ·cases h
 ·cases h
def AR(σ:cm)(a a':Array ae):Prop:=LR σ a.toList a'.toList
def AR.size{σ:cm}{a a':Array ae}(h:AR σ a a'):a.size=a'.size:=by have:=h.1;simpa using this
def AR.set{σ:cm}{a a':Array ae}(h:AR σ a a')(n:Nat){x x':ae}(hx:VR σ x x'):AR σ (a.setIfInBounds n x) (a'.setIfInBounds n x'):=by unfold AR;simp only[Cc];exact LR.set h n hx
def LM{σ:cm}(off:Nat):∀(l l':List ae) (k:Nat) (a a':Array ae),LR σ l l'->AR σ a a'->
 AR σ ((l.zipIdx k).foldl (λcs p=>cs.setIfInBounds (off+p.2) p.1) a) ((l'.zipIdx k).foldl (λcs p=>cs.setIfInBounds (off+p.2) p.1) a'):=by
 intro l;induction l with
 |nil=>intro l' k a a' h ha;have:=h.of_nil;subst this;exact ha
 |cons v l ih=>intro l' k a a' h ha;obtain⟨v',Qw,rfl,hv,hl⟩:=h.of_cons;simp only[List.zipIdx_cons,List.foldl_cons];exact ih Qw (k+1) _ _ hl (ha.set _ hv)
def PR(σ:cm)(ps QV:List (Nat×ae)):Prop:=ps.length=QV.length/\∀(i:Nat) (p p':Nat×ae),ps[i]? =some p->QV[i]? =some p'->p.1=p'.1/\VR σ p.2 p'.2
def PR.of_cons{σ:cm}{p:Nat×ae}{l m:List (Nat×ae)}(h:PR σ (p::l) m):∃v' l',m=(p.1,v')::l'/\VR σ p.2 v'/\PR σ l l':=by
 cases m with
 |nil=>have:=h.1;simp at this
 |cons q l'=>have h0:=h.2 0 p q (by simp) (by simp);refine⟨q.2,l',?_,h0.2,by have:=h.1;simpa using this,λi u u' a b=>h.2 (i+1) u u' (by simpa using a) (by simpa using b)⟩;rw[h0.1]
def sR{σ:cm}(lG:Nat->Option (Nat×Nat)):∀(ps QV:List (Nat×ae)) (a a' Sm:Array ae),PR σ ps QV->AR σ a a'->Instr.fill lG a ps=some Sm->
 ∃uh,Instr.fill lG a' QV=some uh/\AR σ Sm uh:=by
 intro ps;induction ps with
 |nil=>
  intro QV a a' Sm h ha hf;have:QV=[]:=by have:=h.1;simp at this;exact pr this.symm
  subst this;simp only[Instr.fill]at hf|-;injection hf with hf;subst hf;exact⟨a',rfl,ha⟩
 |cons p ps ih=>
  intro QV a a' Sm h ha hf;obtain⟨v',l',rfl,hv,hl⟩:=h.of_cons;obtain⟨i,v⟩:=p;simp only[Instr.fill]at hf|-;cases hp:lG i with
  |none=>rw[hp]at hf;cases hf
  |some os=>
   obtain⟨off,size⟩:=os;rw[hp]at hf;simp only at hf|-;have mI:v.cells.size=v'.cells.size:=by have:=hv.cells.1;simpa using this
   rw[<-mI,<-ha.size];split at hf
   ·cases hf
   ·rename_i mU;rw[ay mU];refine ih l' _ _ Sm hl ?_ hf;have:=LM off v.cells.toList v'.cells.toList 0 a a' hv.cells ha;have e1:∀(u:ae) (b:Array ae),Array.foldl (λcs (x:ae×Nat)=>cs.setIfInBounds (off+x.2) x.1) b u.cells.zipIdx=(u.cells.toList.zipIdx 0).foldl (λcs p=>cs.setIfInBounds (off+p.2) p.1) b:=λu b=>by rw[<-Array.foldl_toList,Array.toList_zipIdx]
    rw[<-e1,<-e1]at this;exact this
section
variable {P:ag} {σ:cm} {W:AW} {w:ap}
def iu(P:ag)(t:ah):Option ae:=match(P.info? t).bind (·.zero)with|some z=>if z.cells.toList.all bZ then some z else none|none=>none
def fd{t:ah}{z:ae}(h:iu P t=some z)(w:ap):(zeroValue t).run P w=.ok z w/\z.cells.toList.all bZ=true:=by
 unfold iu at h;split at h
 ·rename_i z0 hz;split at h
  ·rename_i hs;injection h with h;subst h;cases hi:P.info? t with
   |none=>rw[hi]at hz;cases hz
   |some i=>rw[hi]at hz;simp only[bl]at hz;exact⟨by simp[zeroValue,typeInfo,hi,hz],hs⟩
  ·cases h
 ·cases h
def w7{z:ae}(h:z.cells.toList.all bZ=true):AR σ z.cells z.cells:=LR.jt (λ_=>dx) h
def kV(R:aj.Fr)(ps:Array (Nat×ao)):List (Nat×ae):=ps.toList.map λp=>(p.1,aw R p.2)
def uU{R:aj.Fr}{ρ:ao->ae}(ps:Array (Nat×ao))(h:∀p∈ps.toList,VR σ (aw R p.2) (ρ p.2)):
 PR σ (kV R ps) (ps.map λ(i,x)=>(i,ρ x)).toList:=by
 refine⟨by simp[kV],λi p p' a b=>?_⟩;simp only[kV,kN,Array.toList_map]at a b;cases hq:ps.toList[i]? with
 |none=>rw[hq]at a;cases a
 |some q=>rw[hq]at a b;simp at a b;subst a;subst b;exact⟨rfl,h q (mD hq)⟩
def m8(P:ag):List Field->Option (List (Nat×Nat))
 |[]=>some []
 |f::fs=>match jq P f.type,m8 P fs with
  |some n,some l=>some ((f.offset,n)::l)
  |_,_=>none
def Ce:∀(fs:List Field) (l:List (Nat×Nat)),m8 P fs=some l->∀w,((fs.mapM λf=>do pure (f.offset,<-sizeOf f.type)):Sem (List (Nat×Nat))).run P w=.ok l w:=by
 intro fs;induction fs with
 |nil=>intro l h w;simp only[m8]at h;injection h with h;subst h;simp[List.mapM_nil]
 |cons f fs ih=>
  intro l h w;simp only[m8]at h;split at h
  ·rename_i n m hn hm;injection h with h;subst h;have h2:=ih m hm w;simp only[List.mapM_cons,bJ,be hn,bG,eh,h2]
  ·cases h
def vM(vs:List ae):List ae->Option (List ae):=
 List.rec (motive:=λ_=>List ae->Option (List ae)) (λcs=>some cs)
  (λv _ ih cs=>List.rec (motive:=λ_=>Option (List ae)) none (λ_ t _=>Option.rec (motive:=λ_=>Option (List ae)) none (λr=>some (v::r)) (ih t)) cs) vs
def ED(vs:List ae):∀cs,vM vs cs=if vs.length<=cs.length then some (vs++cs.drop vs.length)else none:=by
 induction vs with
 |nil=>intro cs;simp[vM]
 |cons v vs ih=>
  intro cs;cases cs with
  |nil=>simp[vM]
  |cons c t=>
   show Option.rec (motive:=λ_=>Option (List ae)) none (λr=>some (v::r)) (vM vs t)=_;rw[ih t];by_cases h:vs.length<=t.length
   ·rw[ax h,ax (by simp only[dB];omega)];simp
   ·rw[ay h,ay (by simp only[dB];omega)]
def Bd(cs:List ae):Nat->List ae->Option (List ae):=
 List.rec (motive:=λ_=>Nat->List ae->Option (List ae)) (λn vs=>Nat.rec (motive:=λ_=>Option (List ae)) (vM vs []) (λ_ _=>none) n)
  (λc t ih n vs=>Nat.rec (motive:=λ_=>Option (List ae)) (vM vs (c::t)) (λm _=>Option.rec (motive:=λ_=>Option (List ae)) none (λr=>some (c::r)) (ih m vs)) n) cs
def FU(cs:List ae):∀(off:Nat) (vs:List ae),Bd cs off vs=if off+vs.length<=cs.length then some (fh cs off vs)else none:=by
 induction cs with
 |nil=>
  intro off vs;cases off with
  |zero=>show vM vs []=_;rw[ED];simp[fh]
  |succ n=>show(none:Option (List ae))=_;rw[ay (by simp)]
 |cons c t ih=>
  intro off vs;cases off with
  |zero=>show vM vs (c::t)=_;rw[ED];simp[fh]
  |succ n=>
   show Option.rec (motive:=λ_=>Option (List ae)) none (λr=>some (c::r)) (Bd t n vs)=_;rw[ih n vs];have e:n+1+vs.length=(n+vs.length)+1:=by omega
   by_cases h:n+vs.length<=t.length
   ·rw[ax h,ax (by simp only[dB];omega)];simp[fh,e]
   ·rw[ay h,ay (by simp only[dB];omega)]
def N2(cs:List ae)(o:Nat)(v:ae)(vs:List ae)(h:o+(vs.length+1)<=cs.length):fh (cs.set o v) (o+1) vs=fh cs o (v::vs):=by
 unfold fh;apply qy;intro i;rw[iv _ _ _ (by rw[jP];omega),iv _ _ _ (by simp only[dB];omega)];by_cases h1:i=o
 ·subst h1;rw[bX,ax (by simp only[dB];omega),nY];simp;omega
 ·by_cases h2:o+1<=i/\i<o+1+vs.length
  ·rw[ax h2,ax (by simp only[dB];omega)];obtain⟨k,rfl⟩:∃k,i=o+1+k:=⟨i-(o+1),by omega⟩;rw[show o+1+k-(o+1)=k by omega,show o+1+k-o=k+1 by omega,Br]
  ·rw[ay h2,ay (by simp only[dB];omega),nY,ay (λe=>h1 e.symm)]
def AA(off:Nat):∀(vs:List ae) (k:Nat) (cells:Array ae),off+k+vs.length<=cells.size->
 (List.foldl (λ(cs:Array ae) (p:ae×Nat)=>cs.setIfInBounds (off+p.2) p.1) cells (vs.zipIdx k)).toList=fh cells.toList (off+k) vs
 |[],k,cells,_=>by simp[fh]
 |v::vs,k,cells,h=>by rw[List.zipIdx_cons,List.foldl_cons,AA off vs (k+1) _ (by simp only[Array.size_setIfInBounds];simp only[dB]at h;omega)];rw[Cc];exact N2 _ _ _ _ (by simp only[dB]at h;simp;omega)
def Am(lG:Nat->Option (Nat×Nat)):List (Nat×ae)->List ae->Option (List ae)
 |[],cells=>some cells
 |(i,v)::gn,cells=>match lG i with
  |none=>none
  |some (off,size)=>match Nat.beq v.cells.size size with
   |true=>(match Bd cells off v.cells.toList with
    |some c=>Am lG gn c
    |none=>none)
   |false=>none
def wh(lG:Nat->Option (Nat×Nat))(cells:Array ae)(l:List (Nat×ae)):Option (Array ae):=(Am lG l cells.toList).map List.toArray
def yl(lG:Nat->Option (Nat×Nat)):∀(l:List (Nat×ae)) (cells:Array ae),wh lG cells l=Instr.fill lG cells l
 |[],cells=>by simp[wh,Am,Instr.fill]
 |(i,v)::gn,cells=>by
  unfold Instr.fill;show(Am lG ((i,v)::gn) cells.toList).map List.toArray=_;unfold Am;cases lG i with
  |none=>rfl
  |some p=>
   obtain⟨off,size⟩:=p;simp only;by_cases hs:v.cells.size=size
   ·have hb:Nat.beq v.cells.size size=true:=by rw[dp];exact hs
    rw[hb];simp only;rw[FU];by_cases hl:off+v.cells.size<=cells.size
    ·rw[ax (by simpa using hl),ay (by simp[hs];omega)];simp only;rw[<-yl lG gn];show _=(Am lG gn _).map List.toArray;congr 2;have hf:=AA off v.cells.toList 0 cells (by simpa using hl);rw[dA]at hf;rw[<-hf,<-Array.foldl_toList,Array.toList_zipIdx]
    ·rw[ay (by simpa using hl),ax (by simp[hs];omega)];rfl
   ·have hb:Nat.beq v.cells.size size=false:=by
     cases hq:Nat.beq v.cells.size size with
     |false=>rfl
     |true=>exact absurd (uZ hq) hs
    rw[hb,ax (by simp[hs])];rfl
def rn(P:ag)(R:aj.Fr)(t:ah)(ps:Array (Nat×ao)):Option ae:=
 match iu P t,P.underlying t with
 |some z,some (.struct fs)=>match m8 P fs.toList with
  |some pl=>(wh (pl.toArray[·]?) z.cells (kV R ps)).map .agg
  |none=>none
 |some z,some (.array _ e)=>match jq P e with
  |some n=>(wh (λi=>some (i*n,n)) z.cells (kV R ps)).map .agg
  |none=>none
 |_,_=>none
def Hf{R:aj.Fr}{ρ:ao->ae}{t:ah}{ps:Array (Nat×ao)}{v:ae}(h:rn P R t ps=some v)
 (hρ:∀p∈ps.toList,VR σ (aw R p.2) (ρ p.2))(w:ap):
 ∃v',(Instr.build t (ps.map λ(i,x)=>(i,ρ x))).run P w=.ok v' w/\VR σ v v':=by
 have hp:=uU (σ:=σ) (R:=R) (ρ:=ρ) ps hρ;unfold rn at h;simp only[yl]at h;split at h
 ·rename_i z fs hz hu;obtain⟨uf,wP⟩:=fd hz w;split at h
  ·rename_i pl np;cases hf:Instr.fill (pl.toArray[·]?) z.cells (kV R ps)with
   |none=>rw[hf]at h;cases h
   |some Sm=>
    rw[hf]at h;simp only[bR,fb]at h;subst h;obtain⟨uh,h1,h2⟩:=sR _ _ _ _ _ _ hp (w7 wP) hf;have hm:=Ce fs.toList pl np w;refine⟨.agg uh,?_,VR.F2 h2⟩;have hm':((fs.mapM λf=>do pure (f.offset,<-sizeOf f.type)):Sem (Array (Nat×Nat))).run P w=.ok pl.toArray w:=by rw[Array.mapM_eq_mapM_toList];simp only[Sem.run_map,hm,bG]
    simp only[Instr.build,bJ,uf,bG,bn hu,hm',h1,eh]
  ·cases h
 ·rename_i z len e hz hu;obtain⟨uf,wP⟩:=fd hz w;split at h
  ·rename_i n hn;cases hf:Instr.fill (λi=>some (i*n,n)) z.cells (kV R ps)with
   |none=>rw[hf]at h;cases h
   |some Sm=>rw[hf]at h;simp only[bR,fb]at h;subst h;obtain⟨uh,h1,h2⟩:=sR _ _ _ _ _ _ hp (w7 wP) hf;exact⟨.agg uh,by simp only[Instr.build,bJ,uf,bG,bn hu,be hn,h1,eh],VR.F2 h2⟩
  ·cases h
 ·cases h
def B2(z:ae)(n:Nat):Array ae:=(Array.range n).map (z.cells[· % z.cells.size]!)
def hX(z:ae)(n:Nat):Array ae:=if n=0 then#[]else B2 z n
def nA{z:ae}{n:Nat}(h:n=0):hX z n=#[]:=ax h
def qd{z:ae}{n:Nat}(h:n≠0):hX z n=B2 z n:=ay h
def kr(P:ag)(R:aj.Fr)(W:AW)(t:ah)(len:Nat)(ps:Array (Nat×ao)):Option (ae×AW):=
 match P.underlying t with
 |some (.slice e)=>match jq P e,iu P e with
  |some n,some z=>
   if len*n<=16777216/\len<eS/\(hX z (len*n)).toList.all bZ=true then
    match Instr.fill (λi=>some (i*n,n)) (hX z (len*n)) (kV R ps)with
    |some c=>some (W.new (.cells c.toList) λb W'=>(Value.slice (some ⟨b,0,none⟩) len len,W'))
    |none=>none
   else none
  |_,_=>none
 |_=>none
def zN(cs:List ae)(len:Nat):List ae:=Nat.rec (motive:=λ_=>List ae) [] (λ_ ih=>cs++ih) len
def EG(cs:List ae):∀(len i:Nat),i<len*cs.length->(zN cs len)[i]? =cs[i % cs.length]?
 |0,i,h=>by simp at h
 |len+1,i,h=>by
  show(cs++zN cs len)[i]? =_;by_cases hi:i<cs.length
  ·rw[o6 hi,Nat.mod_eq_of_lt hi]
  ·have h1:len*cs.length+cs.length=(len+1)*cs.length:=by rw[Nat.add_mul,Nat.one_mul]
   rw[ir (by omega),EG cs len (i-cs.length) (by omega)];congr 1;have h2:i=(i-cs.length)+cs.length:=by omega
   generalize i-cs.length=j at h2;rw[h2,Nat.add_mod_right]
def pW(cs:List ae):∀len,(zN cs len).length=len*cs.length
 |0=>by show([]:List ae).length=_;simp
 |len+1=>by show(cs++zN cs len).length=_;rw[dj,pW cs len,Nat.add_mul,Nat.one_mul,Nat.add_comm]
def D5(cs:List ae)(p:ae->Bool)(h:cs.all p=true):∀len,(zN cs len).all p=true
 |0=>rfl
 |len+1=>by show(cs++zN cs len).all p=true;rw[List.all_append,h,D5 cs p h len];rfl
def Mb{z:ae}{len n:Nat}(hn:z.cells.size=n):hX z (len*n)=(zN z.cells.toList len).toArray:=by
 have hl:z.cells.toList.length=n:=by simpa using hn
 apply Array.ext';apply qy;intro i;unfold hX;split
 ·rename_i h0;have:(zN z.cells.toList len).length=0:=by rw[pW,hl,h0]
  rw[jd.1 this]
 ·rename_i h0;by_cases hi:i<len*n
  ·have e1:(B2 z (len*n)).toList[i]? =some (z.cells[i % z.cells.size]!):=by simp[B2,hi]
   have uR:0<n:=by
    rcases Nat.eq_zero_or_pos n with h|h
    ·subst h;simp at h0
    ·exact h
   have hm:i % n<z.cells.size:=by rw[hn];exact Nat.mod_lt _ uR
   rw[e1,wZ,EG _ _ _ (by rw[hl];exact hi),hl,hn];simp[hm]
  ·rw[nB (by simp[B2];omega),wZ,nB (by rw[pW,hl];omega)]
def g9(P:ag)(R:aj.Fr)(W:AW)(t:ah)(len:Nat)(ps:Array (Nat×ao)):Option (ae×AW):=
 match P.underlying t with
 |some (.slice e)=>match jq P e,iu P e with
  |some n,some z=>
   if len*n<=16777216/\len<eS/\(Nat.beq z.cells.size n&&z.cells.toList.all bZ)=true then
    match wh (λi=>some (i*n,n)) (zN z.cells.toList len).toArray (kV R ps)with
    |some c=>some (W.new (.cells c.toList) λb W'=>(Value.slice (some ⟨b,0,none⟩) len len,W'))
    |none=>none
   else none
  |_,_=>none
 |_=>none
def oJ{P:ag}{R:aj.Fr}{W:AW}{t:ah}{len:Nat}{ps:Array (Nat×ao)}{r:ae×AW}(h:g9 P R W t len ps=some r):kr P R W t len ps=some r:=by
 unfold g9 at h;simp only[yl]at h;unfold kr;revert h;generalize P.underlying t=u;intro h;split at h
 ·rename_i e;revert h;generalize jq P e=x;generalize iu P e=y;intro h;split at h
  ·rename_i n z;split at h
   ·rename_i hc;obtain⟨hc1,Fs,N9⟩:=hc;rw[bm,dp]at N9;have Mr:=Mb (len:=len) N9.1;try simp only
    rw[Mr,ax ⟨hc1,Fs,by rw[wZ];exact D5 _ _ N9.2 _⟩];exact h
   ·cases h
  ·cases h
 ·cases h
def wu(hW:aX σ W w.heap){R:aj.Fr}{ρ:ao->ae}{t:ah}{len:Nat}{ps:Array (Nat×ao)}{v:ae}{W':AW}
 (h:g9 P R W t len ps=some (v,W'))(hρ:∀p∈ps.toList,VR σ (aw R p.2) (ρ p.2)):
 ∃σ' v' w',(Instr.buildSlice t len (ps.map λ(i,x)=>(i,ρ x))).run P w=.ok v' w'/\VR σ' v v'/\aX σ' W' w'.heap/\dE σ W w σ' W' w':=by
 have hp:=uU (σ:=σ) (R:=R) (ρ:=ρ) ps hρ;replace h:=oJ h;unfold kr at h;split at h
 ·rename_i e hu;split at h
  ·rename_i n z hn hz;obtain⟨uf,wP⟩:=fd hz w;split at h
   ·rename_i hc;obtain⟨hc1,Fs,N9⟩:=hc;split at h
    ·rename_i c hf;injection h with h;rw[AW.cF]at h;injection h with hv hw;obtain⟨uh,h1,h2⟩:=sR _ _ _ _ _ _ hp (LR.jt (σ:=σ) (λ_=>dx) N9) hf;have vB:=rF (P:=P) hW e (cs:=c.toList) (bP:=uh.toList) h2;refine⟨_,.slice (some ⟨w.heap.size,0,none⟩) len len,{w with heap:=w.heap.push (.cells uh.toList.toArray e)},?_,?_,by rw[<-hw];exact vB.2.2.1,by rw[<-hw];exact vB.2.2.2⟩
     ·show(Instr.buildSlice t len _).run P w=.ok (.slice (some ⟨w.heap.size,0,none⟩) len len) _;have LB:¬len*n>2^ 24:=by omega
      have B8:=vB.1;simp only[fw]at B8;by_cases h0:len*n=0
      ·rw[nA h0]at h1;simp only[Instr.buildSlice,bJ,bn hu,bG,be hn,ay LB,eh,ax h0];rw[show(Array.map (λx=>(#[]:Array ae)[x % (#[]:Array ae).size]!) (Array.range (len*n)))=#[]by rw[h0];simp,h1];simp[B8]
      ·rw[qd h0]at h1;simp only[Instr.buildSlice,bJ,bn hu,bG,be hn,ay LB,eh,ay h0,uf];rw[show(Array.map (λx=>z.cells[x % z.cells.size]!) (Array.range (len*n)))=B2 z (len*n)from rfl,h1];simp[B8]
     ·rw[<-hv];have:=VR.slice (σ:=bu σ W.next ⟨w.heap.size,0,c.toList.length⟩) ⟨W.next,0,none⟩ len len len _ vB.2.1 rfl (.known len Fs);simpa using this
    ·cases h
   ·cases h
  ·cases h
 ·cases h
def jm(P:ag)(W:AW)(t:ah)(l c:ae):Option (ae×AW):=
 match P.underlying t with
 |some (.slice e)=>match jq P e,iu P e,(P.info? e).map (·.bytes),l,c with
  |some n,some z,some bytes,.int _ (.ofNat l),.int _ (.ofNat c)=>
   if l<=c/\c<9223372036854775808/\c*bytes<=281474976710656/\(hX z (c*n)).toList.all bZ=true then
    some (W.new (.cells (hX z (c*n)).toList) λb W'=>(Value.slice (some ⟨b,0,none⟩) l c,W'))
   else none
  |_,_,_,_,_=>none
 |_=>none
def tH{n:Nat}(h:n<9223372036854775808):IntKind.i64.wrap (n:Int)=n:=by
 have e1:IntKind.i64.bits=64:=rfl;have e2:IntKind.i64.signed=true:=rfl;simp only[IntKind.wrap,e1,e2];have:(n:Int) % (2^ 64:Int)=n:=by omega
 rw[this];simp;omega
def yY(hW:aX σ W w.heap){t:ah}{l l' c c':ae}{v:ae}{W':AW}
 (h:jm P W t l c=some (v,W'))(hl:VR σ l l')(hc:VR σ c c'):
 ∃σ' v' w',(Instr.makeSlice t l' c').run P w=.ok v' w'/\VR σ' v v'/\aX σ' W' w'.heap/\dE σ W w σ' W' w':=by
 unfold jm at h;split at h
 ·rename_i e hu;split at h
  ·rename_i n z bytes kl l kc c hn hz hb;cases hl;cases hc;obtain⟨uf,wP⟩:=fd hz w;split at h
   ·rename_i mU;obtain⟨c1,c2,c3,c4⟩:=mU;injection h with h;rw[AW.cF]at h;injection h with hv hw;have hi:∃i,P.info? e=some i/\i.bytes=bytes:=by
     cases hi:P.info? e with
     |none=>rw[hi]at hb;cases hb
     |some i=>rw[hi]at hb;simp at hb;exact⟨i,rfl,hb⟩
    obtain⟨i,hi,OD⟩:=hi;have Mr:LR σ (hX z (c*n)).toList (hX z (c*n)).toList:=
     LR.jt (λ_=>dx) c4
    have vB:=rF (P:=P) hW e Mr;refine⟨_,.slice (some ⟨w.heap.size,0,none⟩) l c,{w with heap:=w.heap.push (.cells (hX z (c*n)).toList.toArray e)},?_,?_,by rw[<-hw];exact vB.2.2.1,by rw[<-hw];exact vB.2.2.2⟩
    ·show(Instr.makeSlice t _ _).run P w=.ok (.slice (some ⟨w.heap.size,0,none⟩) l c) _;have hwl:IntKind.i64.wrap (Int.ofNat l)=(l:Int):=tH (by omega);have hwc:IntKind.i64.wrap (Int.ofNat c)=(c:Int):=tH c2;have yI:(typeInfo e).run P w=.ok i w:=by simp[typeInfo,hi]
     have ZA:(bytes:Int)*(c:Int)<=281474976710656:=by
      have:((c*bytes:Nat):Int)<=281474976710656:=by omega
      rw[Int.natCast_mul,Int.mul_comm]at this;exact this
     have B8:=vB.1;simp only[fw]at B8;have F8:¬(((decide ((c:Int)<0)||decide ((i.bytes:Int)*(c:Int)>2^ 48))||decide ((l:Int)<0)||decide ((l:Int)>(c:Int)))=true):=by rw[OD];simp;omega
     simp only[Instr.makeSlice,bJ,bn hu,bG,asInt,asIntOf,eh,yI,hwl,hwc];rw[ay (by simpa using F8)];by_cases h0:c*n=0
     ·rw[nA h0]at B8|-;simp only[bJ,run_askRoom,bG,nG,be hn,ax h0,eh];rw[show(Array.map (λx=>(#[]:Array ae)[x % (#[]:Array ae).size]!) (Array.range (c*n)))=#[]by rw[h0];simp,B8];simp
     ·rw[qd h0]at B8|-;simp only[bJ,run_askRoom,bG,nG,be hn,ay h0,uf,eh];rw[show(Array.map (λx=>z.cells[x % z.cells.size]!) (Array.range (c*n)))=B2 z (c*n)from rfl,B8];simp
    ·rw[<-hv];have:=VR.slice (σ:=bu σ W.next ⟨w.heap.size,0,(hX z (c*n)).toList.length⟩) ⟨W.next,0,none⟩ l c c _ vB.2.1 rfl (.known c (by unfold eS;omega));simpa using this
   ·cases h
  ·cases h
 ·cases h
end
end
section
variable [aj]
def OR(σ:cm):Option ae->Option ae->Prop
 |none,none=>True
 |some v,some v'=>VR σ v v'
 |_,_=>False
def iX:ae->Option Nat
 |.int _ (.ofNat n)=>some n
 |_=>none
def eW(v:Option ae)(d:Nat):Option Nat:=match v with|none=>some d|some v=>iX v
def qk{σ:cm}{v v':ae}{n:Nat}(h:iX v=some n)(hv:VR σ v v'):∃k,v'=.int k (n:Int):=by
 unfold iX at h;split at h
 ·injection h with h;subst h;cases hv;exact⟨_,rfl⟩
 ·cases h
section
variable {P:ag} {σ:cm} {W:AW} {w:ap}
def iR(k:aK)(n y:Nat)(pI:BoundsCode)(h:n<=y)(w:ap):(Instr.sliceBound (.int k (n:Int)) y pI).run P w=.ok n w:=by
 have:0<=(n:Int)/\(n:Int)<=(y:Int):=by omega
 simp[Instr.sliceBound,asIntOf,this]
def jU(sl:Bool)(len cap:Nat){lo hi mx OU mJ Wb:Option ae}{l h m:Nat}(h1:OR σ lo OU)(h2:OR σ hi mJ)(h3:OR σ mx Wb)
 (hl:eW lo 0=some l)(hh:eW hi len=some h)(hm:eW mx cap=some m)(hmx:mx.isSome=true->hi.isSome=true)
 (a1:l<=h)(a2:hi.isSome=true->h<=m)(a3:m<=cap)(w:ap):(Instr.sliceBounds sl len cap OU mJ Wb).run P w=.ok (l,h,m) w:=by
 have one:∀{v v':Option ae} {d n:Nat},OR σ v v'->eW v d=some n->(v=none/\v'=none/\n=d)\/(v.isSome=true/\∃k,v'=some (.int k (n:Int))):=by
  intro v v' d n ho hb;cases v with
  |none=>cases v' with
   |none=>simp only[eW]at hb;injection hb with hb;exact .inl ⟨rfl,rfl,hb.symm⟩
   |some v'=>exact ho.elim
  |some v=>cases v' with
   |none=>exact ho.elim
   |some v'=>obtain⟨k,rfl⟩:=qk hb ho;exact .inr ⟨rfl,k,rfl⟩
 have hA:∀k pI,(Instr.sliceBound (.int k (m:Int)) cap pI).run P w=.ok m w:=λk pI=>iR k m cap pI a3 w
 have hC:∀k pI,(Instr.sliceBound (.int k (l:Int)) h pI).run P w=.ok l w:=λk pI=>iR k l h pI a1 w
 rcases one h3 hm with⟨e1,rfl,e3⟩|⟨e1,k3,rfl⟩
 ·subst e3;rcases one h2 hh with⟨f1,rfl,f3⟩|⟨f1,k2,rfl⟩
  ·subst f3;rcases one h1 hl with⟨g1,rfl,g3⟩|⟨g1,k1,rfl⟩
   ·subst g3;simp[Instr.sliceBounds]
   ·simp[Instr.sliceBounds,hC]
  ·have hB:∀pI,(Instr.sliceBound (.int k2 (h:Int)) m pI).run P w=.ok h w:=λpI=>iR k2 h m pI (a2 f1) w
   rcases one h1 hl with⟨g1,rfl,g3⟩|⟨g1,k1,rfl⟩
   ·subst g3;simp[Instr.sliceBounds,hB]
   ·simp[Instr.sliceBounds,hB,hC]
 ·rcases one h2 hh with⟨f1,rfl,f3⟩|⟨f1,k2,rfl⟩
  ·subst f1;exact absurd (hmx e1) (by simp)
  ·have hB:∀pI,(Instr.sliceBound (.int k2 (h:Int)) m pI).run P w=.ok h w:=λpI=>iR k2 h m pI (a2 f1) w
   rcases one h1 hl with⟨g1,rfl,g3⟩|⟨g1,k1,rfl⟩
   ·subst g3;simp[Instr.sliceBounds,hA,hB]
   ·simp[Instr.sliceBounds,hA,hB,hC]
def jS(P:ag)(t:ah)(x:ae)(lo hi mx:Option ae):Option ae:=
 match P.underlying t,x with
 |some (.slice e),.slice (some a) len cap=>
  match jq P e,eW lo 0,eW hi len with
  |some z,some l,some h=>
   if l<=h then
    match mx with
    |none=>
     if cap=eS+z/\0<z then(if h<=len then some (.slice (some (a.add (l*z))) (h-l) cap)else none)
     else if cap<eS/\h<=cap then some (.slice (some (if cap=l then a else a.add (l*z))) (h-l) (cap-l))else none
    |some mv=>match eW (some mv) 0 with
     |some m=>if hi.isSome=true/\h<=m/\m<eS/\((cap=eS+z/\0<z/\m<=len)\/(cap<eS/\m<=cap))then some (.slice (some (if m=l then a else a.add (l*z))) (h-l) (m-l))else none
     |none=>none
   else none
  |_,_,_=>none
 |some (.slice e),.slice none len cap=>
  match jq P e,eW lo 0,eW hi len,mx with
  |some _,some l,some h,none=>if l<=h/\h<=cap then some (.slice none (h-l) (cap-l))else none
  |_,_,_,_=>none
 |some (.array n e),.pointer (some a)=>
  match jq P e,eW lo 0,eW hi n,mx with
  |some z,some l,some h,none=>if l<=h/\h<=n/\n<eS then some (.slice (some (if n=l then a else a.add (l*z))) (h-l) (n-l))else none
  |_,_,_,_=>none
 |_,_=>none
def BC.inv{g:pY}{off l c c':Nat}(h:BC g off l c c'):(c<eS/\c'=c)\/∃z,0<z/\c=eS+z/\l<=c'/\g.s+off+c'*z=g.e:=by
 cases h with
 |known _ h=>exact .inl ⟨h,rfl⟩
 |open_ z _ hz hl h=>exact .inr ⟨z,hz,rfl,hl,h⟩
def BC.max{g:pY}{off l c c':Nat}(h:BC g off l c c'):c'<eS/\(eS<=c->c'<=maxLen):=by
 cases h with
 |known _ h=>exact⟨h,λx=>absurd x (by omega)⟩
 |open_ z _ hz hl h hb=>exact⟨by unfold maxLen at hb;unfold eS;omega,λ_=>hb⟩
def Hk{t:ah}{x x' v:ae}{lo hi mx OU mJ Wb:Option ae}(h:jS P t x lo hi mx=some v)(hx:VR σ x x')
 (h1:OR σ lo OU)(h2:OR σ hi mJ)(h3:OR σ mx Wb)(w:ap):∃v',(Instr.sliceAt t x' OU mJ Wb).run P w=.ok v' w/\VR σ v v':=by
 unfold jS at h;split at h
 ·rename_i e a len cap hu;split at h
  ·rename_i z l hh hz HT hhi;split at h
   ·rename_i hlh;have run:∀(A':Option aM) (yS m:Nat),eW mx yS=some m->(mx.isSome=true->hi.isSome=true)->(hi.isSome=true->hh<=m)->m<=yS->
     (Instr.sliceAt t (.slice A' len yS) OU mJ Wb).run P w=.ok (.slice (if m=l then A' else A'.map (·.add (l*z))) (hh-l) (m-l)) w:=by
     intro A' yS m b1 b2 b3 b4;have hb:=jU (P:=P) true len yS h1 h2 h3 HT hhi b1 b2 hlh b3 b4 w;simp only[Instr.sliceAt,bJ,bn hu,bG,Instr.slice,hb,be hz,eh]
    cases mx with
    |none=>
     simp only at h;split at h
     ·rename_i nu;obtain⟨rfl,IL⟩:=nu;split at h
      ·rename_i bk;injection h with h;subst h;cases hx with
       |slice _ _ _ c' g hg hs hc=>
        rcases hc.inv with⟨hk,_⟩|⟨z',uf,SQ,RR,rM⟩
        ·exact absurd hk (by omega)
        ·refine⟨_,run (some _) c' c' rfl (by simp) (λ_=>by omega) (aS _),?_⟩;by_cases oI:c'=l
         ·subst oI;have:hh-c'=0:=by omega
          rw[this,mp,ax rfl];exact .cD _ _ _ g (by simpa[ff]using hg) (.inr (by omega))
         ·rw[ay oI];simp only[bR,cO];have ado:z=z':=by omega
          subst ado;have:=VR.slice (σ:=σ) (a.add (l*z)) (hh-l) (eS+z) (c'-l) g (by rw[ff];exact hg) (kJ _ _ hs)
           (by rw[lU];refine .open_ z _ IL (by omega) ?_ (fK (Nat.sub_le _ _) (hc.max.2 (by omega)));rw[Nat.sub_mul];have:l*z<=c'*z:=oB _ (by omega);omega)
          rw[lU]at this;simpa[jW]using this
       |cD _ a' _ g hg hc=>
        have CE:hh=0:=by omega
        have Fc:l=0:=by omega
        subst CE;subst Fc;refine⟨_,run (some a') 0 0 rfl (by simp) (λ_=>by omega) (aS _),?_⟩;simp only[bc];exact .cD _ _ _ g (by simpa[ff]using hg) (.inr (by omega))
      ·cases h
     ·split at h
      ·rename_i rj la;injection h with h;subst h;cases hx with
       |slice _ _ _ c' g hg hs hc=>
        rcases hc.inv with⟨hk,rfl⟩|⟨z',uf,SQ,RR,rM⟩
        ·refine⟨_,run (some _) c' c' rfl (by simp) (λ_=>la.2) (aS _),?_⟩;by_cases oI:c'=l
         ·subst oI;simp only[bc];exact .slice a _ _ _ g hg hs (.known _ (by omega))
         ·rw[ay oI,ay oI];simp only[bR,cO];have:=VR.slice (σ:=σ) (a.add (l*z)) (hh-l) (c'-l) (c'-l) g (by rw[ff];exact hg) (kJ _ _ hs) (.known _ (by omega));rw[lU]at this;simpa[jW]using this
        ·exact absurd la.1 (by omega)
       |cD _ a' _ g hg hc=>
        have hc0:cap=0:=by omega
        subst hc0;have CE:hh=0:=by omega
        have Fc:l=0:=by omega
        subst CE;subst Fc;refine⟨_,run (some a') 0 0 rfl (by simp) (λ_=>by omega) (aS _),?_⟩;simp only[bc];exact .cD _ _ _ g (by simpa[ff]using hg) (.inl rfl)
      ·cases h
    |some mv=>
     simp only at h;split at h
     ·rename_i m hm;split at h
      ·rename_i mU;obtain⟨c1,c2,c3,c4⟩:=mU;injection h with h;subst h;cases hx with
       |slice _ _ _ c' g hg hs hc=>
        have hmc:m<=c':=by rcases hc.inv with⟨hk,_⟩|⟨z',uf,SQ,RR,rM⟩<;>omega
        refine⟨_,run (some _) c' m hm (λ_=>c1) (λ_=>c2) hmc,?_⟩;by_cases oI:m=l
        ·subst oI;simp only[bc];exact .slice a _ _ _ g hg hs (.known _ (by omega))
        ·rw[ay oI,ay oI];simp only[bR,cO];have:=VR.slice (σ:=σ) (a.add (l*z)) (hh-l) (m-l) (m-l) g (by rw[ff];exact hg) (kJ _ _ hs) (.known _ (by omega));rw[lU]at this;simpa[jW]using this
       |cD _ a' _ g hg hc=>
        have hm0:m=0:=by omega
        subst hm0;have CE:hh=0:=by omega
        have Fc:l=0:=by omega
        subst CE;subst Fc;refine⟨_,run (some a') 0 0 hm (λ_=>c1) (λ_=>by omega) (aS _),?_⟩;simp only[bc];exact .cD _ _ _ g (by simpa[ff]using hg) (.inl rfl)
      ·cases h
     ·cases h
   ·cases h
  ·cases h
 ·rename_i e len cap hu;split at h
  ·rename_i z l hh hz HT hhi;split at h
   ·rename_i hc;injection h with h;subst h;cases hx;have hb:=jU (P:=P) (mx:=none) true len cap h1 h2 h3 HT hhi rfl (by simp) hc.1 (λ_=>hc.2) (aS _) w;refine⟨.slice none (hh-l) (cap-l),?_,.zn _ _⟩;simp only[Instr.sliceAt,bJ,bn hu,bG,Instr.slice,hb,be hz,eh];simp
   ·cases h
  ·cases h
 ·rename_i n e a hu;split at h
  ·rename_i z l hh hz HT hhi;split at h
   ·rename_i hc;injection h with h;subst h;cases hx with
    |ptr _ g hg hs=>
     have hb:=jU (P:=P) (mx:=none) false n n h1 h2 h3 HT hhi rfl (by simp) hc.1 (λ_=>hc.2.1) (aS _) w;refine⟨.slice (some (if n=l then⟨g.B,g.s+a.off,none⟩else(⟨g.B,g.s+a.off,none⟩:aM).add (l*z))) (hh-l) (n-l),?_,?_⟩
     ·simp only[Instr.sliceAt,bJ,bn hu,bG,Instr.sureAddr,eh,hb,be hz]
     ·by_cases oI:n=l
      ·subst oI;simp only[bc];exact .slice a _ _ _ g hg hs (.known _ (by omega))
      ·rw[ay oI,ay oI];simp only[cO];have:=VR.slice (σ:=σ) (a.add (l*z)) (hh-l) (n-l) (n-l) g (by rw[ff];exact hg) (kJ _ _ hs) (.known _ (by omega));rw[lU]at this;simpa[jW]using this
   ·cases h
  ·cases h
 ·cases h
end
end
section
variable [aj]
section
variable {P:ag} {σ:cm} {W:AW} {w w':ap}
def aX.Cj(h:aX σ W w.heap){b off:Nat}{o o':de}{g:pY}(hb:W.get b=some o)(lT:∀cs,o≠ .ro cs)(hg:σ b=some g)
 (mK:w'.heap.size=w.heap.size)(K2:w'.os=w.os)(Ni:w'.tape=w.tape)(vt:w'.output=w.output)
 (gx:∀B,B≠g.B->w'.heap[B]? =w.heap[B]?)
 {c c':Array ae}{t:ah}(hc:w.heap[g.B]? =some (.cells c t (0,0)))(qU:w'.heap[g.B]? =some (.cells c' t (0,0)))(mI:c'.size=c.size)
 (pR:∀i,i<g.s+off\/g.e<=i->c'[i]? =c[i]?)
 (jJ:jh (bu σ W.next ⟨g.B,g.s+off,g.e⟩) w'.heap ⟨g.B,g.s+off,g.e⟩ o'):
 aX (bu σ W.next ⟨g.B,g.s+off,g.e⟩) ((W.kill b).add o') w'.heap/\dE σ W w (bu σ W.next ⟨g.B,g.s+off,g.e⟩) ((W.kill b).add o') w':=by
 have zA:=h.fresh;have hs:Sub σ (bu σ W.next ⟨g.B,g.s+off,g.e⟩):=cA zA;have HN:=h.lH b g hg;have hk:∀c o,c≠W.next->((W.kill b).add o').get c=some o->c≠b/\W.get c=some o:=λc o hcn hx=>by
  rw[AW.aZ _ _ (by rw[AW.dm];exact bL hcn)]at hx;by_cases AI:c=b
  ·subst AI;rw[AW.ta]at hx;cases hx
  ·rw[AW.db _ (bL AI)]at hx;exact⟨AI,hx⟩
 have YS:((W.kill b).add o').get W.next=some o':=AW.bf (W.kill b) _;have lu:∀c k,bu σ W.next ⟨g.B,g.s+off,g.e⟩ c=some k->(c=W.next/\k=⟨g.B,g.s+off,g.e⟩)\/(c≠W.next/\σ c=some k):=λc k hx=>by
  unfold bu at hx;split at hx
  ·rename_i he;injection hx with hx;exact .inl ⟨he,hx.symm⟩
  ·rename_i he;exact .inr ⟨he,hx⟩
 have Uw:∀cs,W.get b≠some (.ro cs):=λcs hx=>by rw[hb]at hx;injection hx with hx;exact lT cs hx
 refine⟨⟨?_,?_,?_,?_⟩,⟨hs,?_,?_,K2,Ni,vt,?_,?_,?_⟩⟩
 ·intro x hx;have Fo:W.next+1<=x:=hx;cases hy:((W.kill b).add o').get x with
  |none=>rfl
  |some o=>have:=(hk x o (by omega) hy).2;rw[h.free x (by omega)]at this;cases this
 ·intro x k hx;rcases lu x k hx with⟨rfl,rfl⟩|⟨_,h2⟩
  ·exact⟨Nat.lt_succ_self _,by rw[mK];exact HN.2⟩
  ·have:=h.lH x k h2;exact⟨Nat.lt_succ_of_lt this.1,by rw[mK];exact this.2⟩
 ·intro x o2 k hx hy;rcases lu x k hy with⟨rfl,rfl⟩|⟨h1,h2⟩
  ·rw[YS]at hx;injection hx with hx;subst hx;exact jJ
  ·obtain⟨KR,TU⟩:=hk x o2 h1 hx;refine jh.mono hs ?_;have dH:=h.obj x o2 k TU h2;by_cases hB:k.B=g.B
   ·have hd:=h.lP x b o2 _ k g KR TU hb h2 hg (rwR lT);have fx:k.e<=g.s\/g.e<=k.s:=hd.resolve_left (λdQ=>dQ hB);cases o2 with
    |cells zS=>obtain⟨c0,t0,RG,e1,e0,e2,e3,e4⟩:=dH;rw[hB,hc]at e1;injection e1 with e1;injection e1 with e1 OM;subst e1;refine⟨c',t,(0,0),by rw[hB];exact qU,λ_=>rfl,e2,by omega,λi v hv=>?_⟩;obtain⟨v',f1,f2⟩:=e4 i v hv;have hi:i<zS.length:=(cr.1 hv).1;exact⟨v',by rw[pR _ (by omega)];exact f1,f2⟩
    |ro zS=>obtain⟨c0,t0,fr,e1,e2,e3⟩:=dH;rw[hB,hc]at e1;injection e1 with e1;injection e1 with e1 OM;subst e1;refine⟨c',t,(0,0),by rw[hB];exact qU,e2,λi v hv=>?_⟩;have hi:i<zS.length:=(cr.1 hv).1;obtain⟨v',f1,f2⟩:=e3 i v hv;exact⟨v',by rw[pR _ (by omega)];exact f1,f2⟩
    |map es gU=>obtain⟨_,_,eR,e1,_⟩:=dH;rw[hB,hc]at e1;cases e1
    |loop st jF R nt ps ajb bd=>obtain⟨_,_,r,e1,_⟩:=dH;rw[hB,hc]at e1;cases e1
    |jy s pos=>obtain⟨_,_,e1⟩:=dH;rw[hB,hc]at e1;cases e1
    |tc t2 zS=>obtain⟨a1,a2,a3,c0,e1,e2,e3,e4⟩:=dH;rw[hB,hc]at e1;injection e1 with e1;injection e1 with e1 OM;subst e1;subst OM;refine⟨a1,a2,a3,c',by rw[hB];exact qU,e2,by omega,λi v hv=>?_⟩;obtain⟨v',f1,f2⟩:=e4 i v hv;have hi:i<zS.length:=(cr.1 hv).1;exact⟨v',by rw[pR _ (by omega)];exact f1,f2⟩
   ·exact dH.same (gx _ hB)
 ·intro b1 b2 o1 o2 g1 g2 dQ h1 h2 k1 k2 hr;have sub:∀x o2 k,x≠W.next->((W.kill b).add o').get x=some o2->σ x=some k->g.B≠k.B\/g.e<=k.s\/k.e<=g.s+off:=λx o2 k V9 hx Ym=>by
   obtain⟨KR,TU⟩:=hk x o2 V9 hx;rcases h.lP b x _ o2 g k (bL KR) hb TU hg Ym (rwL lT)with r|r|r
   ·exact .inl r
   ·exact .inr (.inl r)
   ·exact .inr (.inr (by omega))
  rcases lu b1 g1 k1 with⟨rfl,rfl⟩|⟨x1,y1⟩
  ·rcases lu b2 g2 k2 with⟨rfl,rfl⟩|⟨x2,y2⟩
   ·exact absurd rfl dQ
   ·exact sub b2 o2 g2 x2 h2 y2
  ·rcases lu b2 g2 k2 with⟨rfl,rfl⟩|⟨x2,y2⟩
   ·rcases sub b1 o1 g1 x1 h1 y1 with r|r|r
    ·exact .inl (bL r)
    ·exact .inr (.inr r)
    ·exact .inr (.inl r)
   ·exact h.lP _ _ _ _ _ _ dQ (hk _ _ x1 h1).2 (hk _ _ x2 h2).2 y1 y2 hr
 ·intro x cs0 hx;have KR:x≠b:=λe=>by subst e;exact Uw cs0 hx
  have V9:W.next≠x:=λe=>by subst e;rw[h.free _ (aS _)]at hx;cases hx
  rw[AW.aZ _ _ (by rw[AW.dm];exact V9),AW.db _ (bL KR)];exact hx
 ·rw[mK];exact aS _
 ·intro B hB hm;exact gx B (λe=>by subst e;exact hm ⟨b,g,hg,rfl,Uw⟩)
 ·intro x o2 hx Ym;have KR:x≠b:=λe=>by subst e;rw[hg]at Ym;cases Ym
  have V9:W.next≠x:=λe=>by subst e;rw[h.free _ (aS _)]at hx;cases hx
  refine⟨by rw[AW.aZ _ _ (by rw[AW.dm];exact V9),AW.db _ (bL KR)];exact hx,?_⟩;unfold bu;rw[ay (bL V9)];exact Ym
 ·intro x k B4 hB;rcases lu x k B4 with⟨rfl,rfl⟩|⟨h1,h2⟩
  ·exact .inr ⟨b,g,hg,rfl,Uw⟩
  ·exact .inl h2
def aX.Sl(h:aX σ W w.heap){b off:Nat}{cs bP:List ae}{g:pY}(hb:W.get b=some (.cells cs))(hg:σ b=some g)
 (mK:w'.heap.size=w.heap.size)(K2:w'.os=w.os)(Ni:w'.tape=w.tape)(vt:w'.output=w.output)
 (gx:∀B,B≠g.B->w'.heap[B]? =w.heap[B]?)
 {c c':Array ae}{t:ah}(hc:w.heap[g.B]? =some (.cells c t (0,0)))(qU:w'.heap[g.B]? =some (.cells c' t (0,0)))(mI:c'.size=c.size)
 (pR:∀i,i<g.s+off\/g.e<=i->c'[i]? =c[i]?)(dy:g.s+off+bP.length<=g.e)
 (iU:∀(i:Nat) (v:ae),bP[i]? =some v->∃v',c'[g.s+off+i]? =some v'/\VR σ v v'):
 aX (bu σ W.next ⟨g.B,g.s+off,g.e⟩) ((W.kill b).add (.cells bP)) w'.heap/\dE σ W w (bu σ W.next ⟨g.B,g.s+off,g.e⟩) ((W.kill b).add (.cells bP)) w':=by
 obtain⟨c0,t0,RG,q1,q0,q2,q3,q4⟩:=h.obj b _ g hb hg;rw[hc]at q1;injection q1 with q1;injection q1 with q1 q1';subst q1;refine h.Cj hb (λ_=>by simp) hg mK K2 Ni vt gx hc qU mI pR ⟨c',t,(0,0),qU,λ_=>rfl,dy,by simp only;omega,λi v hv=>?_⟩;obtain⟨v',f1,f2⟩:=iU i v hv;exact⟨v',f1,f2.mono (cA h.fresh)⟩
def bC(W:AW)(x:ae)(m:Nat):Option (List ae):=
 match x with
 |.slice none _ _=>if m=0 then some []else none
 |.slice (some a) len _=>if m=0 then some []else if len=0 then none else iZ W a.block a.off m
 |_=>none
def qV(h:aX σ W w.heap){x x':ae}{n z:Nat}{l:List ae}(hr:bC W x (n*z)=some l)(hx:VR σ x x'):
 ∃l',LR σ l l'/\l.length=n*z/\(Builtin.firstCells z n x').run P w=.ok l'.toArray w:=by
 have h0:∀(a':aM),(loadCells a' 0).run P w=.ok #[] w:=λa'=>by simp[loadCells,loadCellsFrom]
 unfold bC at hr;split at hr
 ·split at hr
  ·rename_i hm;injection hr with hr;subst hr;cases hx;exact⟨[],.nil,by simp[hm],by simp[Builtin.firstCells]⟩
  ·cases hr
 ·rename_i a _ _;split at hr
  ·rename_i hm;injection hr with hr;subst hr;cases hx
   ·exact⟨[],.nil,by simp[hm],by simp[Builtin.firstCells,hm,h0]⟩
   ·exact⟨[],.nil,by simp[hm],by simp[Builtin.firstCells,hm,h0]⟩
  ·rename_i hm;split at hr
   ·cases hr
   ·rename_i CE;cases hx with
    |slice _ _ _ c' g hg hs hc=>obtain⟨l',h1,h2,_,h4⟩:=vd (P:=P) h hr hg;exact⟨l',h1,h2,by simp[Builtin.firstCells,h4]⟩
    |cD _ a' _ g hg hc=>exact absurd rfl CE
 ·cases hr
def J4(zp:Nat):∀(r c:Nat),c<=2*zp+192->Builtin.growBy zp r c<=2*zp+192:=by
 intro r;induction r with
 |zero=>intro c h;exact h
 |succ r ih=>
  intro c h;simp only[Builtin.growBy];split
  ·exact h
  ·exact ih _ (by omega)
def ss{zp c:Nat}(h:c<zp):Builtin.nextslicecap zp c<=2*zp+192:=by
 unfold Builtin.nextslicecap;split
 ·omega
 ·split
  ·omega
  ·exact J4 zp 4 c (by omega)
def g8(P:ag)(t:ah):Option ah:=match P.underlying t with|some (.slice e)=>some e|_=>none
def kn{t e:ah}(h:g8 P t=some e):P.underlying t=some (.slice e):=by
 unfold g8 at h;split at h
 ·rename_i e' hu;injection h with h;subst h;exact hu
 ·cases h
def aN(P:ag)(W:AW)(argTypes:Array ah)(s x:ae):Option (ae×AW):=
 match argTypes.toList with
 |[t0,t1]=>if t0=t1 then
  match g8 P t0,s,x with
  |some e,.slice base bg ru,.slice xb n xc=>match jq P e,(P.info? e).map (λi=>(i.zero,i.bytes))with
   |some z,some (some zv,bytes)=>
    if 0<z/\zv.cells.size=z/\bg+n<1099511627776/\(2*(bg+n)+192)*bytes<=281474976710656 then
     if n=0 then(if bg<=ru then some (s,W)else none)
     else match bC W (.slice xb n xc) (n*z),bC W s (bg*z)with
      |some new,some lI=>
       if new.all one=true then
        if ru=eS+z then
         match base with
         |some a=>match W.get a.block with
          |some (.cells _)=>some ((W.kill a.block).new (.cells (lI++new)) λb W'=>(Value.slice (some ⟨b,0,none⟩) (bg+n) (eS+z),W'))
          |some (.tc e' cs)=>if e=e'/\z=1/\a.off=0/\cs.length=bg/\bg≠0/\aj.ex e=false then some ((W.kill a.block).new (.tc e (cs++new)) λb W'=>(Value.slice (some ⟨b,0,none⟩) (bg+n) (eS+1),W'))else none
          |_=>none
         |none=>none
        else if ru<eS then
         match base with
         |some a=>
          if bg+n<=ru then(jQ W a.block (a.off+bg*z) new).map λW'=>(Value.slice (some a) (bg+n) ru,W')
          else some (W.new (.cells (lI++new)) λb W'=>(Value.slice (some ⟨b,0,none⟩) (bg+n) (eS+z),W'))
         |none=>if bg=0/\ru=0 then some (W.new (.cells (lI++new)) λb W'=>(Value.slice (some ⟨b,0,none⟩) (bg+n) (eS+z),W'))else none
        else none
       else none
      |_,_=>none
    else none
   |_,_=>none
  |_,_,_=>none
  else none
 |_=>none
def ip(zero:Array ae)(n:Nat):(Builtin.zeroCells zero n).size=n*zero.size:=by simp[Builtin.zeroCells]
def Dj(hW:aX σ W w.heap)(e:ah){z:Nat}{zv:ae}{lI new iV fD:List ae}{k:Nat}(cap:Nat)
 (h1:LR σ lI iV)(h2:LR σ new fD)(hz:zv.cells.size=z)(IL:0<z)(dy:lI.length+new.length=k*z)(la:k<=cap/\cap<=maxLen):
 VR (bu σ W.next ⟨w.heap.size,0,cap*z⟩) (.slice (some ⟨W.next,0,none⟩) k (eS+z)) (.slice (some ⟨w.heap.size,0,none⟩) k cap)/\
  aX (bu σ W.next ⟨w.heap.size,0,cap*z⟩) (W.add (.cells (lI++new))) ((w.drew.alloc (.cells (iV.toArray++fD.toArray++Builtin.zeroCells zv.cells (cap-k)) e)).heap)/\
  dE σ W w (bu σ W.next ⟨w.heap.size,0,cap*z⟩) (W.add (.cells (lI++new))) (w.drew.alloc (.cells (iV.toArray++fD.toArray++Builtin.zeroCells zv.cells (cap-k)) e)):=by
 have mK:(iV.toArray++fD.toArray++Builtin.zeroCells zv.cells (cap-k)).size=cap*z:=by have af4:=la.1;simp only[Array.size_append,rI,ip,hz,<-h1.1,<-h2.1];rw[dy,<-Nat.add_mul];congr 1;omega
 have:=hW.alloc (o:=.cells (lI++new)) (x:=.cells (iV.toArray++fD.toArray++Builtin.zeroCells zv.cells (cap-k)) e) (e:=cap*z) (by
  refine⟨iV.toArray++fD.toArray++Builtin.zeroCells zv.cells (cap-k),e,(0,0),by rw[nz];simp,λ_=>rfl,?_,by rw[mK];exact aS _,λi v hv=>?_⟩
  ·simp only[dj,dy,aU];exact oB _ la.1
  ·obtain⟨v',a,b⟩:=(h1.append h2).get hv;refine⟨v',?_,b.mono (cA hW.fresh)⟩;have hi:i<(iV++fD).length:=(cr.1 a).1;rw[aU,tQ];rw[ax (by simpa using hi)];simpa using a);have hv:=VR.slice (σ:=bu σ W.next ⟨w.heap.size,0,cap*z⟩) ⟨W.next,0,none⟩ k (eS+z) cap ⟨w.heap.size,0,cap*z⟩ cz rfl (.open_ z cap IL la.1 (by simp) la.2);exact⟨by simpa using hv,this.1,⟨this.2.sub,this.2.ro,this.2.size,rfl,rfl,rfl,this.2.dD,this.2.ghost,this.2.grow⟩⟩
def CW(P:ag)(w:ap)(t ty e:ah)(z:Nat)(base:Option aM)(bg c' xc:Nat)(xb:Option aM)
 (hu:P.underlying t=some (.slice e))(hz:jq P e=some z)(bk:bg<=c'):
 (Builtin.append_ #[t,t] ty #[.slice base bg c',.slice xb 0 xc]).run P w=.ok (.slice base bg c') w:=by
 have h0:∀(a':aM),(loadCells a' 0).run P w=.ok #[] w:=λa'=>by simp[loadCells,loadCellsFrom]
 cases base<;>cases xb<;>simp[Builtin.append_,bn hu,be hz,Builtin.lenOf,bk,Builtin.firstCells,h0,storeCells]
def pL(P:ag)(w w2:ap)(t ty e:ah)(z:Nat)(b off bg c' n xc:Nat)(xb:Option aM)(fD:List ae)
 (hu:P.underlying t=some (.slice e))(hz:jq P e=some z)
 (jJ:(Builtin.firstCells z n (.slice xb n xc)).run P w=.ok fD.toArray w)(bk:bg+n<=c')(my:(storeCells ⟨b,off+bg*z,none⟩ fD).run P w=.ok () w2):
 (Builtin.append_ #[t,t] ty #[.slice (some ⟨b,off,none⟩) bg c',.slice xb n xc]).run P w=.ok (.slice (some ⟨b,off,none⟩) (bg+n) c') w2:=by
 simp[Builtin.append_,bn hu,be hz,Builtin.lenOf,bk,jJ,cO,my]
def AJ{e:ah}{zo:Option ae}{bytes z:Nat}(h:(P.info? e).map (λi=>(i.zero,i.bytes))=some (zo,bytes))(hz:jq P e=some z):
 ∃i,P.info? e=some i/\i.zero=zo/\i.bytes=bytes/\i.size=z:=by
 obtain⟨i,hi,h1,_⟩:=uN hz;rw[hi]at h;simp at h;exact⟨i,hi,h.1,h.2,h1⟩
def fC(h:aX σ W w.heap){A:Option aM}{n c z:Nat}{x':ae}{l:List ae}(hr:bC W (.slice A n c) (n*z)=some l)(hx:VR σ (.slice A n c) x')(hn:0<n*z):
 ∃a' c' l',x'=.slice (some a') n c'/\LR σ l l'/\l.length=n*z/\(∀j v,l'[j]? =some v->w.cell? (a'.add j)=some v):=by
 unfold bC at hr;split at hr
 ·rw[bX]at hr;cases hr
 ·rename_i a len cc rM;injection rM with e1 e2 e3;rw[bX]at hr;split at hr
  ·cases hr
  ·rename_i CE;subst e1;subst e2;cases hx with
   |slice _ _ _ c' g hg hs hc=>obtain⟨l',h1,h2,h3,_⟩:=vd (P:=(default:ag)) h hr hg;exact⟨_,c',l',rfl,h1,h2,λj v hj=>by rw[cO];exact h3 j v hj⟩
   |cD _ a' _ g hg hc=>exact absurd rfl CE
 ·cases hr
def IB(zp lI:Nat)(e:ah)(t:Nat):zp<=(Question.appendCap zp lI e).cut t:=by simp only[Question.cut];omega
def BI(hW:aX σ W w.heap)(e:ah){cs bP:List ae}{zs:Array ae}{cap:Nat}(h1:LR σ cs bP)(la:cs.length+zs.size=cap)(h0:0<cs.length)(hm:cap<=maxLen)(zC:aj.ex e=false){c:Array ae}(hc:c=bP.toArray++zs):
 VR (bu σ W.next ⟨w.heap.size,0,cap⟩) (.slice (some ⟨W.next,0,none⟩) cs.length (eS+1)) (.slice (some ⟨w.heap.size,0,none⟩) cs.length cap)/\
  aX (bu σ W.next ⟨w.heap.size,0,cap⟩) (W.add (.tc e cs)) ((w.drew.alloc (.cells c e)).heap)/\
  dE σ W w (bu σ W.next ⟨w.heap.size,0,cap⟩) (W.add (.tc e cs)) (w.drew.alloc (.cells c e)):=by
 subst hc;have hl:=h1.1;have mK:(bP.toArray++zs).size=cap:=by simp only[Array.size_append,rI];omega
 have:=hW.alloc (o:=.tc e cs) (x:=.cells (bP.toArray++zs) e) (e:=cap) (by refine⟨rfl,by simp only;omega,⟨hm,λhx=>by rw[zC]at hx;cases hx⟩,bP.toArray++zs,by rw[nz];simp,by simp only;omega,by simp only;omega,λi v hv=>?_⟩;obtain⟨v',a,b⟩:=h1.get hv;refine⟨v',?_,b.mono (cA hW.fresh)⟩;have hi:i<bP.length:=(cr.1 a).1;rw[tQ,ax (by simpa using hi)];simpa using a);have hv:=VR.slice (σ:=bu σ W.next ⟨w.heap.size,0,cap⟩) ⟨W.next,0,none⟩ cs.length (eS+1) cap ⟨w.heap.size,0,cap⟩ cz rfl (.open_ 1 cap (by omega) (by omega) (by simp) hm);exact⟨by simpa using hv,this.1,⟨this.2.sub,this.2.ro,this.2.size,rfl,rfl,rfl,this.2.dD,this.2.ghost,this.2.grow⟩⟩
def Dh(hW:aX σ W w.heap){argTypes:Array ah}{ty:ah}{s x s' x' v:ae}{W':AW}(h:aN P W argTypes s x=some (v,W'))(hs:VR σ s s')(hx:VR σ x x'):
 ∃σ' v' w',(Builtin.append_ argTypes ty #[s',x']).run P w=.ok v' w'/\VR σ' v v'/\aX σ' W' w'.heap/\dE σ W w σ' W' w':=by
 unfold aN at h;split at h
 ·rename_i t0 t1 ko;have zh:argTypes=#[t0,t1]:=by rw[<-fw (xs:=argTypes),ko]
  split at h
  ·rename_i ht;subst ht;subst zh;split at h
   ·rename_i e base bg ru xb n xc he;have hu:=kn he;split at h
    ·rename_i z zv bytes hz yI;obtain⟨i,hi,VP,OD,Rq⟩:=AJ yI hz;split at h
     ·rename_i hc;obtain⟨IL,hzs,hsm,hby⟩:=hc;split at h
      ·rename_i Iu;subst Iu;split at h
       ·rename_i bk;injection h with h;injection h with hv hw;subst hv;subst hw;have wQ:∀(c':Nat) (B:Option aM) (Ih:Option aM) (vG:Nat),x'=.slice Ih 0 vG->s'=.slice B bg c'->bg<=c'->
         ∃σ' v' w',(Builtin.append_ #[t0,t0] ty #[s',x']).run P w=.ok v' w'/\VR σ' (.slice base bg ru) v'/\aX σ' W w'.heap/\dE σ W w σ' W w':=by
         intro c' B Ih vG e1 e2 e3;subst e1;subst e2;exact⟨σ,_,w,CW P w t0 ty e z B bg c' vG Ih hu hz e3,hs,hW,dE.refl _ _ _⟩
        have hxf:∃Ih vG,x'=.slice Ih 0 vG:=by cases hx<;>exact⟨_,_,rfl⟩
        obtain⟨Ih,vG,rfl⟩:=hxf;cases hs with
        |zn l c=>exact wQ _ _ Ih vG rfl rfl bk
        |slice a l c c' g hg mb kT=>exact wQ _ _ Ih vG rfl rfl (by rcases kT.inv with⟨_,h2⟩|⟨_,_,_,h2,_⟩<;>omega)
        |cD a a' c g hg kT=>exact wQ _ _ Ih vG rfl rfl (by omega)
       ·cases h
      ·rename_i Iu;split at h
       ·rename_i new lI jJ dH;split at h
        ·rename_i Kw;have hnz:0<n*z:=jp (by omega) IL;obtain⟨xa,vG,fD,rfl,vB,CJ,P8⟩:=fC hW jJ hx hnz;obtain⟨iV,QL,La,rN⟩:=qV (P:=P) hW dH hs;have hnf:(Builtin.firstCells z n (.slice (some xa) n vG)).run P w=.ok fD.toArray w:=by
          have hl:fD.length=n*z:=by rw[<-vB.1];exact CJ
          have:=xj (P:=P) w xa fD P8;rw[hl]at this;simpa[Builtin.firstCells]using this
         have dy:lI.length+new.length=(bg+n)*z:=by rw[La,CJ,Nat.add_mul]
         have grow:∀(a':aM) (c':Nat),s'=.slice (some a') bg c'->(0<bg->∀j u,iV[j]? =some u->w.cell? (a'.add j)=some u)->c'<bg+n->
          ∃cap,(bg+n<=cap/\cap<=maxLen)/\(Builtin.append_ #[t0,t0] ty #[s',.slice (some xa) n vG]).run P w=
           .ok (.slice (some ⟨w.heap.size,0,none⟩) (bg+n) cap) (w.drew.alloc (.cells (iV.toArray++fD.toArray++Builtin.zeroCells zv.cells (cap-(bg+n))) e)):=by
          intro a' c' e1 e2 e3;subst e1;have la:=ss e3;have oU:Builtin.nextslicecap (bg+n) c'*i.bytes<=281474976710656:=by have:=oB i.bytes la;rw[OD]at this|-;omega
          refine⟨_,⟨IB _ _ _ _,xd w (bg+n) c' e (by unfold maxLen;omega)⟩,run_append_grow (P:=P) w t0 ty e i zv hu hi VP a' bg c' iV (by rw[<-QL.1,La,Rq]) (λj u hj=>?_) xa n vG fD (by rw[<-vB.1,CJ,Rq]) P8 e3 (by omega) oU⟩;refine e2 ?_ j u hj;rcases Nat.eq_zero_or_pos bg with h0|h0
          ·have h1:=La;rw[h0,Nat.zero_mul,QL.1]at h1;have:=(cr.1 hj).1;omega
          ·exact h0
         have Q3:=λ(cap:Nat) (la:bg+n<=cap/\cap<=maxLen)=>Dj (w:=w) hW e cap QL vB hzs IL dy la
         split at h
         ·rename_i nu;split at h
          ·rename_i a;split at h
           ·rename_i cs dL;injection h with h;rw[AW.cF]at h;injection h with hv hw;have lT:∀cs,W.get a.block≠some (.ro cs):=λcs hx=>by rw[dL]at hx;cases hx
            have hmp:∃g0,σ a.block=some g0:=by cases hs with|slice _ _ _ c' g hg mb kT=>exact⟨g,hg⟩|cD _ a' _ g hg kT=>exact⟨g,hg⟩
            obtain⟨g0,ye⟩:=hmp;obtain⟨Xg,hEk⟩:=hW.kill lT ye;have Q1:∀(cap:Nat),(bg+n<=cap/\cap<=maxLen)->(Builtin.append_ #[t0,t0] ty #[s',.slice (some xa) n vG]).run P w=
             .ok (.slice (some ⟨w.heap.size,0,none⟩) (bg+n) cap) (w.drew.alloc (.cells (iV.toArray++fD.toArray++Builtin.zeroCells zv.cells (cap-(bg+n))) e))->
             ∃σ' v' w',(Builtin.append_ #[t0,t0] ty #[s',.slice (some xa) n vG]).run P w=.ok v' w'/\VR σ' v v'/\aX σ' W' w'.heap/\dE σ W w σ' W' w':=by
             intro cap la da;obtain⟨g1,g2,g3⟩:=Dj (w:=w) Xg e cap QL vB hzs IL dy la;exact⟨_,_,_,da,by rw[<-hv];exact g1,by rw[<-hw];exact g2,by rw[<-hw];exact hEk.trans g3⟩
            cases hs with
            |cD _ a' _ g hg kT=>obtain⟨cap,h1,h2⟩:=grow a' 0 rfl (λhx=>absurd hx (by omega)) (by omega);exact Q1 cap h1 h2
            |slice _ _ _ c' g hg mb kT=>
             rcases kT.inv with⟨hk,_⟩|⟨z',uf,SQ,RR,rM⟩
             ·exact absurd hk (by omega)
             ·have wP:z'=z:=by omega
              subst wP;obtain⟨c0,ct,RG,q1,q0,q2,q3,q4⟩:=hW.obj a.block _ g dL hg;by_cases oU:bg+n<=c'
              ·have hcz:0<c'*z':=jp (by omega) IL;obtain rfl:=q0 (by omega);have ZA:(bg+n)*z'<=c'*z':=oB _ oU;have VQ:bg*z'+n*z'=(bg+n)*z':=(Nat.add_mul _ _ _).symm;have my:=wX (P:=P) g.B (g.s+a.off+bg*z') ct fD 0 c0 w q1 (by rw[<-vB.1,CJ];omega) (wV vB Kw);simp only[dA]at my;have da:=pL P w _ t0 ty e z' g.B (g.s+a.off) bg c' n vG (some xa) fD hu hz hnf oU my;have ac4:fD.length=n*z':=by rw[<-vB.1];exact CJ
               have ag6:iV.length=bg*z':=by rw[<-QL.1];exact La
               have wH:=iv c0.toList (g.s+a.off+bg*z') fD (by simp;omega);have Z4:∀j u,lI[j]? =some u->∃u',c0[g.s+a.off+j]? =some u'/\VR σ u u':=by
                intro j u hj;have Zc:j<bg*z':=by rw[<-La];exact(cr.1 hj).1
                have QJ:0<bg*z':=by omega
                obtain⟨a2,c2,l2,e2,XH,l2l,SF⟩:=fC hW dH (VR.slice a bg _ c' g hg mb kT) QJ;injection e2 with e2 _ _;injection e2 with e2;subst e2;obtain⟨u',f1,f2⟩:=XH.get hj;have:=SF j u' f1;rw[cO]at this;simp only[World.cell?,q1,sO,kW,cE]at this;exact⟨u',this,f2⟩
               have Fb:=hW.Sl (w':=w.setRow g.B (c0.toList.take (g.s+a.off+bg*z')++fD++c0.toList.drop (g.s+a.off+bg*z'+fD.length)).toArray)
                (b:=a.block) (off:=a.off) (bP:=lI++new) dL hg (by simp[World.setRow]) rfl rfl rfl (λB hB=>fU w g.B B _ hB) q1 (nD w g.B c0 _ ct _ q1) (by simp;omega)
                (by intro j hj;have:=wH j;rw[bX]at this;simpa using this)
                (by rw[dj,dy];omega)
                (by
                  intro j u hj;have h2:=wH (g.s+a.off+j);rw[sf]at hj;split at hj
                  ·rename_i YY;rw[bX]at h2;obtain⟨u',f1,f2⟩:=Z4 j u hj;exact⟨u',by rw[<-f1];simpa using h2,f2⟩
                  ·rename_i YY;have ZQ:=(cr.1 hj).1;rw[oM]at h2;obtain⟨u',f1,f2⟩:=vB.get hj;rw[show g.s+a.off+j-(g.s+a.off+bg*z')=j-lI.length by omega,f1]at h2;exact⟨u',by simpa using h2,f2⟩)
               have RL:=VR.slice (σ:=bu σ W.next ⟨g.B,g.s+a.off,g.e⟩) ⟨W.next,0,none⟩ (bg+n) (eS+z') c' ⟨g.B,g.s+a.off,g.e⟩ cz rfl (.open_ z' c' IL oU (by simp only[dA];exact rM) (kT.max.2 (by omega)));simp only[dA]at RL;exact⟨_,_,_,da,by rw[<-hv];exact RL,by rw[<-hw];exact Fb.1,by rw[<-hw];exact Fb.2⟩
              ·obtain⟨cap,h1,h2⟩:=grow _ c' rfl (λQJ j u hj=>by
                have zB:0<bg*z':=jp QJ IL;obtain⟨a2,c2,l2,e2,XH,l2l,SF⟩:=fC hW dH (VR.slice a bg _ c' g hg mb kT) zB;injection e2 with e2 _ _;injection e2 with e2;subst e2;have Cx:(Builtin.firstCells z' bg (.slice (some ⟨g.B,g.s+a.off,none⟩) bg c')).run P w=.ok l2.toArray w:=by have:=xj (P:=P) w ⟨g.B,g.s+a.off,none⟩ l2 SF;rw[<-XH.1,l2l]at this;simpa[Builtin.firstCells]using this
                rw[rN]at Cx;injection Cx with Cx _;have:iV=l2:=by simpa using Cx
                rw[this]at hj;exact SF j u hj) (by omega);exact Q1 cap h1 h2
           ·rename_i e' cs dL;split at h;case isFalse=>cases h
            rename_i N9;obtain⟨rfl,rfl,Cg,oI,QJ,CS⟩:=N9;injection h with h;rw[AW.cF]at h;injection h with hv hw;have lT:∀cs,W.get a.block≠some (.ro cs):=λcs hx=>by rw[dL]at hx;cases hx
            have ac4:fD.length=n:=by rw[<-vB.1,CJ,kp]
            have acJ:new.length=n:=by rw[CJ,kp]
            cases hs with
            |cD _ a' _ g hg kT=>exact absurd rfl QJ
            |slice _ _ _ c' g hg mb kT=>
             rcases kT.inv with⟨hk,_⟩|⟨z',uf,SQ,RR,rM⟩
             ·unfold eS at hk nu;omega
             ·have wP:z'=1:=by omega
              subst wP;obtain⟨a1,a2,a3,c,q1,q2,q3,q4⟩:=hW.obj a.block _ g dL hg;have ae3:c'=c.size:=by omega
              have Sv:(⟨g.B,g.s+a.off,none⟩:aM)=⟨g.B,0,none⟩:=by rw[a1,Cg]
              rw[Sv];have zC:∃iV:List ae,LR σ cs iV/\∀(j:Nat) (u:ae),iV[j]? =some u->c[j]? =some u:=by
               have fy:∀j,j<cs.length->j<c.size:=λj hj=>by omega
               refine⟨c.toList.take cs.length,⟨by rw[dR];simp;omega,λj u u' h1 h2=>?_⟩,λj u hj=>?_⟩
               ·obtain⟨v',f1,f2⟩:=q4 j u h1;rw[jg]at h2;split at h2
                ·rw[pm,f1]at h2;injection h2 with h2;subst h2;exact f2
                ·cases h2
               ·rw[jg]at hj;split at hj
                ·simpa using hj
                ·cases hj
              obtain⟨Tw,aaJ,pa⟩:=zC;have ae6:=aaJ.1;have hap:=aaJ.append vB;by_cases oU:bg+n<=c'
              ·have my:=wX (P:=P) g.B (0+bg*1) e fD 0 c w q1 (by omega) (wV vB Kw);simp only[dA]at my;have da:=pL P w _ t0 ty e 1 g.B 0 bg c' n vG (some xa) fD hu hz hnf oU my;have wH:=iv c.toList (0+bg*1) fD (by simp;omega);have Fb:=hW.Cj (w':=w.setRow g.B (c.toList.take (0+bg*1)++fD++c.toList.drop (0+bg*1+fD.length)).toArray) (b:=a.block) (off:=0) (o':=.tc e (cs++new))
                (c':=(c.toList.take (0+bg*1)++fD++c.toList.drop (0+bg*1+fD.length)).toArray) dL (λ_=>by simp) hg (by simp[World.setRow]) rfl rfl rfl (λB hB=>fU w g.B B _ hB) q1 (nD w g.B c _ e _ q1) (by simp;omega)
                (λj hj=>by rw[o4 (by simp;omega),o4 (by omega)])
                ⟨by simp only;omega,a2,⟨a3.1,λhx=>by rw[CS]at hx;cases hx⟩,_,nD w g.B c _ e _ q1,by simp only[dj];omega,by simp;omega,λj u hj=>by
                  have h2:=wH j;rw[sf]at hj;split at hj
                  ·rename_i YY;rw[bX]at h2;obtain⟨u',f1,f2⟩:=q4 j u hj;exact⟨u',by rw[<-f1];simpa using h2,f2.mono (cA hW.fresh)⟩
                  ·rename_i YY;have ZQ:=(cr.1 hj).1;rw[oM]at h2;obtain⟨u',f1,f2⟩:=vB.get hj;rw[show j-(0+bg*1)=j-cs.length by omega,f1]at h2;exact⟨u',by simpa using h2,f2.mono (cA hW.fresh)⟩⟩
               have RL:=VR.slice (σ:=bu σ W.next ⟨g.B,g.s+0,g.e⟩) ⟨W.next,0,none⟩ (bg+n) (eS+1) c' ⟨g.B,g.s+0,g.e⟩ cz rfl (.open_ 1 c' (by omega) oU (by simp only;omega) (kT.max.2 (by omega)));simp only[a1,dA]at RL;refine⟨_,_,_,da,by rw[<-hv];exact RL,?_,?_⟩
               ·rw[<-hw];simpa only[a1,dA]using Fb.1
               ·rw[<-hw];simpa only[a1,dA]using Fb.2
              ·have la:=ss (show c'<bg+n by omega);have Xv:Builtin.nextslicecap (bg+n) c'*i.bytes<=281474976710656:=by have:=oB i.bytes la;rw[OD]at this|-;omega
               have da:=run_append_grow (P:=P) w t0 ty e i zv hu hi VP ⟨g.B,0,none⟩ bg c' Tw (by rw[<-ae6,Rq];omega) (λj u hj=>by
                have:=pa j u hj;rw[cO];simp[World.cell?,q1,this]) xa n vG fD (by rw[Rq];omega) P8 (by omega) (by omega) Xv;obtain⟨Xg,hEk⟩:=hW.kill lT hg;have hge:=grownCap_ge w (bg+n) c' e;obtain⟨g1,g2,g3⟩:=BI (w:=w) Xg e (cs:=cs++new) (bP:=Tw++fD) (zs:=Builtin.zeroCells zv.cells (grownCap w (bg+n) c' e-(bg+n))) (cap:=grownCap w (bg+n) c' e) hap
                (by rw[dj,ip,hzs];omega) (by rw[dj];omega) (xd w (bg+n) c' e (by unfold maxLen;omega)) CS
                (c:=Tw.toArray++fD.toArray++Builtin.zeroCells zv.cells (grownCap w (bg+n) c' e-(bg+n))) (by simp)
               rw[dj,acJ,oI]at g1;exact⟨_,_,_,da,by rw[<-hv];exact g1,by rw[<-hw];exact g2,by rw[<-hw];exact hEk.trans g3⟩
           ·cases h
          ·cases h
         ·split at h
          ·rename_i rj agE;split at h
           ·rename_i a;have aex:∀(g:pY) (c':Nat),σ a.block=some g->a.spot=none->BC g a.off bg ru c'->s'=.slice (some ⟨g.B,g.s+a.off,none⟩) bg c'->0<bg->∀j u,iV[j]? =some u->w.cell? ((⟨g.B,g.s+a.off,none⟩:aM).add j)=some u:=by
             intro g c' hg mb kT LW QJ j u hj;have zB:0<bg*z:=jp QJ IL;obtain⟨a2,c2,l2,e2,XH,l2l,SF⟩:=fC hW dH (VR.slice a bg _ c' g hg mb kT) zB;injection e2 with e2 _ _;injection e2 with e2;subst e2;have Cx:(Builtin.firstCells z bg (.slice (some ⟨g.B,g.s+a.off,none⟩) bg c')).run P w=.ok l2.toArray w:=by have:=xj (P:=P) w ⟨g.B,g.s+a.off,none⟩ l2 SF;rw[<-XH.1,l2l]at this;simpa[Builtin.firstCells]using this
             rw[<-LW,rN]at Cx;injection Cx with Cx _;have:iV=l2:=by simpa using Cx
             rw[this]at hj;exact SF j u hj
            split at h
            ·rename_i oU;cases Sf:jQ W a.block (a.off+bg*z) new with
             |none=>rw[Sf]at h;cases h
             |some W2=>
              rw[Sf]at h;simp only[bR,fb,Prod.mk.injEq]at h;obtain⟨hv,hw⟩:=h;subst hw;cases hs with
              |cD _ a' _ g hg kT=>omega
              |slice _ _ _ c' g hg mb kT=>
               rcases kT.inv with⟨hk,rfl⟩|⟨z',uf,SQ,RR,rM⟩
               ·obtain⟨w2,k1,k2,k3⟩:=nS (P:=P) hW Sf hg vB;have da:=pL P w w2 t0 ty e z g.B (g.s+a.off) bg c' n vG (some xa) fD hu hz hnf oU (by rw[jW];exact k1);refine⟨σ,_,w2,da,?_,k2,k3⟩;rw[<-hv];exact .slice a _ _ _ g hg mb (.known _ hk)
               ·omega
            ·rename_i oU;injection h with h;rw[AW.cF]at h;injection h with hv hw;have wQ:∀(cap:Nat),(bg+n<=cap/\cap<=maxLen)->(Builtin.append_ #[t0,t0] ty #[s',.slice (some xa) n vG]).run P w=
              .ok (.slice (some ⟨w.heap.size,0,none⟩) (bg+n) cap) (w.drew.alloc (.cells (iV.toArray++fD.toArray++Builtin.zeroCells zv.cells (cap-(bg+n))) e))->
              ∃σ' v' w',(Builtin.append_ #[t0,t0] ty #[s',.slice (some xa) n vG]).run P w=.ok v' w'/\VR σ' v v'/\aX σ' W' w'.heap/\dE σ W w σ' W' w':=by
              intro cap la da
              obtain⟨g1,g2,g3⟩:=Q3 cap la
              exact⟨_,_,_,da,by rw[<-hv];exact g1,by rw[<-hw];exact g2,by rw[<-hw];exact g3⟩
             cases hs with
             |cD _ a' _ g hg kT=>obtain⟨cap,h1,h2⟩:=grow a' 0 rfl (λhx=>absurd hx (by omega)) (by omega);exact wQ cap h1 h2
             |slice _ _ _ c' g hg mb kT=>
              have oI:c'<bg+n:=by rcases kT.inv with⟨_,h2⟩|⟨_,_,h2,_,_⟩<;>omega
              obtain⟨cap,h1,h2⟩:=grow _ c' rfl (aex g c' hg mb kT rfl) oI;exact wQ cap h1 h2
           ·split at h
            ·rename_i h00;obtain⟨rfl,rfl,CS⟩:=h00;injection h with h;rw[AW.cF]at h;injection h with hv hw;cases hs;have X1:iV=[]:=by have:=QL.1;rw[La,Nat.zero_mul]at this;exact pr this.symm
             subst X1;have oU:n*i.bytes<=281474976710656:=by have:=oB i.bytes (show n<=2*(0+n)+192 by omega);rw[OD]at this|-;omega
             have da:=run_append_nil (P:=P) w t0 ty e i zv hu hi VP xa n vG fD (by rw[<-vB.1,CJ,Rq]) P8 (by omega) (by omega) oU;obtain⟨g1,g2,g3⟩:=Q3 _ ⟨IB (0+n) 0 e (w.tape w.drawn (.appendCap n 0 e)),by simpa[grownCap]using xd w n 0 e (by unfold maxLen;omega)⟩;simp only[aU]at g1 g2 g3 hv;refine⟨_,_,_,da,by rw[<-hv];exact g1,?_,?_⟩
             ·rw[<-hw];simpa[grownCap]using g2
             ·rw[<-hw];simpa[grownCap]using g3
            ·cases h
          ·cases h
        ·cases h
       ·cases h
     ·cases h
    ·cases h
   ·cases h
  ·cases h
 ·cases h
def yV(P:ag)(W:AW)(argTypes:Array ah)(s x:ae):Option (ae×AW):=
 match argTypes.toList with
 |[t0,t1]=>match P.underlying t1 with
  |some .string=>match g8 P t0,s,x with
   |some e,.slice base bg ru,.string str=>match jq P e,(P.info? e).map (λi=>(i.zero,i.bytes))with
    |some 1,some (some (Value.int IntKind.u8 (.ofNat 0)),1)=>
     if bg+str.size<1099511627776 then
      if str.size=0 then(if bg<=ru then some (s,W)else none)
      else match base with
       |some a=>if ru=eS+1/\a.off=0 then match W.get a.block with
        |some (.tc e' cs)=>if e=e'/\cs.length=bg/\bg≠0/\aj.ex e=false then some ((W.kill a.block).new (.tc e (cs++Lib.strCells str)) λb W'=>(Value.slice (some ⟨b,0,none⟩) (bg+str.size) (eS+1),W'))else none
        |_=>none
        else none
       |none=>if bg=0/\ru=0/\aj.ex e=false then some (W.new (.tc e (Lib.strCells str)) λb W'=>(Value.slice (some ⟨b,0,none⟩) (0+str.size) (eS+1),W'))else none
     else none
    |_,_=>none
   |_,_,_=>none
  |_=>none
 |_=>none
def p6(σ:cm)(s:ByteArray):LR σ (Lib.strCells s) (Lib.strCells s):=by
 refine⟨rfl,λi v v' h1 h2=>?_⟩;rw[h1]at h2;injection h2 with h2;subst h2;unfold Lib.strCells at h1;rw[kN]at h1;cases hx:s.data.toList[i]? with
 |none=>rw[hx]at h1;cases h1
 |some b=>rw[hx]at h1;injection h1 with h1;subst h1;exact .int _ _
def BZ(hW:aX σ W w.heap){argTypes:Array ah}{ty:ah}{s x s' x' v:ae}{W':AW}(h:yV P W argTypes s x=some (v,W'))(hs:VR σ s s')(hx:VR σ x x'):
 ∃σ' v' w',(Builtin.append_ argTypes ty #[s',x']).run P w=.ok v' w'/\VR σ' v v'/\aX σ' W' w'.heap/\dE σ W w σ' W' w':=by
 unfold yV at h;split at h
 ·rename_i t0 t1 ko;have zh:argTypes=#[t0,t1]:=by rw[<-fw (xs:=argTypes),ko]
  subst zh;split at h
  ·rename_i P3;split at h
   ·rename_i e base bg ru str he;have hu:=kn he;cases hx;split at h
    ·rename_i hz yI;obtain⟨i,hi,VP,OD,Rq⟩:=AJ yI hz;split at h
     ·rename_i hsm;have hmx:∀n sc,n<=maxLen->grownCap w n sc e<=maxLen:=λn sc hn=>xd w n sc e hn
      have VQ:bg+str.size<=maxLen:=by unfold maxLen;omega
      split at h
      ·rename_i Iu;split at h
       ·rename_i bk;injection h with h;injection h with hv hw;subst hv;subst hw;have h00:∀(a':aM),(loadCells a' 0).run P w=.ok #[] w:=λa'=>by simp[loadCells,loadCellsFrom]
        have wQ:∀(c':Nat) (B:Option aM),s'=.slice B bg c'->bg<=c'->∃σ' v' w',(Builtin.append_ #[t0,t1] ty #[s',.string str]).run P w=.ok v' w'/\VR σ' (.slice base bg ru) v'/\aX σ' W w'.heap/\dE σ W w σ' W w':=by intro c' B e2 e3;subst e2;have hf:=Lib.run_firstCells_string (P:=P) w 1 str;rw[Iu]at hf;have hsc:Lib.strCells str=[]:=pr (by rw[il];exact Iu);rw[hsc]at hf;refine⟨σ,_,w,?_,hs,hW,dE.refl _ _ _⟩;cases B<;>simp[Builtin.append_,bn hu,bn P3,be hz,Builtin.lenOf,Iu,e3,hf,storeCells]
        cases hs with
        |zn l c=>exact wQ _ _ rfl bk
        |slice a l c c' g hg mb kT=>exact wQ _ _ rfl (by rcases kT.inv with⟨_,h2⟩|⟨_,_,_,h2,_⟩<;>omega)
        |cD a a' c g hg kT=>exact wQ _ _ rfl (by omega)
       ·cases h
      ·rename_i Iu;split at h
       ·rename_i a;split at h
        ·rename_i mU;obtain⟨nu,Cg⟩:=mU;split at h
         ·rename_i e' cs dL;split at h
          ·rename_i N9;obtain⟨rfl,oI,QJ,CS⟩:=N9;injection h with h;rw[AW.cF]at h;injection h with hv hw;have lT:∀cs,W.get a.block≠some (.ro cs):=λcs hx=>by rw[dL]at hx;cases hx
           cases hs with
           |cD _ a' _ g hg kT=>exact absurd rfl QJ
           |slice _ _ _ c' g hg mb kT=>
            rcases kT.inv with⟨hk,_⟩|⟨z',uf,SQ,RR,rM⟩
            ·unfold eS at hk nu;omega
            ·have wP:z'=1:=by omega
             subst wP;obtain⟨a1,a2,a3,c,q1,q2,q3,q4⟩:=hW.obj a.block _ g dL hg;have ae3:c'=c.size:=by omega
             have Sv:(⟨g.B,g.s+a.off,none⟩:aM)=⟨g.B,0,none⟩:=by rw[a1,Cg]
             rw[Sv];have zC:∃iV:List ae,LR σ cs iV/\∀(j:Nat) (u:ae),iV[j]? =some u->c[j]? =some u:=by
              have fy:∀j,j<cs.length->j<c.size:=λj hj=>by omega
              refine⟨c.toList.take cs.length,⟨by rw[dR];simp;omega,λj u u' h1 h2=>?_⟩,λj u hj=>?_⟩
              ·obtain⟨v',f1,f2⟩:=q4 j u h1;rw[jg]at h2;split at h2
               ·rw[pm,f1]at h2;injection h2 with h2;subst h2;exact f2
               ·cases h2
              ·rw[jg]at hj;split at hj
               ·simpa using hj
               ·cases hj
             obtain⟨iV,QL,pa⟩:=zC;have La:=QL.1;have hap:=QL.append (p6 σ str);by_cases oU:bg+str.size<=c'
             ·have da:=Lib.run_append_room_string (P:=P) w t0 t1 ty e i hu P3 hi Rq g.B bg c' c q1 str oU (by omega);have wH:=iv c.toList bg (Lib.strCells str) (by rw[il];simp;omega);rw[il]at wH;have Fb:=hW.Cj (w':=w.setRow g.B (c.toList.take bg++Lib.strCells str++c.toList.drop (bg+str.size)).toArray) (b:=a.block) (off:=0) (o':=.tc e (cs++Lib.strCells str))
               (c':=(c.toList.take bg++Lib.strCells str++c.toList.drop (bg+str.size)).toArray) dL (λ_=>by simp) hg (by simp[World.setRow]) rfl rfl rfl (λB hB=>fU w g.B B _ hB) q1 (nD w g.B c _ e _ q1) (by simp[il];omega)
               (λj hj=>by rw[o4 (by simp[il];omega),o4 (by omega)])
               ⟨by simp only;omega,a2,⟨a3.1,λhx=>by rw[CS]at hx;cases hx⟩,_,nD w g.B c _ e _ q1,by simp only[dj,il];omega,by simp[il];omega,λj u hj=>by
                 have h2:=wH j;rw[sf]at hj;split at hj
                 ·rename_i YY;rw[bX]at h2;obtain⟨u',f1,f2⟩:=q4 j u hj;exact⟨u',by rw[<-f1];simpa using h2,f2.mono (cA hW.fresh)⟩
                 ·rename_i YY;have ZQ:=(cr.1 hj).1;rw[il]at ZQ;rw[oM]at h2;obtain⟨u',f1,f2⟩:=(p6 σ str).get hj;rw[oI]at f1;rw[f1]at h2;exact⟨u',by simpa using h2,f2.mono (cA hW.fresh)⟩⟩
              have RL:=VR.slice (σ:=bu σ W.next ⟨g.B,g.s+0,g.e⟩) ⟨W.next,0,none⟩ (bg+str.size) (eS+1) c' ⟨g.B,g.s+0,g.e⟩ cz rfl (.open_ 1 c' (by omega) oU (by simp only;omega) (kT.max.2 (by omega)));simp only[a1,dA]at RL;refine⟨_,_,_,da,by rw[<-hv];exact RL,?_,?_⟩
              ·rw[<-hw];simpa only[a1,dA]using Fb.1
              ·rw[<-hw];simpa only[a1,dA]using Fb.2
             ·have la:=ss (show c'<bg+str.size by omega);have da:=Lib.run_append_grow_string (P:=P) w t0 t1 ty e i (.int .u8 0) hu P3 hi VP ⟨g.B,0,none⟩ bg c' iV (by rw[<-La,Rq];omega) (λj u hj=>by
               have:=pa j u hj;rw[cO];simp[World.cell?,q1,this]) str (by omega) (by omega) (by rw[OD];omega);obtain⟨Xg,hEk⟩:=hW.kill lT hg;have hge:=grownCap_ge w (bg+str.size) c' e;obtain⟨g1,g2,g3⟩:=BI (w:=w) Xg e (cs:=cs++Lib.strCells str) (bP:=iV++Lib.strCells str) (zs:=Builtin.zeroCells (Value.int .u8 0).cells (grownCap w (bg+str.size) c' e-(bg+str.size))) (cap:=grownCap w (bg+str.size) c' e) hap
               (by rw[dj,il,ip,show(Value.int IntKind.u8 0).cells.size=1 from rfl];omega) (by rw[dj,il];omega) (hmx _ _ VQ) CS
               (c:=iV.toArray++(Lib.strCells str).toArray++Builtin.zeroCells (Value.int .u8 0).cells (grownCap w (bg+str.size) c' e-(bg+str.size))) (by simp)
              rw[dj,il,oI]at g1;exact⟨_,_,_,da,by rw[<-hv];exact g1,by rw[<-hw];exact g2,by rw[<-hw];exact hEk.trans g3⟩
          ·cases h
         ·cases h
        ·cases h
       ·split at h
        ·rename_i h00;obtain⟨rfl,rfl,CS⟩:=h00;injection h with h;rw[AW.cF]at h;injection h with hv hw;cases hs;have oU:str.size*i.bytes<=281474976710656:=by rw[OD];omega
         have da:=run_append_nil_string (P:=P) w t0 t1 ty e i (.int .u8 0) hu P3 hi VP str (by omega) (by omega) oU;have hge:=grownCap_ge w str.size 0 e;obtain⟨g1,g2,g3⟩:=BI (w:=w) hW e (cs:=Lib.strCells str) (bP:=Lib.strCells str) (zs:=Builtin.zeroCells (Value.int .u8 0).cells (grownCap w str.size 0 e-str.size)) (cap:=grownCap w str.size 0 e) (p6 σ str)
          (by rw[il,ip,show(Value.int IntKind.u8 0).cells.size=1 from rfl];omega) (by rw[il];omega) (hmx _ _ (by omega)) CS
          (c:=str.data.map (λb=>Value.int .u8 b.toNat)++Builtin.zeroCells (Value.int .u8 0).cells (grownCap w str.size 0 e-str.size)) (by congr 1;apply Array.ext';simp[Lib.strCells])
         rw[il]at g1;exact⟨_,_,_,da,by rw[<-hv,aU];exact g1,by rw[<-hw];exact g2,by rw[<-hw];exact g3⟩
        ·cases h
     ·cases h
    ·cases h
   ·cases h
  ·cases h
 ·cases h
def tR(P:ag)(W:AW)(argTypes:Array ah)(s x:ae):Option (ae×AW):=
 match argTypes.toList with
 |[t0,t1]=>if t0=t1 then aN P W argTypes s x else yV P W argTypes s x
 |_=>none
def Cr(hW:aX σ W w.heap){argTypes:Array ah}{ty:ah}{s x s' x' v:ae}{W':AW}(h:tR P W argTypes s x=some (v,W'))(hs:VR σ s s')(hx:VR σ x x'):
 ∃σ' v' w',(Builtin.append_ argTypes ty #[s',x']).run P w=.ok v' w'/\VR σ' v v'/\aX σ' W' w'.heap/\dE σ W w σ' W' w':=by
 unfold tR at h;split at h
 ·split at h
  ·exact Dh hW h hs hx
  ·exact BZ hW h hs hx
 ·cases h
def ox(x:ae):Option ae:=match x with
 |.slice none _ _=>some (.pointer none)
 |.slice (some a) l c=>if l≠0/\c≠0 then some (.pointer (some a))else none
 |_=>none
def yX{x x' v:ae}{ts:Array ah}{ty:ah}(h:ox x=some v)(hx:VR σ x x'):∃v',(Builtin.unsafeSliceData_ ts ty #[x']).run P w=.ok v' w/\VR σ v v':=by
 unfold ox at h;split at h
 ·injection h with h;subst h;cases hx;exact⟨_,Lib.run_unsafeSliceData_nil _ _ _ _ _,.Ez⟩
 ·split at h
  ·rename_i a l c hc;injection h with h;subst h;cases hx with
   |slice _ _ _ c' g hg hs kT=>exact⟨_,Lib.run_unsafeSliceData_row _ _ _ _ _ _ (by rcases kT.inv with⟨_,h2⟩|⟨_,_,_,h2,_⟩<;>omega),.ptr a g hg hs⟩
   |cD _ a' _ g hg kT=>exact absurd rfl hc.1
  ·cases h
 ·cases h
def byteOf(v:ae):Option UInt8:=match v with
 |.int .u8 (.ofNat n)=>if n<256 then some (UInt8.ofNat n)else none
 |_=>none
def I9{v:ae}{x:UInt8}(h:byteOf v=some x):v=.int .u8 x.toNat:=by
 unfold byteOf at h;split at h
 ·rename_i n;split at h
  ·rename_i hn;injection h with h;subst h;have:(UInt8.ofNat n).toNat=n:=by simp;omega
   rw[this];rfl
  ·cases h
 ·cases h
def tY:List ae->Option (List UInt8):=List.rec (motive:=λ_=>Option (List UInt8)) (some []) (λv _ ih=>match byteOf v with
 |some b=>ih.map (λl=>b::l)
 |none=>none)
def pF:∀{cs:List ae} {l:List UInt8},tY cs=some l->cs.length=l.length/\∀(j:Nat) (x:UInt8),l[j]? =some x->cs[j]? =some (.int .u8 x.toNat)
 |[],l,h=>by injection h with h;subst h;exact⟨rfl,λj x hj=>by simp at hj⟩
 |v::cs,l,h=>by
  have h':(match byteOf v with
   |some b=>(tY cs).map (λl=>b::l)
   |none=>none)=some l:=h;cases hv:byteOf v with
  |none=>rw[hv]at h';cases h'
  |some b0=>
   rw[hv]at h';cases hb:tY cs with
   |none=>rw[hb]at h';cases h'
   |some l0=>
    rw[hb]at h';injection h' with h';subst h';obtain⟨h1,h2⟩:=pF hb;refine⟨by simp[h1],λj x hj=>?_⟩;cases j with
    |zero=>simp only[Bo,fb]at hj|-;subst hj;exact I9 hv
    |succ j=>simpa using h2 j x (by simpa using hj)
def Jd(w:ap)(a:aM)(m:Nat){c:Array ae}{t:ah}{fr:Nat×Nat}(h:w.heap[a.block]? =some (.cells c t fr)):∃fr',(w.freeze a m).heap[a.block]? =some (.cells c t fr'):=by
 unfold World.freeze;split
 ·exact⟨fr,h⟩
 ·obtain⟨lo,hi⟩:=fr;simp only[um,ax,h,bR];exact⟨_,rfl⟩
def Jm(w:ap)(a:aM)(m:Nat){B:Nat}(h:B≠a.block):(w.freeze a m).heap[B]? =w.heap[B]? :=by
 unfold World.freeze;split
 ·rfl
 ·simp only[um];rw[ay (bL h)]
def Fe(w:ap)(a:aM)(m:Nat):(w.freeze a m).heap.size=w.heap.size:=by
 unfold World.freeze;split
 ·rfl
 ·simp
def Jb(w:ap)(a:aM)(m:Nat):(w.freeze a m).os=w.os/\(w.freeze a m).tape=w.tape/\(w.freeze a m).output=w.output:=by unfold World.freeze;split<;>exact⟨rfl,rfl,rfl⟩
def aX.Pn(h:aX σ W w.heap){b:Nat}{t:ah}{cs:List ae}{g:pY}(hb:W.get b=some (.tc t cs))(hg:σ b=some g)(m:Nat):
 aX σ (W.kill b) (w.freeze ⟨g.B,0,none⟩ m).heap/\dE σ W w σ (W.kill b) (w.freeze ⟨g.B,0,none⟩ m):=by
 have lT:∀cs,W.get b≠some (.ro cs):=λcs hx=>by rw[hb]at hx;cases hx
 have hk:∀c o,(W.kill b).get c=some o->c≠b/\W.get c=some o:=λc o hc=>by
  by_cases hx:c=b
  ·subst hx;rw[AW.ta]at hc;cases hc
  ·rw[AW.db _ (bL hx)]at hc;exact⟨hx,hc⟩
 obtain⟨a1,a2,a3,c,q1,q2,q3,q4⟩:=h.obj b _ g hb hg;obtain⟨fr',ko⟩:=Jd w ⟨g.B,0,none⟩ m q1;have mK:=Fe w ⟨g.B,0,none⟩ m;obtain⟨os1,os2,os3⟩:=Jb w ⟨g.B,0,none⟩ m;have gx:∀B,B≠g.B->(w.freeze ⟨g.B,0,none⟩ m).heap[B]? =w.heap[B]? :=λB hB=>Jm w ⟨g.B,0,none⟩ m hB
 obtain⟨k1,k2⟩:=h.kill lT hg;refine⟨⟨k1.free,λb2 g2 h2=>by rw[mK];exact h.lH b2 g2 h2,λx o2 g2 hx hy=>?_,k1.lP⟩,⟨.refl _,k2.ro,by rw[mK];exact aS _,os1,os2,os3,λB hB hm=>?_,k2.ghost,λx g2 hx _=>.inl hx⟩⟩
 ·obtain⟨KR,TU⟩:=hk x o2 hx;have dH:=h.obj x o2 g2 TU hy;by_cases hB:g2.B=g.B
  ·have hd:g2.e<=g.s\/g.e<=g2.s:=(h.lP x b o2 _ g2 g KR TU hb hy hg (rwR (λ_ hx=>by cases hx))).resolve_left (λdQ=>dQ hB);cases o2 with
   |cells zS=>obtain⟨c0,t0,RG,e1,e0,e2,e3,e4⟩:=dH;rw[hB,q1]at e1;injection e1 with e1;injection e1 with e1 OM afb;subst e1;exact⟨c,t,fr',by rw[hB];exact ko,λfy=>by omega,e2,e3,e4⟩
   |ro zS=>obtain⟨c0,t0,RG,e1,e2,e3⟩:=dH;rw[hB,q1]at e1;injection e1 with e1;injection e1 with e1 OM afb;subst e1;exact⟨c,t,fr',by rw[hB];exact ko,e2,e3⟩
   |map es gU=>obtain⟨_,_,eR,e1,_⟩:=dH;rw[hB,q1]at e1;cases e1
   |loop st jF R nt ps ajb bd=>obtain⟨_,_,r,e1,_⟩:=dH;rw[hB,q1]at e1;cases e1
   |jy s pos=>obtain⟨_,_,e1⟩:=dH;rw[hB,q1]at e1;cases e1
   |tc t2 zS=>obtain⟨b1,b2,b3,_⟩:=dH;omega
  ·exact dH.same (gx _ hB)
 ·exact gx B (λe=>by subst e;exact hm ⟨b,g,hg,rfl,lT⟩)
def jr(P:ag)(W:AW)(argTypes:Array ah)(p n:ae):Option (ae×AW):=match argTypes.toList with
 |[pt,_]=>match p,n with
  |.pointer q,.int .i64 (.ofNat m)=>if m=0 then some (.string .empty,W)else match q with
   |some a=>match P.underlying pt,W.get a.block with
    |some (.pointer e),some (.tc e' cs)=>if e=e'/\a.off=0/\m<=cs.length/\m<1099511627776 then match jq P e,tY (cs.take m)with
     |some 1,some l=>some (.string ⟨l.toArray⟩,W.kill a.block)
     |_,_=>none
     else none
    |_,_=>none
   |none=>none
  |_,_=>none
 |_=>none
def sS(hW:aX σ W w.heap){argTypes:Array ah}{ty:ah}{p n p' n' v:ae}{W':AW}(h:jr P W argTypes p n=some (v,W'))(hp:VR σ p p')(hn:VR σ n n'):
 ∃σ' v' w',(Builtin.unsafeString_ argTypes ty #[p',n']).run P w=.ok v' w'/\VR σ' v v'/\aX σ' W' w'.heap/\dE σ W w σ' W' w':=by
 unfold jr at h;split at h
 ·rename_i pt it ko;have zh:argTypes=#[pt,it]:=by rw[<-fw (xs:=argTypes),ko]
  subst zh;split at h
  ·rename_i q m;cases hn;split at h
   ·rename_i hm0;injection h with h;injection h with h1 h2;subst h1;subst h2;subst hm0;obtain⟨q',rfl⟩:∃q',p'=.pointer q':=by cases hp<;>exact⟨_,rfl⟩
    exact⟨σ,_,w,Lib.run_unsafeString_none w pt it ty q',.string _,hW,dE.refl _ _ _⟩
   ·rename_i hm0;split at h
    ·rename_i a;split at h
     ·rename_i e e' cs hu dL;split at h
      ·rename_i hc;obtain⟨rfl,Cg,hmc,hmb⟩:=hc;split at h
       ·rename_i l hz hl;injection h with h;injection h with h1 h2;subst h1;subst h2;cases hp with
        |ptr _ g hg hs=>
         obtain⟨a1,a2,a3,c,q1,q2,q3,q4⟩:=hW.obj a.block _ g dL hg;obtain⟨b1,b2⟩:=pF hl;obtain⟨_,_,_,hcz⟩:=uN hz;have dy:m=l.length:=by rw[<-b1,dR];omega
         have Sv:(⟨g.B,g.s+a.off,none⟩:aM)=⟨g.B,0,none⟩:=by rw[a1,Cg]
         obtain⟨f1,f2⟩:=hW.Pn dL hg m;refine⟨σ,_,_,?_,.string _,f1,f2⟩;rw[Sv,dy];refine Lib.run_unsafeString_row w pt it ty e hu hcz g.B c.size (by simp[World.shape?,q1]) l (λe=>by subst e;simp at dy;omega) (by omega) (by omega) ?_;intro j x hj;have h3:=b2 j x hj;rw[jg]at h3;split at h3
         ·obtain⟨v',g1,g2⟩:=q4 j _ h3;cases g2;rw[cO];simp[World.cell?,q1,g1]
         ·cases h3
       ·cases h
      ·cases h
     ·cases h
    ·cases h
  ·cases h
 ·cases h
def m7(P:ag)(W:AW)(s d:ah)(x:ae):Option ae:=match x with
 |.slice (some a) n c=>(match P.underlying s,P.underlying d with
  |some (.slice e),some .string=>(match P.underlying e with
   |some (.int .u8)=>(match bC W (.slice (some a) n c) n with
    |some cs=>(match tY cs with
     |some l=>some (.string ⟨l.toArray⟩)
     |none=>none)
    |none=>none)
   |_=>none)
  |_,_=>none)
 |_=>none
def xP(P:ag)(W:AW)(s d:ah)(x:ae)(alt:Option ae):Option ae:=match x with
 |.slice (some a) n c=>m7 P W s d (.slice (some a) n c)
 |_=>alt
def zG(hW:aX σ W w.heap){s d:ah}{x x' v:ae}(h:m7 P W s d x=some v)(hx:VR σ x x'):∃v',(convert s d x').run P w=.ok v' w/\VR σ v v':=by
 unfold m7 at h;split at h;case h_2=>cases h
 rename_i a n c;split at h;case h_2=>cases h
 rename_i e hs hd;split at h;case h_2=>cases h
 rename_i he;split at h;case h_2=>cases h
 rename_i cs mI;split at h;case h_2=>cases h
 rename_i l hl;injection h with h;subst h;obtain⟨b1,b2⟩:=pF hl;rcases Nat.eq_zero_or_pos n with rfl|hn
 ·obtain rfl:cs=[]:=by unfold bC at mI;simp only[ax]at mI;injection mI with mI;exact mI.symm
  obtain rfl:l=[]:=jd.1 (by rw[<-b1];rfl);obtain⟨a',c',rfl⟩:∃a' c',x'=.slice (some a') 0 c':=by cases hx<;>exact⟨_,_,rfl⟩
  refine⟨.string ByteArray.empty,?_,.string _⟩;rw[run_convert_bytes_string w s d e _ 0 c' hs he hd,run_bytesToString w _ 0 c' [] (by simp[loadCells,loadCellsFrom])];rfl
 ·obtain⟨a',c',l',rfl,h1,h2,h3⟩:=fC (z:=1) hW (by rw[kp];exact mI) hx (by omega);refine⟨_,?_,.string _⟩;rw[kp]at h2;have WB:l.length=n:=by rw[<-b1,h2]
  rw[run_convert_bytes_string w s d e _ n c' hs he hd,run_bytesToString w _ n c' (l.map λb=>(b.toNat:Int)) ?_]
  ·rw[foldl_push_bytes];congr 2;have:((λn:Int=>UInt8.ofNat n.toNat)∘λb:UInt8=>(b.toNat:Int))=id:=by funext b;simp
   simp[ByteArray.empty,ByteArray.emptyWithCapacity,this];rfl
  ·have:=xj (P:=P) w a' (l.map λb=>Value.int .u8 (b.toNat:Int)) (λj u hj=>by
    rw[kN]at hj;cases hlj:l[j]? with
    |none=>rw[hlj]at hj;cases hj
    |some y=>rw[hlj]at hj;injection hj with hj;subst hj;obtain⟨u',g1,g2⟩:=h1.get (b2 j y hlj);have:=h3 j u' g1;cases g2;exact this);simp only[fW,WB]at this;rw[this,List.map_map];rfl
end
end
section
variable [aj]
section
variable {P:ag} {σ:cm} {W:AW} {w:ap}
def If(P:ag)(W:AW)(argTypes:Array ah)(d x:ae):Option (ae×AW):=
 match argTypes.toList with
 |t0::_=>match g8 P t0,d,x with
  |some e,.slice base dl _,.slice xb sl xc=>match jq P e with
   |some z=>
    if Nat.min sl dl=0 then some (goInt 0,W)
    else if z=0 then none
    else match bC W (.slice xb sl xc) (Nat.min sl dl*z),base with
     |some new,some a=>(jQ W a.block a.off new).map λW'=>(goInt (Nat.min sl dl),W')
     |_,_=>none
   |none=>none
  |_,_,_=>none
 |[]=>none
def IY(hW:aX σ W w.heap){argTypes:Array ah}{ty:ah}{d x d' x' v:ae}{W':AW}(h:If P W argTypes d x=some (v,W'))(hd:VR σ d d')(hx:VR σ x x'):
 ∃v' w',(Builtin.copy_ argTypes ty #[d',x']).run P w=.ok v' w'/\VR σ v v'/\aX σ W' w'.heap/\dE σ W w σ W' w':=by
 have h0:∀(a':aM),(loadCells a' 0).run P w=.ok #[] w:=λa'=>by simp[loadCells,loadCellsFrom]
 unfold If at h;split at h
 ·rename_i t0 gn ko;have zh:argTypes=(t0::gn).toArray:=by rw[<-ko]
  subst zh;split at h
  ·rename_i e base dl dc xb sl xc he;have hu:=kn he;split at h
   ·rename_i z hz;have Tg:∃Ih vG,x'=.slice Ih sl vG:=by cases hx<;>exact⟨_,_,rfl⟩
    obtain⟨Ih,vG,rfl⟩:=Tg;have PD:∃b' c',d'=.slice b' dl c':=by cases hd<;>exact⟨_,_,rfl⟩
    obtain⟨db',dc',rfl⟩:=PD;split at h
    ·rename_i hn;injection h with h;injection h with hv hw;subst hv;subst hw;refine⟨goInt 0,w,?_,.int _ _,hW,dE.refl _ _ _⟩;have hf:(Builtin.firstCells z 0 (.slice Ih sl vG)).run P w=.ok #[] w:=by cases Ih<;>simp[Builtin.firstCells,h0]
     have zP:min sl dl=0:=hn;cases db'<;>simp[Builtin.copy_,bn hu,Builtin.lenOf,be hz,hf,storeCells,hn,goInt]
    ·rename_i hn;split at h
     ·cases h
     ·rename_i IL;split at h
      ·rename_i new a hr;cases Sf:jQ W a.block a.off new with
       |none=>rw[Sf]at h;cases h
       |some W2=>
        rw[Sf]at h;simp only[bR,fb,Prod.mk.injEq]at h;obtain⟨hv,hw⟩:=h;subst hw;subst hv;obtain⟨fD,h1,h2,h3⟩:=qV (P:=P) hW hr hx;cases hd with
        |cD _ a' _ g hg kT=>exact absurd (Nat.min_zero _) hn
        |slice _ _ _ c' g hg mb kT=>obtain⟨w2,k1,k2,k3⟩:=nS (P:=P) hW Sf hg h1;refine⟨goInt (Nat.min sl dl),w2,?_,.int _ _,k2,k3⟩;have zP:Nat.min sl dl=min sl dl:=rfl;rw[zP]at h3;simp[Builtin.copy_,bn hu,Builtin.lenOf,be hz,h3,k1,goInt]
      ·cases h
   ·cases h
  ·cases h
 ·cases h
def Ci(P:ag)(W:AW)(argTypes:Array ah)(x:ae):Option AW:=
 match argTypes.toList with
 |t0::_=>match g8 P t0,x with
  |some e,.slice base n _=>match jq P e,iu P e with
   |some z,some zv=>
    if n=0 then some W
    else match base with
     |none=>none
     |some a=>if(Builtin.zeroCells zv.cells n).toList.all bZ=true/\0<z then jQ W a.block a.off (Builtin.zeroCells zv.cells n).toList else none
   |_,_=>none
  |_,_=>none
 |[]=>none
def Hu(hW:aX σ W w.heap){argTypes:Array ah}{ty:ah}{x x':ae}{W':AW}(h:Ci P W argTypes x=some W')(hx:VR σ x x'):
 ∃w',(Builtin.clear_ argTypes ty #[x']).run P w=.ok (.tuple #[]) w'/\aX σ W' w'.heap/\dE σ W w σ W' w':=by
 unfold Ci at h;split at h
 ·rename_i t0 gn ko;have zh:argTypes=(t0::gn).toArray:=by rw[<-ko]
  subst zh;split at h
  ·rename_i e base n c he;have hu:=kn he;split at h
   ·rename_i z zv hz hzv;obtain⟨uf,wP⟩:=fd hzv w;split at h
    ·rename_i hn;subst hn;injection h with h;subst h;refine⟨w,?_,hW,dE.refl _ _ _⟩;cases hx<;>simp[Builtin.clear_,bn hu]
    ·rename_i hn;split at h
     ·cases h
     ·rename_i a;split at h
      ·rename_i hc;cases hx with
       |cD _ a' _ g hg kT=>exact absurd rfl hn
       |slice _ _ _ c' g hg mb kT=>obtain⟨w2,k1,k2,k3⟩:=nS (P:=P) hW h hg (LR.jt (σ:=σ) (λ_=>dx) hc.1);refine⟨w2,?_,k2,k3⟩;obtain⟨m,rfl⟩:∃m,n=m+1:=⟨n-1,by omega⟩;simp[Builtin.clear_,bn hu,uf,k1]
      ·cases h
   ·cases h
  ·cases h
 ·cases h
def QK(k:aK)(n:Int)(h:k.min<=n/\n<=k.max):k.wrap n=n:=by obtain⟨h1,h2⟩:=h;cases k<;>simp[IntKind.wrap,IntKind.min,IntKind.max,IntKind.signed,IntKind.bits]at * <;>omega
def v8(k:aK)(n:Int):Int:=if k.min<=n/\n<=k.max then n else k.wrap n
def tf(k:aK)(n:Int):v8 k n=k.wrap n:=by
 unfold v8;split
 ·rename_i h;exact(QK k n h).symm
 ·rfl
def rH(k:aK)(n:Int):ae:=
 Int.rec (motive:=λ_=>ae) (λa=>Nat.rec (motive:=λ_=>ae) (.int k (.ofNat 0)) (λm _=>.int k (.ofNat (Nat.succ m))) a)
  (λa=>Nat.rec (motive:=λ_=>ae) (.int k (.negSucc 0)) (λm _=>.int k (.negSucc (Nat.succ m))) a) n
def m0(k:aK)(n:Int):rH k n=.int k n:=by
 cases n with
 |ofNat a=>cases a<;>rfl
 |negSucc a=>cases a<;>rfl
def zU(op:BinOp)(k:aK)(a b:Int):Option ae:=
 match op with
 |.add=>some (rH k (v8 k (a+b)))
 |.sub=>some (rH k (v8 k (a-b)))
 |.mul=>some (rH k (v8 k (a*b)))
 |.eql=>some (.bool (decide (a=b)))
 |.neq=>some (.bool (!decide (a=b)))
 |.lss=>some (.bool (decide (a<b)))
 |.leq=>some (.bool (decide (a<=b)))
 |.gtr=>some (.bool (decide (b<a)))
 |.geq=>some (.bool (decide (b<=a)))
 |_=>none
def jB(P:ag)(W:AW)(t:ah)(x y:ae):Option Bool:=
 match P.underlying t,x,y with
 |some (.pointer _),.pointer none,.pointer b=>some b.isNone
 |some (.pointer _),.pointer (some _),.pointer none=>some false
 |some (.pointer e),.pointer (some a),.pointer (some b)=>match jq P e with
  |some (_+1)=>match W.get a.block,W.get b.block with
   |some (.cells ca),some (.cells cb)=>if a.block=b.block then some (decide (a.off=b.off))else if a.off<ca.length/\b.off<cb.length then some false else none
   |_,_=>none
  |_=>none
 |some (.slice _),.slice none _ _,.slice b _ _=>some b.isNone
 |some (.slice _),.slice (some _) _ _,.slice none _ _=>some false
 |some (.map _ _),.map none,.map b=>some b.isNone
 |some (.map _ _),.map (some _),.map none=>some false
 |some (.func _ _ _),.nilFunc,.nilFunc=>some true
 |some (.func _ _ _),.nilFunc,.func _ _ _=>some false
 |some (.func _ _ _),.func _ _ _,.nilFunc=>some false
 |_,_,_=>none
def Oo(hW:aX σ W w.heap){t:ah}{x y x' y':ae}{b:Bool}(h:jB P W t x y=some b)(hx:VR σ x x')(hy:VR σ y y')(d:Nat):
 (Op.equalIn (d+1) t x' y').run P w=.ok b w:=by
 unfold jB at h;split at h
 ·rename_i e b0 hu;injection h with h;subst h;cases hx;cases hy<;>simp[Op.equalIn,bn hu]
 ·rename_i e a0 hu;injection h with h;subst h;cases hx;cases hy;simp[Op.equalIn,bn hu]
 ·rename_i e a0 b0 hu;split at h
  ·rename_i n hn;split at h
   ·split at h
    ·rename_i WR;injection h with h;subst h;cases hx with
     |ptr _ g hg hs=>
      cases hy with
      |ptr _ g2 D3 oS=>
       rw[<-WR,hg]at D3;injection D3 with D3;subst D3;have aeA:((⟨g.B,g.s+a0.off,none⟩:aM)==⟨g.B,g.s+b0.off,none⟩)=decide (a0.off=b0.off):=by rw[o7];simp
       simp[Op.equalIn,bn hu,be hn,sameAddr,aeA]
    ·rename_i ca cb hca AI WR;split at h
     ·rename_i iU;injection h with h;subst h;cases hx with
      |ptr _ g hg hs=>
       cases hy with
       |ptr _ g2 D3 oS=>
        obtain⟨c1,t1,fr1,p1,p0,p2,p3,_⟩:=hW.obj _ _ g hca hg;obtain rfl:=p0 (by omega);obtain⟨c2,t2,fr2,q1,q0,q2,q3,_⟩:=hW.obj _ _ g2 AI D3;obtain rfl:=q0 (by omega);have hd:=hW.lP _ _ _ _ g g2 WR hca AI hg D3 rfl;have dQ:(⟨g.B,g.s+a0.off,none⟩:aM)≠⟨g2.B,g2.s+b0.off,none⟩:=by
         intro he;injection he with e1 e2 _;rcases hd with r|r|r
         ·exact r e1
         ·omega
         ·omega
        simp[Op.equalIn,bn hu,be hn,run_sameAddr_other w dQ p1 q1]
     ·cases h
   ·cases h
  ·cases h
 ·rename_i e _ _ b0 _ _ hu;injection h with h;subst h;cases hx;cases hy<;>simp[Op.equalIn,bn hu]
 ·rename_i e a0 _ _ _ _ hu;injection h with h;subst h;cases hx<;>cases hy<;>simp[Op.equalIn,bn hu]
 ·rename_i k e b0 hu;injection h with h;subst h;cases hx;cases hy<;>simp[Op.equalIn,bn hu]
 ·rename_i k e a0 hu;injection h with h;subst h;cases hx;cases hy;simp[Op.equalIn,bn hu]
 ·rename_i ps rs vv hu;injection h with h;subst h;cases hx;cases hy;simp[Op.equalIn,bn hu]
 ·rename_i ps rs vv _ _ _ hu;injection h with h;subst h;cases hx;cases hy;simp[Op.equalIn,bn hu]
 ·rename_i ps rs vv _ _ _ hu;injection h with h;subst h;cases hx;cases hy;simp[Op.equalIn,bn hu]
 ·cases h
end
end
section
variable [aj]
section
variable {P:ag} {σ:cm} {W:AW} {w:ap}
def FR(σ:cm):Option (Nat×ae)->Option (Nat×ae)->Prop
 |none,none=>True
 |some (i,v),some (j,v')=>i=j/\VR σ v v'
 |_,_=>False
def ER.of_cons{e:aV}{l m:List aV}(h:ER σ (e::l) m):∃e' l',m=e'::l'/\VR σ e.key e'.key/\VR σ e.val e'.val/\e.born=e'.born/\ER σ l l':=by
 cases m with
 |nil=>have:=h.1;simp at this
 |cons e' l'=>have h0:=h.2 0 e e' (by simp) (by simp);exact⟨e',l',rfl,h0.1,h0.2.1,h0.2.2,by have:=h.1;simpa using this,λi u u' a b=>h.2 (i+1) u u' (by simpa using a) (by simpa using b)⟩
def ER.of_nil{m:List aV}(h:ER σ [] m):m=[]:=by have:=h.1;simp at this;exact pr this.symm
def ER.nil:ER σ [] []:=⟨rfl,λi e e' a=>by simp at a⟩
def fe(es:List aV):Bool:=es.all λe=>a7 e.key
def Dz(kind:TypeDesc)(k:ae):∀(es eR:List aV) (i:Nat) (r:Option (Nat×ae)),ER σ es eR->fe es=true->Instr.findNow kind k es i=some r->
 ∃r',Instr.findNow kind k eR i=some r'/\FR σ r r':=by
 intro es;induction es with
 |nil=>intro eR i r h _ hf;have:=h.of_nil;subst this;simp only[Instr.findNow]at hf|-;injection hf with hf;subst hf;exact⟨none,rfl,aF⟩
 |cons e es ih=>
  intro eR i r h hp hf;obtain⟨e',l',rfl,hk,hv,_,hl⟩:=h.of_cons;simp only[fe,fa,bm]at hp;have OZ:=dU hp.1 hk;simp only[Instr.findNow]at hf|-;rw[OZ];cases hs:Instr.sameNow kind k e.key with
  |none=>rw[hs]at hf;cases hf
  |some b=>
   rw[hs]at hf;cases b with
   |true=>simp only at hf|-;injection hf with hf;subst hf;exact⟨_,rfl,rfl,hv⟩
   |false=>simp only at hf|-;exact ih l' (i+1) r hl hp.2 hf
def KB(P:ag)(kt:ah)(k:ae):List aV->Nat->Option (Option (Nat×ae))
 |[],_=>some none
 |e::es,i=>match bI P (Op.equal kt k e.key)with
  |some true=>some (some (i,e.val))
  |some false=>KB P kt k es (i+1)
  |none=>none
def pX(kt:ah)(k:ae):∀(es eR:List aV) (i:Nat) (r:Option (Nat×ae)),ER σ es eR->fe es=true->KB P kt k es i=some r->
 ∃r',(Instr.findAsking kt k eR i).run P w=.ok r' w/\FR σ r r':=by
 intro es;induction es with
 |nil=>intro eR i r h _ hf;have:=h.of_nil;subst this;simp only[KB]at hf;injection hf with hf;subst hf;exact⟨none,rfl,aF⟩
 |cons e es ih=>
  intro eR i r h hp hf;obtain⟨e',l',rfl,hk,hv,_,hl⟩:=h.of_cons;simp only[fe,fa,bm]at hp;have OZ:=dU hp.1 hk;simp only[KB]at hf;cases hs:bI P (Op.equal kt k e.key)with
  |none=>rw[hs]at hf;cases hf
  |some b=>
   rw[hs]at hf;have hr:=lX _ hs w;rw[<-OZ]at hr;cases b with
   |true=>simp only at hf;injection hf with hf;subst hf;exact⟨some (i,e'.val),by simp[Instr.findAsking,hr],rfl,hv⟩
   |false=>simp only at hf;obtain⟨r',h1,h2⟩:=ih l' (i+1) r hl hp.2 hf;exact⟨r',by simp[Instr.findAsking,hr,h1],h2⟩
def LO(P:ag)(kt:ah)(k:ae)(es:List aV):Option (Option (Nat×ae)):=
 if a7 k=true/\fe es=true then
  match P.underlying kt with
  |some kind=>match Instr.findNow kind k es 0 with
   |some r=>some r
   |none=>none
  |none=>none
 else none
def rL(P:ag)(kt:ah)(k:ae)(es:List aV):Option (Option (Nat×ae)):=
 match LO P kt k es with
 |some r=>some r
 |none=>if a7 k=true/\fe es=true then
  match P.underlying kt with
  |some (.array n e)=>(match Instr.findNow (.array n e) k es 0 with|some _=>none|none=>KB P kt k es 0)
  |some (.struct fs)=>(match Instr.findNow (.struct fs) k es 0 with|some _=>none|none=>KB P kt k es 0)
  |_=>none
  else none
def tl(kind:TypeDesc)(k:ae):∀(es eR:List aV) (i:Nat),ER σ es eR->fe es=true->Instr.findNow kind k es i=none->Instr.findNow kind k eR i=none:=by
 intro es;induction es with
 |nil=>intro eR i h _ hf;simp[Instr.findNow]at hf
 |cons e es ih=>
  intro eR i h hp hf;obtain⟨e',l',rfl,hk,hv,_,hl⟩:=h.of_cons;simp only[fe,fa,bm]at hp;have OZ:=dU hp.1 hk;simp only[Instr.findNow]at hf|-;rw[OZ];cases hs:Instr.sameNow kind k e.key with
  |none=>rfl
  |some b=>
   rw[hs]at hf;cases b with
   |true=>simp at hf
   |false=>simp only at hf|-;exact ih l' (i+1) hl hp.2 hf
def mL{kt:ah}{k k':ae}{es eR:List aV}{r:Option (Nat×ae)}(h:rL P kt k es=some r)(hk:VR σ k k')(he:ER σ es eR):
 ∃r',(Instr.findKey kt k' eR).run P w=.ok r' w/\FR σ r r'/\k'=k:=by
 unfold rL at h;split at h
 ·rename_i r0 h0;injection h with h;subst h;unfold LO at h0;split at h0
  ·rename_i hc;have OZ:=dU hc.1 hk;subst OZ;split at h0
   ·rename_i kind hu;split at h0
    ·rename_i r1 h1;injection h0 with h0;subst h0;obtain⟨r',a,b⟩:=Dz kind k' es eR 0 r1 he hc.2 h1;exact⟨r',by simp[Instr.findKey,bn hu,a],b,rfl⟩
    ·cases h0
   ·cases h0
  ·cases h0
 ·split at h
  ·rename_i hc;have OZ:=dU hc.1 hk;subst OZ;split at h
   ·rename_i n e hu;split at h
    ·cases h
    ·rename_i h1;obtain⟨r',a,b⟩:=pX (P:=P) (w:=w) kt k' es eR 0 r he hc.2 h;exact⟨r',by simp[Instr.findKey,bn hu,tl _ _ es eR 0 he hc.2 h1,a],b,rfl⟩
   ·rename_i fs hu;split at h
    ·cases h
    ·rename_i h1;obtain⟨r',a,b⟩:=pX (P:=P) (w:=w) kt k' es eR 0 r he hc.2 h;exact⟨r',by simp[Instr.findKey,bn hu,tl _ _ es eR 0 he hc.2 h1,a],b,rfl⟩
   ·cases h
  ·cases h
def pn(P:ag)(empty:Bool)(kt:ah)(k:ae):Bool:=
 a7 k&&(bI P (Instr.checkKey empty 10000 kt k)).isSome
def gZ{empty:Bool}{kt:ah}{k k':ae}(h:pn P empty kt k=true)(hk:VR σ k k')(w:ap):(Instr.checkKey empty 10000 kt k').run P w=.ok () w:=by
 simp only[pn,bm]at h;rw[dU h.1 hk];cases hp:bI P (Instr.checkKey empty 10000 kt k)with
 |none=>rw[hp]at h;simp at h
 |some u=>exact lX _ hp w
def wU{z:ae}(h:z.cells.toList.all bZ=true):VR σ z z:=by
 cases z with
 |agg cs=>exact VR.F2 (LR.jt (λ_=>dx) h)
 |_=>exact dx (by simpa[Value.cells]using h)
def wR(hW:aX σ W w.heap){r:Nat}{g:pY}{es:List aV}{c:Nat}(hr:W.get r=some (.map es c))(hg:σ r=some g):
 g.s=0/\g.e=1/\∃eR:Array aV,w.heap[g.B]? =some (.map eR c)/\ER σ es eR.toList:=hW.obj r _ g hr hg
def run_getObj_map{B:Nat}{es:Array aV}{c:Nat}(h:w.heap[B]? =some (.map es c)):(getObj B).run P w=.ok (.map es c) w:=by simp[getObj,Sem.run,h]
def iG{B:Nat}{es:Array aV}{c:Nat}(o:kb)(h:w.heap[B]? =some (.map es c)):(setObj B o).run P w=.ok () {w with heap:=w.heap.setIfInBounds B o}:=by simp[setObj,Sem.run,h]
def rz(P:ag)(e:ah)(ok:Bool)(r:Option (Nat×ae)):Option ae:=
 match r with
 |some (_,v)=>some (if ok then .tuple #[v,.bool true]else v)
 |none=>match iu P e with
  |some z=>some (if ok then .tuple #[z,.bool false]else z)
  |none=>none
def jv(P:ag)(W:AW)(t:ah)(m k:ae)(ok:Bool):Option ae:=
 match P.underlying t,m with
 |some (.map kt e),.map none=>if pn P true kt k then rz P e ok none else none
 |some (.map kt e),.map (some r)=>match W.get r with
  |some (.map es _)=>if pn P es.isEmpty kt k then match rL P kt k es with
   |some r=>rz P e ok r
   |none=>none
   else none
  |_=>none
 |_,_=>none
def Bh{a b a' b':ae}(h1:VR σ a a')(h2:VR σ b b'):VR σ (.tuple #[a,b]) (.tuple #[a',b']):=VR.tuple' (by simpa using LR.cons h1 (.cons h2 .nil))
def CZ(kt:ah)(d:TypeDesc)(hu:P.underlying kt=some d)(k:ae):(Instr.findKey kt k []).run P w=.ok none w:=by simp[Instr.findKey,bn hu,Instr.findNow]
def zZ{kt:ah}(h:P.underlying kt=none)(empty:Bool)(d:Nat)(k:ae):(Instr.checkKey empty (d+1) kt k).run P w=.halt (.stuck "no such type") w:=by simp[Instr.checkKey,underlying,h]
def Ej{empty:Bool}{kt:ah}{k:ae}(h:pn P empty kt k=true):∃d,P.underlying kt=some d:=by
 simp only[pn,bm]at h;cases hp:bI P (Instr.checkKey empty 10000 kt k)with
 |none=>rw[hp]at h;simp at h
 |some u=>
  have hr:=lX (P:=P) _ hp default;cases hd:P.underlying kt with
  |some d=>exact⟨d,rfl⟩
  |none=>exfalso;have h1:(Instr.checkKey empty 10000 kt k).run P default=.halt (.stuck "no such type") default:=zZ hd empty 9999 k;rw[h1]at hr;cases hr
def vz{es:List aV}{eR:Array aV}(h:ER σ es eR.toList):eR.isEmpty=es.isEmpty:=by obtain⟨l⟩:=eR;have h1:=h.1;cases es<;>cases l<;>first|rfl|(simp at h1;done)|simp
def Bn(eR:Array aV)(i:Nat):(eR.eraseIdxIfInBounds i).toList=eR.toList.eraseIdx i:=by
 unfold Array.eraseIdxIfInBounds;split
 ·simp
 ·rename_i hi;rw[List.eraseIdx_of_length_le];simp;omega
def I5(eR:Array aV)(i:Nat)(hi:i<eR.size)(k v:ae):eR.modify i (λe=>{e with key:=k,val:=v})=eR.setIfInBounds i {eR[i]with key:=k,val:=v}:=by
 apply Array.ext_getElem?;intro n;rw[um,Cs];by_cases hn:i=n
 ·subst hn;simp[hi]
 ·simp[hn]
def DO(hW:aX σ W w.heap){t:ah}{m k m' k' v:ae}{ok:Bool}(h:jv P W t m k ok=some v)(hm:VR σ m m')(hk:VR σ k k'):
 ∃v',(Instr.lookup t m' k' ok).run P w=.ok v' w/\VR σ v v':=by
 unfold jv at h;split at h
 ·rename_i kt e hu;split at h
  ·rename_i JA;cases hm;obtain⟨d,hd⟩:=Ej JA;simp only[rz]at h;split at h
   ·rename_i z hz;injection h with h;subst h;obtain⟨uf,wP⟩:=fd hz w;refine⟨if ok then .tuple #[z,.bool false]else z,?_,?_⟩
    ·simp[Instr.lookup,bn hu,gZ JA hk w,CZ kt d hd,uf]
    ·cases ok
     ·exact wU wP
     ·exact Bh (wU wP) (.bool false)
   ·cases h
  ·cases h
 ·rename_i kt e r hu;split at h
  ·rename_i es c hr;split at h
   ·rename_i JA;split at h
    ·rename_i fr hf;cases hm with
     |map _ g hg=>
      obtain⟨g1,g2,eR,g3,g4⟩:=wR hW hr hg;obtain⟨r',f1,f2,f3⟩:=mL (w:=w) hf hk g4;have On:=vz g4;cases fr with
      |some p=>
       cases r' with
       |none=>exact f2.elim
       |some p'=>
        simp only[rz]at h;injection h with h;subst h;refine⟨if ok then .tuple #[p'.2,.bool true]else p'.2,?_,?_⟩
        ·simp only[Instr.lookup,bJ,bn hu,bG,run_getObj_map g3,eh,On,gZ JA hk w,f1]
        ·cases ok
         ·exact f2.2
         ·exact Bh f2.2 (.bool true)
      |none=>
       cases r' with
       |some p'=>exact f2.elim
       |none=>
        simp only[rz]at h;split at h
        ·rename_i z hz;injection h with h;subst h;obtain⟨uf,wP⟩:=fd hz w;refine⟨if ok then .tuple #[z,.bool false]else z,?_,?_⟩
         ·simp only[Instr.lookup,bJ,bn hu,bG,run_getObj_map g3,eh,On,gZ JA hk w,f1,uf]
         ·cases ok
          ·exact wU wP
          ·exact Bh (wU wP) (.bool false)
        ·cases h
    ·cases h
   ·cases h
  ·cases h
 ·cases h
def gR(P:ag)(W:AW)(t:ah)(m k v:ae):Option AW:=
 match P.underlying t,m with
 |some (.map kt _),.map (some r)=>match W.get r with
  |some (.map es c)=>if pn P false kt k then match rL P kt k es with
   |some (some (i,_))=>match es[i]? with
    |some e=>if Instr.sameBits 10000 e.key k=true/\a7 e.key=true then some (W.put r (.map (es.set i {e with key:=k,val:=v}) c))else none
    |none=>none
   |some none=>some (W.put r (.map (es++[{key:=k,val:=v,born:=c}]) (c+1)))
   |none=>none
   else none
  |_=>none
 |_,_=>none
def ER.set{es eR:List aV}(h:ER σ es eR)(i:Nat){e e':aV}(hk:VR σ e.key e'.key)(hv:VR σ e.val e'.val)(hb:e.born=e'.born):ER σ (es.set i e) (eR.set i e'):=by
 refine⟨by simp[h.1],λj a b x y=>?_⟩;rw[nY]at x y;by_cases hn:i=j
 ·subst hn;simp only[bc]at x y;split at x
  ·split at y
   ·simp at x y;subst x;subst y;exact⟨hk,hv,hb⟩
   ·cases y
  ·cases x
 ·rw[ay hn]at x y;exact h.2 j a b x y
def ER.snoc{es eR:List aV}(h:ER σ es eR){e e':aV}(hk:VR σ e.key e'.key)(hv:VR σ e.val e'.val)(hb:e.born=e'.born):ER σ (es++[e]) (eR++[e']):=by
 refine⟨by simp[h.1],λj a b x y=>?_⟩;rw[sf]at x y;rw[<-h.1]at y;split at x
 ·rename_i hj;rw[ax hj]at y;exact h.2 j a b x y
 ·rename_i hj;rw[ay hj]at y;cases hjj:j-es.length with
  |zero=>rw[hjj]at x y;simp at x y;subst x;subst y;exact⟨hk,hv,hb⟩
  |succ n=>rw[hjj]at x;simp at x
def ER.erase{es eR:List aV}(h:ER σ es eR)(i:Nat):ER σ (es.eraseIdx i) (eR.eraseIdx i):=by
 refine⟨by simp[List.length_eraseIdx,h.1],λj a b x y=>?_⟩;rw[List.getElem?_eraseIdx]at x y;split at x
 ·rename_i hj;rw[ax hj]at y;exact h.2 _ a b x y
 ·rename_i hj;rw[ay hj]at y;exact h.2 _ a b x y
def wY(hW:aX σ W w.heap){r:Nat}{g:pY}{es Pj:List aV}{eR:Array aV}{c c2:Nat}(hr:W.get r=some (.map es c))(hg:σ r=some g)(h1:g.s=0)(h2:g.e=1)(h3:w.heap[g.B]? =some (.map eR c))
 (Qb:Array aV)(he:ER σ Pj Qb.toList):
 aX σ (W.put r (.map Pj c2)) (w.heap.setIfInBounds g.B (.map Qb c2))/\dE σ W w σ (W.put r (.map Pj c2)) {w with heap:=w.heap.setIfInBounds g.B (.map Qb c2)}:=by
 have fy:g.B<w.heap.size:=(cQ.1 h3).1;exact hW.setObj hr (λ_ hx=>by cases hx) hg ⟨h1,h2⟩ (λc t fr hx=>by rw[h3]at hx;cases hx)
  ⟨h1,h2,Qb,by simp[fy],he⟩
def y6(hW:aX σ W w.heap){t:ah}{m k v m' k' v':ae}{W':AW}(h:gR P W t m k v=some W')(hm:VR σ m m')(hk:VR σ k k')(hv:VR σ v v'):
 ∃w',(Instr.mapUpdate t m' k' v').run P w=.ok () w'/\aX σ W' w'.heap/\dE σ W w σ W' w':=by
 unfold gR at h;split at h
 ·rename_i kt e r hu;split at h
  ·rename_i es c hr;split at h
   ·rename_i JA;cases hm with
    |map _ g hg=>
     obtain⟨g1,g2,eR,g3,g4⟩:=wR hW hr hg;split at h
     ·rename_i i u hf;obtain⟨r',f1,f2,f3⟩:=mL (w:=w) hf hk g4;subst f3;split at h
      ·rename_i en V5;split at h
       ·rename_i hsb;injection h with h;subst h;cases r' with
        |none=>exact f2.elim
        |some p=>
         obtain⟨j,u'⟩:=p;obtain⟨rfl,_⟩:=f2;have mJ:i<eR.size:=by have h0:=(cr.1 V5).1;have:=g4.1;simp at this;omega
         have aeH:eR[i]? =some eR[i]:=ft mJ;have hee:=g4.2 i en eR[i] V5 (by simp[mJ]);have aej:eR[i].key=en.key:=dU hsb.2 hee.1;obtain⟨q1,q2⟩:=wY (c2:=c) hW hr hg g1 g2 g3 (eR.setIfInBounds i {eR[i]with key:=k',val:=v'}) (Pj:=es.set i {en with key:=k',val:=v})
          (by rw[Cc];exact g4.set i (e:={en with key:=k',val:=v}) (e':={eR[i]with key:=k',val:=v'}) hk hv hee.2.2)
         refine⟨_,?_,q1,q2⟩;have T2:=I5 eR i mJ k' v';have hks:(Instr.keyThatStays (((eR[i]?).map (·.key)).getD k') k').run P w=.ok k' w:=by rw[aeH];simp only[bR,nO,aej,Instr.keyThatStays];rw[ax hsb.1];rfl
         simp only[Instr.mapUpdate,bJ,bn hu,bG,run_getObj_map g3,gZ JA hk w,f1,hks,T2];exact iG _ g3
       ·cases h
      ·cases h
     ·rename_i hf;obtain⟨r',f1,f2,f3⟩:=mL (w:=w) hf hk g4;subst f3;injection h with h;subst h;cases r' with
      |some p=>exact f2.elim
      |none=>
       obtain⟨q1,q2⟩:=wY (c2:=c+1) hW hr hg g1 g2 g3 (eR.push {key:=k',val:=v',born:=c}) (Pj:=es++[{key:=k',val:=v,born:=c}])
        (by rw[Array.toList_push];exact g4.snoc (e:={key:=k',val:=v,born:=c}) (e':={key:=k',val:=v',born:=c}) hk hv rfl)
       refine⟨_,?_,q1,q2⟩;simp only[Instr.mapUpdate,bJ,bn hu,bG,run_getObj_map g3,gZ JA hk w,f1];exact iG _ g3
     ·cases h
   ·cases h
  ·cases h
 ·cases h
def ku(P:ag)(W:AW)(argTypes:Array ah)(m k:ae):Option AW:=
 match argTypes.toList with
 |t::_=>match P.underlying t,m with
  |some (.map kt _),.map none=>if pn P true kt k then some W else none
  |some (.map kt _),.map (some r)=>match W.get r with
   |some (.map es c)=>if pn P es.isEmpty kt k then match rL P kt k es with
    |some (some (i,_))=>some (W.put r (.map (es.eraseIdx i) c))
    |some none=>some (W.put r (.map es c))
    |none=>none
    else none
   |_=>none
  |_,_=>none
 |[]=>none
def C6(hW:aX σ W w.heap){argTypes:Array ah}{ty:ah}{m k m' k':ae}{W':AW}(h:ku P W argTypes m k=some W')(hm:VR σ m m')(hk:VR σ k k'):
 ∃w',(Builtin.delete_ argTypes ty #[m',k']).run P w=.ok (.tuple #[]) w'/\aX σ W' w'.heap/\dE σ W w σ W' w':=by
 unfold ku at h;split at h
 ·rename_i t gn ko;have zh:argTypes=(t::gn).toArray:=by rw[<-ko]
  subst zh;split at h
  ·rename_i kt e hu;split at h
   ·rename_i JA;injection h with h;subst h;cases hm;refine⟨w,?_,hW,dE.refl _ _ _⟩;simp[Builtin.delete_,bn hu,gZ JA hk w]
   ·cases h
  ·rename_i kt e r hu;split at h
   ·rename_i es c hr;split at h
    ·rename_i JA;cases hm with
     |map _ g hg=>
      obtain⟨g1,g2,eR,g3,g4⟩:=wR hW hr hg;have On:=vz g4;split at h
      ·rename_i i u hf;obtain⟨r',f1,f2,f3⟩:=mL (w:=w) hf hk g4;subst f3;injection h with h;subst h;cases r' with
       |none=>exact f2.elim
       |some p=>
        obtain⟨j,u'⟩:=p;obtain⟨rfl,_⟩:=f2;obtain⟨q1,q2⟩:=wY (c2:=c) hW hr hg g1 g2 g3 (eR.eraseIdxIfInBounds i) (Pj:=es.eraseIdx i)
         (by rw[Bn];exact g4.erase i)
        refine⟨_,?_,q1,q2⟩;have hso:=iG (P:=P) (.map (eR.eraseIdxIfInBounds i) c) g3;simp[Builtin.delete_,bn hu,run_getObj_map g3,On,gZ JA hk w,f1,hso]
      ·rename_i hf;obtain⟨r',f1,f2,f3⟩:=mL (w:=w) hf hk g4;subst f3;injection h with h;subst h;cases r' with
       |some p=>exact f2.elim
       |none=>obtain⟨q1,q2⟩:=wY (c2:=c) hW hr hg g1 g2 g3 eR (Pj:=es) g4;refine⟨_,?_,q1,q2⟩;have hso:=iG (P:=P) (.map eR c) g3;simp[Builtin.delete_,bn hu,run_getObj_map g3,On,gZ JA hk w,f1,hso]
      ·cases h
    ·cases h
   ·cases h
  ·cases h
 ·cases h
end
end
section
variable [aj]
def sE(P:ag)(t:ah)(cs:Array ae)(off:Nat):Option ae:=
 match Jc P t with
 |some true=>match jq P t with
  |some n=>some (.agg (cs.extract off (off+n)))
  |none=>none
 |some false=>cs[off]?
 |none=>none
def MS(P:ag)(g:ah->ae->ae->Option Bool)(xs ys:Array ae):List Field->Option Bool
 |[]=>some true
 |f::fs=>if f.name= "_" then none else match sE P f.type xs f.offset,sE P f.type ys f.offset with
  |some a,some b=>(match g f.type a b with
   |some true=>MS P g xs ys fs
   |some false=>some false
   |none=>none)
  |_,_=>none
def Gk(P:ag):Nat->ah->ae->ae->Option Bool
 |0,_,_,_=>none
 |n+1,t,x,y=>match P.underlying t with
  |some (.int _)=>(match x,y with
   |.int k a,.int k' b=>if k=k' then some (a==b)else none
   |_,_=>none)
  |some .bool=>(match x,y with
   |.bool a,.bool b=>some (a==b)
   |_,_=>none)
  |some (.struct fs)=>(match x,y with
   |.agg xs,.agg ys=>if P.stoodInHeld t=true then none else MS P (Gk P n) xs ys fs.toList
   |_,_=>none)
  |_=>none
def yB(P:ag)(t:ah)(x y:ae):Option Bool:=match x,y with
 |.agg _,.agg _=>if P.eqGuardType P.depth t=true then none else Gk P 8 t x y
 |_,_=>none
def lK(P:ag)(W:AW)(op:BinOp)(t:ah)(x y:ae):Option ae:=
 match x,y with
 |.int k a,.int k' b=>if k=k' then zU op k a b else none
 |_,_=>match op with
  |.eql=>(match jB P W t x y with
   |some b=>some (.bool b)
   |none=>(yB P t x y).map .bool)
  |.neq=>(match jB P W t x y with
   |some b=>some (.bool !b)
   |none=>(yB P t x y).map λb=>.bool !b)
  |_=>none
def jL(t:ah)(cs:List ae):de:=match cs with
 |[.pointer none,.slice none 0 0]=>.tc t [.pointer none,.slice none 0 0]
 |cs=>.cells cs
def zW(P:ag)(o:am)(R:aj.Fr)(W:AW):Option (ae×AW):=
 match o.op with
 |.move x|.assign x=>some (aw R x,W)
 |.pick c a b=>match aw R c with
  |.bool true=>some (aw R a,W)
  |.bool false=>some (aw R b,W)
  |_=>none
 |.alloc t=>match iu P t with
  |some z=>some (W.new (jL t z.cells.toList) λb W'=>(Value.pointer (some ⟨b,0,none⟩),W'))
  |none=>none
 |.box _ x=>some (W.new (.cells (aw R x).cells.toList) λb W'=>(Value.pointer (some ⟨b,0,none⟩),W'))
 |.build t ps=>(rn P R t ps).map λv=>(v,W)
 |.buildSlice t len ps=>g9 P R W t len ps
 |.load t a=>(gK P W t (aw R a)).map λv=>(v,W)
 |.store t a x=>(rT P W t (aw R a) (aw R x)).map λW'=>(ai,W')
 |.nilCheck x=>match aw R x with
  |.pointer (some a)=>some (.pointer (some a),W)
  |.func (.func f) a b=>some (.func (.func f) a b,W)
  |.func (.yield l) a b=>some (.func (.yield l) a b,W)
  |.iface t v=>some (.iface t v,W)
  |_=>none
 |.binOp op t x y _=>match lK P W op t (aw R x) (aw R y)with
  |some v=>some (v,W)
  |none=>(fZ P R o).map λv=>(v,W)
 |.unOp .. =>(fZ P R o).map λv=>(v,W)
 |.convert s d x=>(xP P W s d (aw R x) (fZ P R o)).map λv=>(v,W)
 |.makeInterface t x=>match P.underlying t with
  |some (.interface _)=>none
  |some _=>some (.iface t (aw R x),W)
  |none=>none
 |.makeFunc (.func f) first gd=>some (.func (.func f) (first.map (aw R)) (gd.map (aw R)),W)
 |.makeMap t r=>match r with
  |none=>some (W.new (.map [] 0) λb W'=>(Value.map (some b),W'))
  |some h=>match P.underlying t,aw R h with
   |some (.map _ _),.int _ _=>some (W.new (.map [] 0) λb W'=>(Value.map (some b),W'))
   |_,_=>none
 |.makeSlice t l c=>jm P W t (aw R l) (aw R c)
 |.slice t x lo hi mx=>match jS P t (aw R x) (lo.map (aw R)) (hi.map (aw R)) (mx.map (aw R))with
  |some v=>some (v,W)
  |none=>(fZ P R o).map λv=>(v,W)
 |.fieldAddr s x f=>match P.underlying s,aw R x with
  |some (.struct fs),.pointer (some a)=>match fs[f]? with
   |some fl=>match jq P fl.type with
    |some (_+1)=>some (.pointer (some (a.add fl.offset)),W)
    |_=>none
   |none=>none
  |_,_=>none
 |.field t x f=>match P.underlying t,aw R x with
  |some (.struct fs),.agg cs=>match fs[f]? with
   |some fl=>(sE P fl.type cs fl.offset).map λv=>(v,W)
   |none=>none
  |_,_=>none
 |.indexAddr t x i=>match P.underlying t,aw R x,iX (aw R i)with
  |some (.slice e),.slice (some a) len _,some n=>match jq P e with
   |some z=>if n<len then some (.pointer (some (a.add (n*z))),W)else none
   |none=>none
  |some (.array len e),.pointer (some a),some n=>match jq P e with
   |some z=>if n<len then some (.pointer (some (a.add (n*z))),W)else none
   |none=>none
  |_,_,_=>none
 |.index t x i=>match P.underlying t,aw R x,iX (aw R i)with
  |some (.array len e),.agg cs,some n=>match jq P e with
   |some z=>if n<len then(sE P e cs (n*z)).map λv=>(v,W)else none
   |none=>none
  |_,_,_=>(fZ P R o).map λv=>(v,W)
 |.lookup t m k ok=>(jv P W t (aw R m) (aw R k) ok).map λv=>(v,W)
 |.mapUpdate t m k v=>(gR P W t (aw R m) (aw R k) (aw R v)).map λW'=>(ai,W')
 |.extract x i=>match aw R x with
  |.tuple vs=>(vs[i]?).map λv=>(v,W)
  |_=>none
 |.typeAssert x _ t ok=>match P.underlying t,aw R x with
  |some (.interface _),_=>none
  |some _,.iface u v=>if u=t then some (if ok then .tuple #[v,.bool true]else v,W)else none
  |_,_=>none
 |.range t x=>match P.underlying t,aw R x with
  |some .string,.string s=>some (W.new (.jy s 0) λb W'=>(Value.pointer (some ⟨b,0,none⟩),W'))
  |_,_=>none
 |.next it true=>match aw R it with
  |.pointer (some ⟨b,0,_⟩)=>match W.get b with
   |some (.jy s pos)=>if pos<s.size then some (.tuple #[.bool true,goInt pos,.int .i32 (Utf8.decode s pos).1],W.put b (.jy s (pos+(Utf8.decode s pos).2)))else some (.tuple #[.bool false],W)
   |_=>none
  |_=>none
 |_=>none
section
variable {P:ag} {σ:cm} {W:AW} {w:ap}
def VR.fA{b:Bool}{v:ae}(h:VR σ (.bool b) v):v=.bool b:=by cases h;rfl
def VR.yU{b:ByteArray}{v:ae}(h:VR σ (.string b) v):v=.string b:=by cases h;rfl
def VR.sK{a:aM}{v:ae}(h:VR σ (.pointer (some a)) v):∃g,σ a.block=some g/\a.spot=none/\v=.pointer (some ⟨g.B,g.s+a.off,none⟩):=by
 cases h with
 |ptr a g h hs=>exact⟨g,h,hs,rfl⟩
def VR.IC{a:aM}{l c:Nat}{v:ae}(h:VR σ (.slice (some a) l c) v):(∃g c',σ a.block=some g/\a.spot=none/\BC g a.off l c c'/\v=.slice (some ⟨g.B,g.s+a.off,none⟩) l c')\/(l=0/\∃a',v=.slice (some a') 0 0):=by
 cases h with
 |slice a l c c' g h hs hc=>exact .inl ⟨g,c',h,hs,hc,rfl⟩
 |cD a a' c g h hc=>exact .inr ⟨rfl,a',rfl⟩
def VR.ui{t:ah}{u v:ae}(h:VR σ (.iface t u) v):∃u',VR σ u u'/\v=.iface t u':=by
 cases h with
 |iface t u u' h=>exact⟨u',h,rfl⟩
def VR.HS{cs:Array ae}{v:ae}(h:VR σ (.agg cs) v):∃bP,LR σ cs.toList bP.toList/\v=.agg bP:=by
 cases h with
 |agg cs bP h1 h2=>exact⟨bP,.sj h1 h2,rfl⟩
def VR.Kb{cs:Array ae}{v:ae}(h:VR σ (.tuple cs) v):∃bP,LR σ cs.toList bP.toList/\v=.tuple bP:=by
 cases h with
 |tuple cs bP h1 h2=>exact⟨bP,.sj h1 h2,rfl⟩
def VR.iA{fn:Fn}{fs cs:Array ae}{v:ae}(h:VR σ (.func fn fs cs) v):∃zT pV bP,N6 σ fn zT/\LR σ fs.toList pV.toList/\LR σ cs.toList bP.toList/\v=.func zT pV bP:=by
 cases h with
 |func fn zT fs pV cs bP hf h1 h2 h3 h4=>exact⟨zT,pV,bP,hf,.sj h1 h2,.sj h3 h4,rfl⟩
def VR.mf{k:aK}{n:Int}{v:ae}(h:VR σ (.int k n) v):v=.int k n:=by cases h;rfl
def p8{t:ah}{cs bP:Array ae}{off:Nat}{v:ae}(h:sE P t cs off=some v)(hc:LR σ cs.toList bP.toList)(w:ap):
 ∃v',(part t bP off).run P w=.ok v' w/\VR σ v v':=by
 unfold sE at h;split at h
 ·rename_i ha;split at h
  ·rename_i n hn;injection h with h;subst h;refine⟨.agg (bP.extract off (off+n)),by simp[part,oy ha,be hn],VR.F2 ?_⟩;simp only[Array.toList_extract,BQ];exact(hc.drop off).take _
  ·cases h
 ·rename_i ha;obtain⟨v',h1,h2⟩:=hc.get (i:=off) (v:=v) (by simpa using h);refine⟨v',?_,h2⟩;have Nf:bP[off]? =some v':=by simpa using h1
  simp[part,oy ha,Nf]
 ·cases h
def VR.sF{xs:Array ae}{v:ae}(h:VR σ (.agg xs) v):∃ys,v=.agg ys/\LR σ xs.toList ys.toList:=by
 cases h with
 |agg _ bP h1 h2=>exact⟨bP,rfl,by simpa using h1,λi v v' a b=>h2 i v v' (by simpa using a) (by simpa using b)⟩
def L9:∀(n:Nat) {t:ah} {x y x' y':ae} {b:Bool},Gk P n t x y=some b->VR σ x x'->VR σ y y'->∀d,(Op.equalIn (n+d) t x' y').run P w=.ok b w:=by
 intro n;induction n with
 |zero=>intro t x y x' y' b h;cases h
 |succ n ih=>
  intro t x y x' y' b h hx hy d;rw[show n+1+d=(n+d)+1 by omega];unfold Gk at h;split at h
  ·rename_i k0 hu;split at h
   ·rename_i k a k' c;split at h
    ·rename_i hk;subst hk;injection h with h;subst h;rw[hx.mf,hy.mf];exact run_equalIn_int w _ t k k0 a c hu
    ·cases h
   ·cases h
  ·rename_i hu;split at h
   ·rename_i a c;injection h with h;subst h;rw[hx.fA,hy.fA];exact run_equalIn_bool' w _ t a c hu
   ·cases h
  ·rename_i fs hu;split at h
   ·rename_i xs ys;split at h
    ·cases h
    rename_i my;obtain⟨xs',rfl,Tg⟩:=hx.sF;obtain⟨ys',rfl,hys⟩:=hy.sF;have hfo:P.fieldsOf t=fs:=by unfold Program.fieldsOf;rw[hu]
    rw[run_equalIn_struct w (n+d) t xs' ys' (by rw[hfo];exact hu) (by simpa using my),hfo];generalize fs.toList=l at h;induction l with
    |nil=>injection h with h;subst h;simp[Op.eqFields]
    |cons f l ihl=>
     unfold MS at h;split at h
     ·cases h
     rename_i mR;split at h
     ·rename_i a c ha hc;obtain⟨a',ra,va⟩:=p8 (P:=P) ha Tg w;obtain⟨c',rc,vc⟩:=p8 (P:=P) hc hys w;unfold Op.eqFields;rw[ax mR,bJ,ra,bG,bJ,rc,bG,bJ];split at h
      ·rename_i he;rw[ih he va vc d,bG];simpa using ihl h
      ·rename_i he;injection h with h;subst h;rw[ih he va vc d,bG];simp
      ·cases h
     ·cases h
   ·cases h
  ·cases h
def Ml(P:ag)(W:AW)(t:ah)(a b:Array ae):jB P W t (.agg a) (.agg b)=none:=by
 unfold jB;cases P.underlying t with
 |none=>rfl
 |some d=>cases d<;>rfl
def Aj{P:ag}{t:ah}{x y:ae}{b:Bool}(h:yB P t x y=some b)(W:AW):jB P W t x y=none:=by
 unfold yB at h;split at h
 ·exact Ml P W t _ _
 ·cases h
def D8{t:ah}{x y x' y':ae}{b:Bool}(h:yB P t x y=some b)(hx:VR σ x x')(hy:VR σ y y')(p q:ao):
 (do eqGuard .eql t p q x' y';binOp .eql t x' y':Sem ae).run P w=.ok (.bool b) w/\(do eqGuard .neq t p q x' y';binOp .neq t x' y':Sem ae).run P w=.ok (.bool !b) w:=by
 unfold yB at h;split at h
 ·rename_i xs ys;split at h
  ·cases h
  rename_i hg;obtain⟨xs',rfl,Tg⟩:=hx.sF;obtain⟨ys',rfl,hys⟩:=hy.sF;have hr:(Op.equalIn 10000 t (.agg xs') (.agg ys')).run P w=.ok b w:=L9 (w:=w) 8 h hx hy 9992;have HK:P.eqGuardType P.depth t=false:=by simpa using hg
  refine⟨?_,?_⟩
  ·rw[bJ,run_eqGuard_agg _ _ _ _ _ _ _ HK,bG,run_eql_struct,hr,bG]
  ·rw[bJ,run_eqGuard_agg _ _ _ _ _ _ _ HK,bG,run_neq_struct,hr,bG]
 ·cases h
def LH(hW:aX σ W w.heap){op:BinOp}{t yt:ah}{x y:ao}{ρ:ao->ae}{u u' v:ae}{dst:Option Tmp}{type:ah}{pos:String}{after:Array Edge}{guard:Option (Nat×Bool)}
 (h:lK P W op t u u'=some v)(hx:VR σ u (ρ x))(hy:VR σ u' (ρ y)):
 ∃v',(execOp ρ {dst,op:=.binOp op t x y yt,type,pos,after,guard}).run P w=.ok (.value v') w/\VR σ v v':=by
 unfold lK at h;split at h
 ·rename_i k a k' b;split at h
  ·rename_i hk;subst hk;have ex:ρ x=.int k a:=hx.mf;have ey:ρ y=.int k b:=hy.mf;refine⟨v,?_,?_⟩
   ·have hg:∀(A B:ae),(eqGuard op t x y (.int k a) (.int k b)).run P w=.ok () w:=by intro _ _;unfold eqGuard;split<;>simp
    simp only[execOp,ex,ey,bJ,hg .nilIface .nilIface,bG];unfold zU at h;split at h<;>(try(cases h;done))<;>(injection h with h;subst h;try simp only[m0,tf])<;>
     simp[binOp,Op.intArith,Op.intCmp,bne]<;>(try rfl)
   ·unfold zU at h;split at h<;>(try(cases h;done))<;>(injection h with h;subst h;try simp only[m0])<;>first|exact .int _ _|exact .bool _
  ·cases h
 ·have key:∀b,jB P W t u u'=some b->(Op.equal t (ρ x) (ρ y)).run P w=.ok b w:=λb hb=>Oo hW hb hx hy 9999
  have shp:∀b,jB P W t u u'=some b->(∀(op:BinOp),(eqGuard op t x y (ρ x) (ρ y)).run P w=.ok () w)/\(binOp .eql t (ρ x) (ρ y)=(do pure (.bool (<-Op.equal t (ρ x) (ρ y)))))/\(binOp .neq t (ρ x) (ρ y)=(do pure (.bool (!(<-Op.equal t (ρ x) (ρ y)))))):=by
   intro b hb;unfold jB at hb;split at hb<;>first
    |(cases hb;done)
    |(generalize ρ x=rx at *
      generalize ρ y=ry at *
      cases hx<;>cases hy<;>refine⟨λop=>?_,rfl,rfl⟩<;>(unfold eqGuard;split<;>simp))
  split at h
  ·cases he:jB P W t u u' with
   |none=>
    rw[he]at h;cases ht:yB P t u u' with
    |none=>rw[ht]at h;cases h
    |some b=>rw[ht]at h;simp only[bR,fb]at h;subst h;have:=(D8 (w:=w) ht hx hy x y).1;exact⟨.bool b,by simp only[execOp];rw[bJ,this];rfl,.bool b⟩
   |some b=>rw[he]at h;simp only[fb]at h;subst h;obtain⟨s1,s2,s3⟩:=shp b he;exact⟨.bool b,by simp[execOp,s1,s2,key b he],.bool b⟩
  ·cases he:jB P W t u u' with
   |none=>
    rw[he]at h;cases ht:yB P t u u' with
    |none=>rw[ht]at h;cases h
    |some b=>rw[ht]at h;simp only[bR,fb]at h;subst h;have:=(D8 (w:=w) ht hx hy x y).2;exact⟨.bool (!b),by simp only[execOp];rw[bJ,this];rfl,.bool _⟩
   |some b=>rw[he]at h;simp only[fb]at h;subst h;obtain⟨s1,s2,s3⟩:=shp b he;exact⟨.bool (!b),by simp[execOp,s1,s3,key b he],.bool _⟩
  ·cases h
def qO(P:ag)(σ:cm)(W:AW)(w:ap)(s:Sem Next)(v:ae)(W':AW):Prop:=
 ∃σ' nx v' w',s.run P w=.ok nx w'/\(nx=.value v'\/(nx=.skip/\v'=ai))/\VR σ' v v'/\aX σ' W' w'.heap/\dE σ W w σ' W' w'
def qO.value{s:Sem ae}{v v':ae}{nx:Sem Next}(hn:nx=(do pure (.value (<-s))))(hW:aX σ W w.heap)(h:s.run P w=.ok v' w)(hv:VR σ v v'):qO P σ W w nx v W:=
 ⟨σ,.value v',v',w,by rw[hn];simp[h],.inl rfl,hv,hW,dE.refl _ _ _⟩
def qO.iF{s:Sem ae}{v:ae}{W':AW}{nx:Sem Next}(hn:nx=(do pure (.value (<-s))))(h:∃σ' v' w',s.run P w=.ok v' w'/\VR σ' v v'/\aX σ' W' w'.heap/\dE σ W w σ' W' w'):qO P σ W w nx v W':=by obtain⟨σ',v',w',h1,h2,h3,h4⟩:=h;exact⟨σ',.value v',v',w',by rw[hn];simp[h1],.inl rfl,h2,h3,h4⟩
def qO.unit{s:Sem Unit}{W':AW}{nx:Sem Next}(hn:nx=(do s;pure .skip))(h:∃w',s.run P w=.ok () w'/\aX σ W' w'.heap/\dE σ W w σ W' w'):qO P σ W w nx ai W':=by obtain⟨w',h1,h2,h3⟩:=h;exact⟨σ,.skip,ai,w',by rw[hn];simp[h1],.inr ⟨rfl,rfl⟩,.undef,h2,h3⟩
def qO.same{v v':ae}{nx:Sem Next}(hn:nx=pure (.value v'))(hW:aX σ W w.heap)(hv:VR σ v v'):qO P σ W w nx v W:=
 ⟨σ,.value v',v',w,by rw[hn];rfl,.inl rfl,hv,hW,dE.refl _ _ _⟩
def qO.Q8{R:aj.Fr}{ρ:ao->ae}{o:am}{v:ae}(hW:aX σ W w.heap)(h:fZ P R o=some v)(hρ:∀x∈o.op.operands,VR σ (aw R x) (ρ x)):qO P σ W w (execOp ρ o) v W:=by obtain⟨h1,h2⟩:=KA (P:=P) h hρ w;exact⟨σ,.value v,v,w,h1,.inl rfl,h2,hW,dE.refl _ _ _⟩
def Pz(hW:aX σ W w.heap)(t:ah){cs bP:List ae}(hc:LR σ cs bP):
 ∃σ' v' w',((do pure (.pointer (some (<-newRow t bP.toArray)))):Sem ae).run P w=.ok v' w'/\VR σ' (.pointer (some ⟨W.next,0,none⟩)) v'/\aX σ' (W.add (.cells cs)) w'.heap/\dE σ W w σ' (W.add (.cells cs)) w':=by
 obtain⟨h1,h2,h3,h4⟩:=rF (P:=P) hW t hc;have hv:=VR.ptr (σ:=bu σ W.next ⟨w.heap.size,0,cs.length⟩) ⟨W.next,0,none⟩ _ h2 rfl;exact⟨_,.pointer (some ⟨w.heap.size,0,none⟩),{w with heap:=w.heap.push (.cells bP.toArray t)},by simp[h1],by simpa using hv,h3,h4⟩
def Av(t:ah)(cs:List ae):∀ds,jL t cs≠ .ro ds:=by intro ds;unfold jL;split<;>simp
def zf{σ:cm}{h:Array kb}{B:Nat}{t:ah}{cs bP:List ae}(hc:LR σ cs bP)(hB:h[B]? =some (.cells bP.toArray t (0,0))):jh σ h ⟨B,0,cs.length⟩ (jL t cs):=by
 have hl:=hc.1;unfold jL;split
 ·refine⟨rfl,by simp,⟨by simp[maxLen],λ_=>rfl⟩,bP.toArray,hB,by simp,by simpa using hl,λi v hv=>?_⟩;obtain⟨v',a,b⟩:=hc.get hv;exact⟨v',by simpa using a,b⟩
 ·refine⟨bP.toArray,t,(0,0),hB,λ_=>rfl,by simp,by simp[hl],λi v hv=>?_⟩;obtain⟨v',a,b⟩:=hc.get hv;exact⟨v',by simpa using a,b⟩
def L8(hW:aX σ W w.heap)(t:ah){cs bP:List ae}(hc:LR σ cs bP):
 ∃σ' v' w',((do pure (.pointer (some (<-newRow t bP.toArray)))):Sem ae).run P w=.ok v' w'/\VR σ' (.pointer (some ⟨W.next,0,none⟩)) v'/\aX σ' (W.add (jL t cs)) w'.heap/\dE σ W w σ' (W.add (jL t cs)) w':=by
 have hv:=VR.ptr (σ:=bu σ W.next ⟨w.heap.size,0,cs.length⟩) ⟨W.next,0,none⟩ _ cz rfl;obtain⟨h3,h4⟩:=hW.alloc (o:=jL t cs) (x:=.cells bP.toArray t) (e:=cs.length) (zf (hc.mono (cA hW.fresh)) (by simp)) (Av t cs);exact⟨_,.pointer (some ⟨w.heap.size,0,none⟩),{w with heap:=w.heap.push (.cells bP.toArray t)},by simp[newRow],by simpa using hv,h3,h4⟩
def F9{R:aj.Fr}{ρ:ao->ae}{x:Option ao}(h:∀y,x=some y->VR σ (aw R y) (ρ y)):OR σ (x.map (aw R)) (x.map ρ):=by
 cases x with
 |none=>trivial
 |some y=>exact h y rfl
def wW{R:aj.Fr}{ρ:ao->ae}(a:Array ao)(h:∀y∈a,VR σ (aw R y) (ρ y)):LR σ (a.map (aw R)).toList (a.map ρ).toList:=by
 refine⟨by simp,λi v v' x y=>?_⟩;simp only[Array.toList_map,kN]at x y;cases hq:a.toList[i]? with
 |none=>rw[hq]at x;cases x
 |some q=>rw[hq]at x y;simp at x y;subst x;subst y;exact h q (by simpa using mD hq)
def HI(hW:aX σ W w.heap):
 ∃σ' v' w',((do pure (.map (some (<-newObj (.map #[] 0))))):Sem ae).run P w=.ok v' w'/\VR σ' (.map (some W.next)) v'/\aX σ' (W.add (.map [] 0)) w'.heap/\dE σ W w σ' (W.add (.map [] 0)) w':=by
 have h:=hW.alloc (o:=.map [] 0) (x:=.map #[] 0) (e:=1) ⟨rfl,rfl,#[],by rw[nz];simp,.nil⟩;exact⟨_,.map (some w.heap.size),{w with heap:=w.heap.push (.map #[] 0)},by simp,.map _ _ cz,h.1,h.2⟩
set_option maxHeartbeats 1000000 in
def H8(hW:aX σ W w.heap){o:am}{R:aj.Fr}{ρ:ao->ae}{v:ae}{W':AW}(h:zW P o R W=some (v,W'))(hρ:∀x∈o.op.operands,VR σ (aw R x) (ρ x)):
 qO P σ W w (execOp ρ o) v W':=by
 have D4:∀u,fZ P R o=some u->qO P σ W w (execOp ρ o) u W:=λu hu=>.Q8 hW hu hρ
 have fu:∀(x:Option ae),(x.map λv=>(v,W))=some (v,W')->x=some v/\W'=W:=by
  intro x hx;cases x with
  |none=>cases hx
  |some u=>simp at hx;exact⟨by rw[hx.1],hx.2.symm⟩
 have Ry:∀(x:Option AW),(x.map λW'=>(ai,W'))=some (v,W')->x=some W'/\v=ai:=by
  intro x hx;cases x with
  |none=>cases hx
  |some u=>simp at hx;exact⟨by rw[hx.2],hx.1.symm⟩
 obtain⟨dst,op,type,pos,after,guard⟩:=o;cases op<;>simp only[zW]at h<;>simp only[Op.operands]at hρ;case move x=>injection h with h;injection h with h1 h2;subst h1;subst h2;exact .same rfl hW (hρ x (by simp))
 case assign x=>injection h with h;injection h with h1 h2;subst h1;subst h2;exact .same rfl hW (hρ x (by simp))
 case pick c a b=>
  have hc:=hρ c (by simp);split at h<;>(try(cases h;done))<;>rename_i kT<;>rw[kT]at hc
  ·injection h with h;injection h with h1 h2;subst h1;subst h2;have:=hc.fA;exact⟨σ,.value (ρ a),ρ a,w,by simp[execOp,this,asBool],.inl rfl,hρ a (by simp),hW,dE.refl _ _ _⟩
  ·injection h with h;injection h with h1 h2;subst h1;subst h2;have:=hc.fA;exact⟨σ,.value (ρ b),ρ b,w,by simp[execOp,this,asBool],.inl rfl,hρ b (by simp),hW,dE.refl _ _ _⟩
 case alloc t=>
  split at h
  ·rename_i z hz;injection h with h;rw[AW.cF]at h;injection h with h1 h2;subst h1;subst h2;obtain⟨uf,wP⟩:=fd hz w;refine .iF rfl ?_;obtain⟨σ',v',w',a,b,c⟩:=L8 (P:=P) hW t (cs:=z.cells.toList) (bP:=z.cells.toList) (w7 wP);refine⟨σ',v',w',?_,b,c⟩;rw[<-a];simp[Instr.alloc,uf,newVar]
  ·cases h
 case box t x=>injection h with h;rw[AW.cF]at h;injection h with h1 h2;subst h1;subst h2;refine .iF rfl ?_;obtain⟨σ',v',w',a,b,c⟩:=Pz (P:=P) hW t (hρ x (by simp)).cells;refine⟨σ',v',w',?_,b,c⟩;rw[<-a];simp[Instr.box,newVar]
 case build t ps=>obtain⟨hb,rfl⟩:=fu _ h;obtain⟨v',h1,h2⟩:=Hf hb (λp hp=>hρ p.2 (by simp;exact⟨p.1,by simpa using hp⟩)) w;exact .value rfl hW h1 h2
 case buildSlice t len ps=>exact .iF rfl (wu hW h (λp hp=>hρ p.2 (by simp;exact⟨p.1,by simpa using hp⟩)))
 case insert=>cases h
 case load t a=>obtain⟨hb,rfl⟩:=fu _ h;obtain⟨v',h1,h2⟩:=Al hW hb (hρ a (by simp));exact .value rfl hW h1 h2
 case store t a x=>obtain⟨hb,rfl⟩:=Ry _ h;exact .unit rfl (Ho hW hb (hρ a (by simp)) (hρ x (by simp)))
 case ready=>cases h
 case waits=>cases h
 case nilCheck x=>
  have hx:=hρ x (by simp);split at h<;>(try(cases h;done))<;>rename_i kT<;>rw[kT]at hx<;>injection h with h<;>injection h with h1 h2<;>subst h1<;>subst h2
  ·obtain⟨g,_,_,e⟩:=hx.sK;exact⟨σ,.value (ρ x),ρ x,w,by simp[execOp,e],.inl rfl,hx,hW,dE.refl _ _ _⟩
  ·obtain⟨zT,pV,bP,hf,_,_,e⟩:=hx.iA;cases hf;exact⟨σ,.value (ρ x),ρ x,w,by simp[execOp,e],.inl rfl,hx,hW,dE.refl _ _ _⟩
  ·obtain⟨zT,pV,bP,hf,_,_,e⟩:=hx.iA;cases hf;exact⟨σ,.value (ρ x),ρ x,w,by simp[execOp,e],.inl rfl,hx,hW,dE.refl _ _ _⟩
  ·obtain⟨u',_,e⟩:=hx.ui;exact⟨σ,.value (ρ x),ρ x,w,by simp[execOp,e],.inl rfl,hx,hW,dE.refl _ _ _⟩
 case binOp op t x y yt=>
  split at h
  ·rename_i u hb;injection h with h;injection h with h1 h2;subst h1;subst h2;obtain⟨v',h1,h2⟩:=LH (dst:=dst) (type:=type) (pos:=pos) (after:=after) (guard:=guard) (yt:=yt) hW hb (hρ x (by simp)) (hρ y (by simp));exact⟨σ,.value v',v',w,h1,.inl rfl,h2,hW,dE.refl _ _ _⟩
  ·obtain⟨hb,rfl⟩:=fu _ h;exact D4 _ hb
 case unOp=>obtain⟨hb,rfl⟩:=fu _ h;exact D4 _ hb
 case convert s d x=>
  obtain⟨hb,rfl⟩:=fu _ h;unfold xP at hb;split at hb
  ·rename_i a0 n0 c0 tL;obtain⟨v',a,b⟩:=zG hW hb (by rw[<-tL];exact hρ x (by simp));exact .value rfl hW a b
  ·exact D4 _ hb
 case sliceToArrayPointer=>cases h
 case makeInterface t x=>
  split at h
  ·cases h
  ·rename_i d hd hu;injection h with h;injection h with h1 h2;subst h1;subst h2;refine .value rfl hW (v':=.iface t (ρ x)) ?_ (.iface _ _ _ (hρ x (by simp)));simp only[Instr.makeInterface,bJ,bn hu,bG];cases d<;>first|rfl|exact absurd rfl (hd _)
  ·cases h
 case makeFunc fn first gd=>
  cases fn<;>(try(simp only[]at h;cases h;done));rename_i f0;simp only at h;injection h with h;injection h with h1 h2;subst h1;subst h2;have k1:=wW first (λy hy=>hρ y (by simp[hy]))
  have k2:=wW gd (λy hy=>hρ y (by simp[hy]));exact .value (s:=Instr.makeFunc (.func f0) (first.map ρ) (gd.map ρ)) rfl hW rfl (.func _ _ _ _ _ _ (.func f0) k1.arr.1 k1.arr.2 k2.arr.1 k2.arr.2)
 case makeMap t r=>
  split at h
  ·injection h with h;rw[AW.cF]at h;injection h with h1 h2;subst h1;subst h2;refine .iF rfl ?_;obtain⟨σ',v',w',a,b,c⟩:=HI (P:=P) hW;exact⟨σ',v',w',by rw[<-a];simp[Instr.makeMap],b,c⟩
  ·rename_i hh;split at h
   ·rename_i kt e kd n hu he;injection h with h;rw[AW.cF]at h;injection h with h1 h2;subst h1;subst h2;refine .iF rfl ?_;obtain⟨σ',v',w',a,b,c⟩:=HI (P:=P) hW;have hv:=hρ hh (by simp);rw[he]at hv;exact⟨σ',v',w',by rw[<-a];simp[Instr.makeMap,bn hu,hv.mf,asInt,asIntOf],b,c⟩
   ·cases h
 case makeChan=>cases h
 case makeSlice t l c=>exact .iF rfl (yY hW h (hρ l (by simp)) (hρ c (by simp)))
 case slice t x lo hi mx=>
  split at h
  ·rename_i u hs;injection h with h;injection h with h1 h2;subst h1;subst h2;obtain⟨v',a,b⟩:=Hk hs (hρ x (by simp)) (F9 (λy hy=>hρ y (by simp[hy]))) (F9 (λy hy=>hρ y (by simp[hy]))) (F9 (λy hy=>hρ y (by simp[hy]))) w;exact .value rfl hW a b
  ·obtain⟨hb,rfl⟩:=fu _ h;exact D4 _ hb
 case fieldAddr s x f=>
  split at h
  ·rename_i fs a hu tL;split at h
   ·rename_i fl UK;split at h
    ·rename_i n hn;injection h with h;injection h with h1 h2;subst h1;subst h2;have hx:=hρ x (by simp);rw[tL]at hx;obtain⟨g,hg,mb,e⟩:=hx.sK;refine .value rfl hW (v':=.pointer (some ⟨g.B,g.s+(a.add fl.offset).off,none⟩)) ?_ (.ptr _ g (by rw[ff];exact hg) (kJ _ _ mb));simp[Instr.fieldAt,bn hu,UK,e,Instr.sureAddr,fieldPlace,be hn,cO,lU,jW]
    ·cases h
   ·cases h
  ·cases h
 case field t x f=>
  split at h
  ·rename_i fs cs hu tL;split at h
   ·rename_i fl UK;obtain⟨hb,rfl⟩:=fu _ h;have hx:=hρ x (by simp);rw[tL]at hx;obtain⟨bP,hc,e⟩:=hx.HS;obtain⟨v',a,b⟩:=p8 (P:=P) hb hc w;exact .value rfl hW (by simp[Instr.field,bn hu,UK,e,asAgg,a]) b
   ·cases h
  ·cases h
 case indexAddr t x i=>
  have hi:=hρ i (by simp);have hx:=hρ x (by simp);split at h
  ·rename_i e a len cap n hu tL hn;obtain⟨k,mJ⟩:=qk hn hi;rw[tL]at hx;split at h
   ·rename_i z hz;split at h
    ·rename_i fy;injection h with h;injection h with h1 h2;subst h1;subst h2;rcases hx.IC with⟨g,c',hg,mb,hc,e'⟩|⟨h0,_⟩
     ·refine .value rfl hW (v':=.pointer (some ⟨g.B,g.s+(a.add (n*z)).off,none⟩)) ?_ (.ptr _ g (by rw[ff];exact hg) (kJ _ _ mb));simp[Instr.indexAt,mJ,e',asIntOf,bn hu,fy,be hz,cO,lU,jW]
     ·omega
    ·cases h
   ·cases h
  ·rename_i len e a n hu tL hn;obtain⟨k,mJ⟩:=qk hn hi;rw[tL]at hx;split at h
   ·rename_i z hz;split at h
    ·rename_i fy;injection h with h;injection h with h1 h2;subst h1;subst h2;obtain⟨g,hg,mb,e'⟩:=hx.sK;refine .value rfl hW (v':=.pointer (some ⟨g.B,g.s+(a.add (n*z)).off,none⟩)) ?_ (.ptr _ g (by rw[ff];exact hg) (kJ _ _ mb));simp[Instr.indexAt,mJ,e',asIntOf,bn hu,Instr.sureAddr,fy,be hz,cO,lU,jW]
    ·cases h
   ·cases h
  ·cases h
 case index t x i=>
  have hi:=hρ i (by simp);have hx:=hρ x (by simp);split at h
  ·rename_i len e cs n hu tL hn;obtain⟨k,mJ⟩:=qk hn hi;rw[tL]at hx;split at h
   ·rename_i z hz;split at h
    ·rename_i fy;obtain⟨hb,rfl⟩:=fu _ h;obtain⟨bP,hc,e'⟩:=hx.HS;obtain⟨v',a,b⟩:=p8 (P:=P) hb hc w;exact .value rfl hW (by simp[Instr.index,mJ,e',asIntOf,bn hu,fy,be hz,a]) b
    ·cases h
   ·cases h
  ·obtain⟨hb,rfl⟩:=fu _ h;exact D4 _ hb
 case lookup t m k ok=>obtain⟨hb,rfl⟩:=fu _ h;obtain⟨v',a,b⟩:=DO hW hb (hρ m (by simp)) (hρ k (by simp));exact .value rfl hW a b
 case mapUpdate t m k u=>obtain⟨hb,rfl⟩:=Ry _ h;exact .unit rfl (y6 hW hb (hρ m (by simp)) (hρ k (by simp)) (hρ u (by simp)))
 case mapEntry=>cases h
 case entryStore=>cases h
 case range t x=>
  split at h
  ·rename_i s hu tL;injection h with h;rw[AW.cF]at h;injection h with h1 h2;subst h1;subst h2;have hx:=hρ x (by simp);rw[tL]at hx;have hal:=hW.alloc (o:=.jy s 0) (x:=.stringIter s 0) (e:=1) ⟨rfl,rfl,by rw[nz];simp⟩;have hv:=VR.ptr (σ:=bu σ W.next ⟨w.heap.size,0,1⟩) ⟨W.next,0,none⟩ _ cz rfl;exact .iF rfl ⟨_,.pointer (some ⟨w.heap.size,0,none⟩),{w with heap:=w.heap.push (.stringIter s 0)},by simp[Instr.range,bn hu,hx.yU],by simpa using hv,hal.1,hal.2⟩
  ·cases h
 case next it isS=>
  cases isS<;>simp only at h
  ·cases h
  have hx:=hρ it (by simp);split at h
  ·rename_i b sp Pf;rw[Pf]at hx;obtain⟨g,hg,mb,e⟩:=hx.sK;split at h
   ·rename_i s ps dL;obtain⟨g1,g2,g3⟩:=hW.obj b _ g dL hg;have GJ:(getObj g.B).run P w=.ok (.stringIter s ps) w:=by simp[getObj,Sem.run,g3]
    have e2:ρ it=.pointer (some ⟨g.B,0,none⟩):=by rw[e];simp[g1]
    split at h
    ·rename_i fy;injection h with h;injection h with h1 h2;subst h1;subst h2;have ac0:g.B<w.heap.size:=(cQ.1 g3).1;have hso:(setObj g.B (.stringIter s (ps+(Utf8.decode s ps).2))).run P w=.ok () {w with heap:=w.heap.setIfInBounds g.B (.stringIter s (ps+(Utf8.decode s ps).2))}:=by simp[setObj,Sem.run,g3]
     have hq:=hW.setObj (o':=.jy s (ps+(Utf8.decode s ps).2)) (x:=.stringIter s (ps+(Utf8.decode s ps).2)) dL (λ_ hx=>by cases hx) hg ⟨g1,g2⟩ (λc t fr hx=>by rw[g3]at hx;cases hx) ⟨g1,g2,by simp[ac0]⟩;exact .iF rfl ⟨σ,.tuple #[.bool true,goInt ps,.int .i32 (Utf8.decode s ps).1],_,by simp[Instr.next,e2,GJ,fy,hso],VR.tuple' (by simpa[goInt]using LR.cons (.bool true) (.cons (.int _ _) (.cons (.int _ _) .nil))),hq.1,hq.2⟩
    ·rename_i fy;injection h with h;injection h with h1 h2;subst h1;subst h2;exact .value rfl hW (v':=.tuple #[.bool false]) (by simp[Instr.next,e2,GJ,fy]) (VR.tuple' (by simpa using LR.cons (.bool false) .nil))
   ·cases h
  ·cases h
 case entry=>cases h
 case typeAssert x xt t ok=>
  split at h
  ·cases h
  ·rename_i d u v0 hd hu tL;split at h
   ·rename_i hut;subst hut;injection h with h;injection h with h1 h2;subst h1;subst h2;have hx:=hρ x (by simp);rw[tL]at hx;obtain⟨u',h1,e⟩:=hx.ui;refine .value rfl hW (v':=if ok then .tuple #[u',.bool true]else u') ?_ ?_
    ·simp only[Instr.typeAssert,bJ,bn hu,bG,e];cases d<;>first|(simp;done)|exact absurd rfl (hd _)
    ·cases ok
     ·exact h1
     ·exact Bh h1 (.bool true)
   ·cases h
  ·cases h
 case extract x i=>
  split at h
  ·rename_i vs tL;obtain⟨hb,rfl⟩:=fu _ h;have hx:=hρ x (by simp);rw[tL]at hx;obtain⟨bP,hc,e⟩:=hx.Kb;obtain⟨v',a,b⟩:=hc.get (i:=i) (v:=v) (by simpa using hb);have a':bP[i]? =some v':=by simpa using a
   exact .value rfl hW (v':=v') (by simp[Instr.extract,e,a']) b
  ·cases h
 case call=>cases h
 case go=>cases h
 case defer=>cases h
 case panic=>cases h
 case send=>cases h
 case recv=>cases h
 case select=>cases h
end
end
section
variable [aj]
abbrev Callee:=ae->List ae->AW->Option (ae×AW)
def FE(ro:Option Nat):Fence:={Fence.wide with round:=ro}
def fS(P:ag)(o:am)(b:Builtin)(argTypes:Array ah)(args:List ae)(R:aj.Fr)(W:AW):Option (ae×AW):=
 match b,args with
 |.len,[.slice _ n _]=>match(argTypes[0]?).bind P.underlying with
  |some (.slice _)=>some (goInt n,W)
  |_=>none
 |.len,[.map none]=>match(argTypes[0]?).bind P.underlying with
  |some (.map _ _)=>some (goInt 0,W)
  |_=>none
 |.len,[.map (some r)]=>match(argTypes[0]?).bind P.underlying,W.get r with
  |some (.map _ _),some (.map es _)=>some (goInt es.length,W)
  |_,_=>none
 |.append,[s,x]=>tR P W argTypes s x
 |.copy,[d,x]=>If P W argTypes d x
 |.clear,[x]=>(Ci P W argTypes x).map λW'=>(.tuple #[],W')
 |.delete,[m,k]=>(ku P W argTypes m k).map λW'=>(.tuple #[],W')
 |.unsafeSliceData,[x]=>(ox x).map λv=>(v,W)
 |.unsafeString,[p,n]=>jr P W argTypes p n
 |_,_=>(fZ P R o).map λv=>(v,W)
def na(P:ag)(t:ah)(name:String):Option fo:=
 match P.info? t,P.underlying t with
 |some i,some d=>match i.methods.find? (·.name==name)with
  |some m=>match m.path.toList,m.func,d with
   |[],some (f,true),.pointer _=>if 0<P.types.size then some f else none
   |_,_,_=>none
  |none=>none
 |_,_=>none
def fg(P:ag)(call:Callee)(o:am)(R:aj.Fr)(W:AW):Option (ae×AW):=
 match o.op with
 |.call c=>match c.callee with
  |.builtin b=>fS P o b c.argTypes (c.args.toList.map (aw R)) R W
  |.value f=>call (aw R f) (c.args.toList.map (aw R)) W
  |.invoke r name=>match aw R r with
   |.iface t v=>match na P t name with
    |some f=>call (.func (.func f) #[] #[]) (v::c.args.toList.map (aw R)) W
    |none=>none
   |_=>none
 |_=>zW P o R W
def wi:ae->Option aM:=Value.rec (motive_1:=λ_=>Option aM) (motive_2:=λ_=>PUnit) (motive_3:=λ_=>PUnit) (λ_=>none) (λ_ _=>none) (λ_ _=>none) (λ_ _ _=>none) (λ_=>none) (λa=>a) (λ_ _ _=>none) (λ_=>none) (λ_=>none) (λ_ _ _ _ _=>none) (none) (λ_ _ _=>none) (none) (λ_ _=>none) (λ_ _=>none) (λ_ _=>.unit) .unit (λ_ _ _ _=>.unit)
def RE:ae->Option Bool:=Value.rec (motive_1:=λ_=>Option Bool) (motive_2:=λ_=>PUnit) (motive_3:=λ_=>PUnit) (λb=>some b) (λ_ _=>none) (λ_ _=>none) (λ_ _ _=>none) (λ_=>none) (λ_=>none) (λ_ _ _=>none) (λ_=>none) (λ_=>none) (λ_ _ _ _ _=>none) (none) (λ_ _ _=>none) (none) (λ_ _=>none) (λ_ _=>none) (λ_ _=>.unit) .unit (λ_ _ _ _=>.unit)
def aaD:ae->Option (aK×Int):=Value.rec (motive_1:=λ_=>Option (aK×Int)) (motive_2:=λ_=>PUnit) (motive_3:=λ_=>PUnit) (λ_=>none) (λk n=>some (k,n)) (λ_ _=>none) (λ_ _ _=>none) (λ_=>none) (λ_=>none) (λ_ _ _=>none) (λ_=>none) (λ_=>none) (λ_ _ _ _ _=>none) (none) (λ_ _ _=>none) (none) (λ_ _=>none) (λ_ _=>none) (λ_ _=>.unit) .unit (λ_ _ _ _=>.unit)
def Lw:ae->Option Nat:=Value.rec (motive_1:=λ_=>Option Nat) (motive_2:=λ_=>PUnit) (motive_3:=λ_=>PUnit) (λ_=>none) (λ_ n=>Int.rec (motive:=λ_=>Option Nat) (λn=>some n) (λ_=>none) n) (λ_ _=>none) (λ_ _ _=>none) (λ_=>none) (λ_=>none) (λ_ _ _=>none) (λ_=>none) (λ_=>none) (λ_ _ _ _ _=>none) (none) (λ_ _ _=>none) (none) (λ_ _=>none) (λ_ _=>none) (λ_ _=>.unit) .unit (λ_ _ _ _=>.unit)
def vSl:ae->Option (aM×Nat):=Value.rec (motive_1:=λ_=>Option (aM×Nat)) (motive_2:=λ_=>PUnit) (motive_3:=λ_=>PUnit) (λ_=>none) (λ_ _=>none) (λ_ _=>none) (λ_ _ _=>none) (λ_=>none) (λ_=>none) (λa l _=>Option.rec (motive:=λ_=>Option (aM×Nat)) none (λa=>some (a,l)) a) (λ_=>none) (λ_=>none) (λ_ _ _ _ _=>none) (none) (λ_ _ _=>none) (none) (λ_ _=>none) (λ_ _=>none) (λ_ _=>.unit) .unit (λ_ _ _ _=>.unit)
def Yx:ae->Option (Array ae):=Value.rec (motive_1:=λ_=>Option (Array ae)) (motive_2:=λ_=>PUnit) (motive_3:=λ_=>PUnit) (λ_=>none) (λ_ _=>none) (λ_ _=>none) (λ_ _ _=>none) (λ_=>none) (λ_=>none) (λ_ _ _=>none) (λ_=>none) (λ_=>none) (λ_ _ _ _ _=>none) (none) (λ_ _ _=>none) (none) (λ_ _=>none) (λv _=>some v) (λ_ _=>.unit) .unit (λ_ _ _ _=>.unit)
def L6(v:ae):Lw v=iX v:=by cases v<;>first|rfl|(rename_i k n;cases n<;>rfl)
def Ii(P:ag)(W:AW)(t:ah)(a:aM):Option (ae×AW):=
 match Jc P t with
 |some false=>match aH W a.block with
  |some cs=>(Qs cs a.off).map λv=>(v,W)
  |none=>none
 |some true=>match jq P t with
  |some n=>(iZ W a.block a.off n).map λl=>(.agg l.toArray,W)
  |none=>none
 |none=>none
def N5(P:ag)(W:AW)(t:ah)(v:ae):(match wi v with|some a=>Ii P W t a|none=>none)=(gK P W t v).map λv=>(v,W):=by
 cases v with
 |pointer a=>
  cases a with
  |none=>rfl
  |some a=>
   show Ii P W t a=_;unfold Ii gK;cases Jc P t with
   |none=>rfl
   |some b=>
    cases b with
    |false=>simp only;cases aH W a.block<;>rfl
    |true=>
     simp only;cases jq P t with
     |none=>rfl
     |some n=>simp only;cases iZ W a.block a.off n<;>rfl
 |_=>rfl
def Cf(P:ag)(W:AW)(t:ah)(a:aM)(v:ae):Option (ae×AW):=
 match jq P t with
 |some n=>if v.cells.size=n then(jQ W a.block a.off v.cells.toList).map λW'=>(ai,W')else none
 |none=>none
def IP(P:ag)(W:AW)(t:ah)(x v:ae):(match wi x with|some a=>Cf P W t a v|none=>none)=(rT P W t x v).map λW'=>(ai,W'):=by
 cases x with
 |pointer a=>
  cases a with
  |none=>rfl
  |some a=>
   show Cf P W t a v=_;unfold Cf rT;cases jq P t with
   |none=>rfl
   |some n=>simp only;split<;>rfl
 |_=>rfl
def Oc:BinOp->aK->Int->Int->Option ae:=BinOp.rec (motive:=λ_=>aK->Int->Int->Option ae) (λk a b=>some (rH k (v8 k (a+b)))) (λk a b=>some (rH k (v8 k (a-b)))) (λk a b=>some (rH k (v8 k (a*b)))) (λ_ _ _=>none) (λ_ _ _=>none) (λ_ _ _=>none) (λ_ _ _=>none) (λ_ _ _=>none) (λ_ _ _=>none) (λ_ _ _=>none) (λ_ _ _=>none) (λ_ a b=>some (.bool (decide (a=b)))) (λ_ a b=>some (.bool (!decide (a=b)))) (λ_ a b=>some (.bool (decide (a<b)))) (λ_ a b=>some (.bool (decide (a<=b)))) (λ_ a b=>some (.bool (decide (b<a)))) (λ_ a b=>some (.bool (decide (b<=a))))
def Lm(op:BinOp)(k:aK)(a b:Int):Oc op k a b=zU op k a b:=by cases op<;>rfl
def aa2(P:ag)(W:AW)(op:BinOp)(t:ah)(x y:ae):Option ae:=
 match aaD x with
 |some (k,a)=>match aaD y with
  |some (k',b)=>if k=k' then Oc op k a b else none
  |none=>lK P W op t x y
 |none=>lK P W op t x y
def Pr(P:ag)(W:AW)(op:BinOp)(t:ah)(x y:ae):aa2 P W op t x y=lK P W op t x y:=by
 cases x with
 |int k a=>
  cases y with
  |int k' b=>show(if k=k' then Oc op k a b else none)=_;rw[Lm];rfl
  |_=>rfl
 |_=>rfl
def F7(P:ag)(s:ah)(f:Nat):Option Nat:=match P.underlying s with
 |some (.struct fs)=>match fs[f]? with
  |some fl=>match jq P fl.type with
   |some (_+1)=>some fl.offset
   |_=>none
  |none=>none
 |_=>none
def NG(P:ag)(t:ah):Option (Option Nat×Nat):=match P.underlying t with
 |some (.slice e)=>(jq P e).map λz=>(none,z)
 |some (.array n e)=>(jq P e).map λz=>(some n,z)
 |_=>none
def PG{X:Type}(v:ae)(a b:X):(match RE v with|some true=>some a|some false=>some b|none=>none)=(match v with|.bool true=>some a|.bool false=>some b|_=>none):=by
 cases v with
 |bool c=>cases c<;>rfl
 |_=>rfl
def FK(W:AW)(v:ae)(i:Nat):(match Yx v with|some vs=>(vs[i]?).map λv=>(v,W)|none=>none)=(match v with|.tuple vs=>(vs[i]?).map λv=>(v,W)|_=>none):=by cases v<;>rfl
def B9(P:ag)(W:AW)(s:ah)(v:ae)(f:Nat):
 (match wi v with
 |some a=>(match F7 P s f with
  |some k=>some (Value.pointer (some (a.add k)),W)
  |none=>none)
 |none=>none)=(match P.underlying s,v with
 |some (.struct fs),.pointer (some a)=>match fs[f]? with
  |some fl=>match jq P fl.type with
   |some (_+1)=>some (.pointer (some (a.add fl.offset)),W)
   |_=>none
  |none=>none
 |_,_=>none):=by
 unfold F7;generalize P.underlying s=u
 have rj:∀(o:Option TypeDesc) (v:ae),wi v=none->(match o,v with
  |some (.struct fs),.pointer (some a)=>match fs[f]? with
   |some fl=>match jq P fl.type with
    |some (_+1)=>some (Value.pointer (some (a.add fl.offset)),W)
    |_=>none
   |none=>none
  |_,_=>none)=none:=by
  intro o v hv;split
  ·cases hv
  ·rfl
 cases hv:wi v with
 |none=>exact(rj u v hv).symm
 |some a=>
  obtain rfl:v=.pointer (some a):=by
   cases v with
   |pointer b=>cases b with|none=>cases hv|some b=>injection hv with hv;rw[hv]
   |_=>cases hv
  cases u with
  |none=>rfl
  |some d=>
   cases d with
   |struct fs=>
    simp only;cases fs[f]? with
    |none=>rfl
    |some fl=>
     simp only;cases jq P fl.type with
     |none=>rfl
     |some n=>cases n<;>rfl
   |_=>rfl
def CG(P:ag)(W:AW)(t:ah)(v i:ae):
 (match NG P t with
 |some (none,z)=>(match vSl v with
  |some (a,len)=>(match Lw i with
   |some n=>(match Nat.blt n len with
    |true=>some (Value.pointer (some (a.add (n*z))),W)
    |false=>none)
   |none=>none)
  |none=>none)
 |some (some len,z)=>(match wi v with
  |some a=>(match Lw i with
   |some n=>(match Nat.blt n len with
    |true=>some (.pointer (some (a.add (n*z))),W)
    |false=>none)
   |none=>none)
  |none=>none)
 |none=>none)=(match P.underlying t,v,iX i with
 |some (.slice e),.slice (some a) len _,some n=>match jq P e with
  |some z=>if n<len then some (.pointer (some (a.add (n*z))),W)else none
  |none=>none
 |some (.array len e),.pointer (some a),some n=>match jq P e with
  |some z=>if n<len then some (.pointer (some (a.add (n*z))),W)else none
  |none=>none
 |_,_,_=>none):=by
 rw[L6];have key:∀(n len:Nat) (u:Option (ae×AW)),(match Nat.blt n len with|true=>u|false=>none)=if n<len then u else none:=by
  intro n len u;by_cases h:n<len
  ·have h1:Nat.blt n len=true:=by rw[gO];exact h
   rw[ax h,h1]
  ·rw[ay h];cases hb:Nat.blt n len with
   |true=>exact absurd (by rw[gO]at hb;exact hb) h
   |false=>rfl
 simp only[key];unfold NG;generalize iX i=k;generalize P.underlying t=u;cases u with
 |none=>rfl
 |some d=>
  cases d with
  |slice e=>
   cases hz:jq P e with
   |none=>cases v with
    |slice a l c=>cases a<;>cases k<;>simp[hz]
    |_=>simp[hz]
   |some z=>cases v with
    |slice a l c=>cases a<;>cases k<;>simp[hz,vSl]
    |_=>simp[hz,vSl]
  |array n e=>
   cases hz:jq P e with
   |none=>cases v with
    |pointer a=>cases a<;>cases k<;>simp[hz]
    |_=>simp[hz]
   |some z=>cases v with
    |pointer a=>cases a<;>cases k<;>simp[hz,wi]
    |_=>simp[hz,wi]
  |_=>rfl
def XT(x:ao)(P:ag)(call:Callee)(o:am)(R:aj.Fr)(W:AW):Option (ae×AW):=
 some (aw R x,W)
def PP(x:ao)(P:ag)(call:Callee)(o:am)(R:aj.Fr)(W:AW):Option (ae×AW):=
 some (aw R x,W)
def Xw(c:ao)(a:ao)(b:ao)(P:ag)(call:Callee)(o:am)(R:aj.Fr)(W:AW):Option (ae×AW):=
 match RE (aw R c)with
  |some true=>some (aw R a,W)
  |some false=>some (aw R b,W)
  |none=>none
def Vr(t:ah)(P:ag)(call:Callee)(o:am)(R:aj.Fr)(W:AW):Option (ae×AW):=
 match iu P t with
  |some z=>some (W.new (jL t z.cells.toList) λb W'=>(Value.pointer (some ⟨b,0,none⟩),W'))
  |none=>none
def adz(t:ah)(x:ao)(P:ag)(call:Callee)(o:am)(R:aj.Fr)(W:AW):Option (ae×AW):=
 some (W.new (.cells (aw R x).cells.toList) λb W'=>(Value.pointer (some ⟨b,0,none⟩),W'))
def S8(t:ah)(ps:Array (Nat×ao))(P:ag)(call:Callee)(o:am)(R:aj.Fr)(W:AW):Option (ae×AW):=
 (rn P R t ps).map λv=>(v,W)
def Eo(t:ah)(n:Nat)(ps:Array (Nat×ao))(P:ag)(call:Callee)(o:am)(R:aj.Fr)(W:AW):Option (ae×AW):=
 g9 P R W t n ps
def Qt(_t:ah)(_m:ao)(_k:ao)(_v:ao)(P:ag)(call:Callee)(o:am)(R:aj.Fr)(W:AW):Option (ae×AW):=
 fg P call o R W
def Yn(t:ah)(a:ao)(P:ag)(call:Callee)(o:am)(R:aj.Fr)(W:AW):Option (ae×AW):=
 match wi (aw R a)with
  |some a=>Ii P W t a
  |none=>none
def Tt(t:ah)(a:ao)(x:ao)(P:ag)(call:Callee)(o:am)(R:aj.Fr)(W:AW):Option (ae×AW):=
 match wi (aw R a)with
  |some a=>Cf P W t a (aw R x)
  |none=>none
def T5(_g:Nat)(P:ag)(call:Callee)(o:am)(R:aj.Fr)(W:AW):Option (ae×AW):=
 fg P call o R W
def Sn(_g:Nat)(P:ag)(call:Callee)(o:am)(R:aj.Fr)(W:AW):Option (ae×AW):=
 fg P call o R W
def Jw(_x:ao)(P:ag)(call:Callee)(o:am)(R:aj.Fr)(W:AW):Option (ae×AW):=
 fg P call o R W
def GY(op:BinOp)(t:ah)(x:ao)(y:ao)(yt:ah)(P:ag)(call:Callee)(o:am)(R:aj.Fr)(W:AW):Option (ae×AW):=
 match aa2 P W op t (aw R x) (aw R y)with
  |some v=>some (v,W)
  |none=>(fZ P R o).map λv=>(v,W)
def aap(op:UnOp)(t:ah)(x:ao)(P:ag)(call:Callee)(o:am)(R:aj.Fr)(W:AW):Option (ae×AW):=
 (fZ P R o).map λv=>(v,W)
def M8(s:ah)(d:ah)(x:ao)(P:ag)(call:Callee)(o:am)(R:aj.Fr)(W:AW):Option (ae×AW):=
 (xP P W s d (aw R x) (fZ P R o)).map λv=>(v,W)
def o5(_d:ah)(_x:ao)(P:ag)(call:Callee)(o:am)(R:aj.Fr)(W:AW):Option (ae×AW):=
 fg P call o R W
def yo(_t:ah)(_x:ao)(P:ag)(call:Callee)(o:am)(R:aj.Fr)(W:AW):Option (ae×AW):=
 fg P call o R W
def Jv(_fn:Fn)(_first:Array ao)(_captured:Array ao)(P:ag)(call:Callee)(o:am)(R:aj.Fr)(W:AW):Option (ae×AW):=
 fg P call o R W
def N8(_t:ah)(_r:Option ao)(P:ag)(call:Callee)(o:am)(R:aj.Fr)(W:AW):Option (ae×AW):=
 fg P call o R W
def KJ(_t:ah)(_s:ao)(P:ag)(call:Callee)(o:am)(R:aj.Fr)(W:AW):Option (ae×AW):=
 fg P call o R W
def FI(t:ah)(l:ao)(c:ao)(P:ag)(call:Callee)(o:am)(R:aj.Fr)(W:AW):Option (ae×AW):=
 jm P W t (aw R l) (aw R c)
def Tx(t:ah)(x:ao)(lo:Option ao)(hi:Option ao)(mx:Option ao)(P:ag)(call:Callee)(o:am)(R:aj.Fr)(W:AW):Option (ae×AW):=
 match jS P t (aw R x) (lo.map (aw R)) (hi.map (aw R)) (mx.map (aw R))with
  |some v=>some (v,W)
  |none=>(fZ P R o).map λv=>(v,W)
def Ge(s:ah)(x:ao)(f:Nat)(P:ag)(call:Callee)(o:am)(R:aj.Fr)(W:AW):Option (ae×AW):=
 match wi (aw R x)with
  |some a=>(match F7 P s f with
   |some k=>some (.pointer (some (a.add k)),W)
   |none=>none)
  |none=>none
def Se(t:ah)(x:ao)(f:Nat)(P:ag)(call:Callee)(o:am)(R:aj.Fr)(W:AW):Option (ae×AW):=
 match P.underlying t,aw R x with
  |some (.struct fs),.agg cs=>match fs[f]? with
   |some fl=>(sE P fl.type cs fl.offset).map λv=>(v,W)
   |none=>none
  |_,_=>none
def Gw(t:ah)(x:ao)(i:ao)(P:ag)(call:Callee)(o:am)(R:aj.Fr)(W:AW):Option (ae×AW):=
 match NG P t with
  |some (none,z)=>(match vSl (aw R x)with
   |some (a,len)=>(match Lw (aw R i)with
    |some n=>(match Nat.blt n len with
     |true=>some (.pointer (some (a.add (n*z))),W)
     |false=>none)
    |none=>none)
   |none=>none)
  |some (some len,z)=>(match wi (aw R x)with
   |some a=>(match Lw (aw R i)with
    |some n=>(match Nat.blt n len with
     |true=>some (.pointer (some (a.add (n*z))),W)
     |false=>none)
    |none=>none)
   |none=>none)
  |none=>none
def Uv(_t:ah)(_x:ao)(_i:ao)(P:ag)(call:Callee)(o:am)(R:aj.Fr)(W:AW):Option (ae×AW):=
 fg P call o R W
def O0(t:ah)(m:ao)(k:ao)(ok:Bool)(P:ag)(call:Callee)(o:am)(R:aj.Fr)(W:AW):Option (ae×AW):=
 (jv P W t (aw R m) (aw R k) ok).map λv=>(v,W)
def FZ(t:ah)(m:ao)(k:ao)(v:ao)(P:ag)(call:Callee)(o:am)(R:aj.Fr)(W:AW):Option (ae×AW):=
 (gR P W t (aw R m) (aw R k) (aw R v)).map λW'=>(ai,W')
def Jq(_t:ah)(_m:ao)(_k:ao)(P:ag)(call:Callee)(o:am)(R:aj.Fr)(W:AW):Option (ae×AW):=
 fg P call o R W
def Dv(_t:ah)(_m:ao)(_s:ao)(_v:ao)(P:ag)(call:Callee)(o:am)(R:aj.Fr)(W:AW):Option (ae×AW):=
 fg P call o R W
def UW(_t:ah)(_x:ao)(P:ag)(call:Callee)(o:am)(R:aj.Fr)(W:AW):Option (ae×AW):=
 fg P call o R W
def Ys(_it:ao)(_s:Bool)(P:ag)(call:Callee)(o:am)(R:aj.Fr)(W:AW):Option (ae×AW):=
 fg P call o R W
def S3(_it:ao)(P:ag)(call:Callee)(o:am)(R:aj.Fr)(W:AW):Option (ae×AW):=
 fg P call o R W
def Ec(_x:ao)(_t:ah)(_a:ah)(_ok:Bool)(P:ag)(call:Callee)(o:am)(R:aj.Fr)(W:AW):Option (ae×AW):=
 fg P call o R W
def M4(x:ao)(i:Nat)(P:ag)(call:Callee)(o:am)(R:aj.Fr)(W:AW):Option (ae×AW):=
 match Yx (aw R x)with
  |some vs=>(vs[i]?).map λv=>(v,W)
  |none=>none
def Ye(c:Call)(P:ag)(call:Callee)(o:am)(R:aj.Fr)(W:AW):Option (ae×AW):=
 match c.callee with
  |.builtin b=>fS P o b c.argTypes (c.args.toList.map (aw R)) R W
  |.value f=>call (aw R f) (c.args.toList.map (aw R)) W
  |.invoke r name=>match aw R r with
   |.iface t v=>match na P t name with
    |some f=>call (.func (.func f) #[] #[]) (v::c.args.toList.map (aw R)) W
    |none=>none
   |_=>none
def hGo(_c:Call)(P:ag)(call:Callee)(o:am)(R:aj.Fr)(W:AW):Option (ae×AW):=
 fg P call o R W
def UE(_c:Call)(P:ag)(call:Callee)(o:am)(R:aj.Fr)(W:AW):Option (ae×AW):=
 fg P call o R W
def SP(_x:ao)(P:ag)(call:Callee)(o:am)(R:aj.Fr)(W:AW):Option (ae×AW):=
 fg P call o R W
def XG(_c:ao)(_x:ao)(P:ag)(call:Callee)(o:am)(R:aj.Fr)(W:AW):Option (ae×AW):=
 fg P call o R W
def Y3(_t:ah)(_c:ao)(_ok:Bool)(P:ag)(call:Callee)(o:am)(R:aj.Fr)(W:AW):Option (ae×AW):=
 fg P call o R W
def QA(_cs:Array SelectCase)(_bl:Bool)(P:ag)(call:Callee)(o:am)(R:aj.Fr)(W:AW):Option (ae×AW):=
 fg P call o R W
def ae8:Op->ag->Callee->am->aj.Fr->AW->Option (ae×AW):=
 Op.rec (motive:=λ_=>ag->Callee->am->aj.Fr->AW->Option (ae×AW)) XT PP Xw Vr adz S8 Eo Qt Yn Tt T5 Sn Jw GY aap M8 o5 yo Jv N8 KJ FI Tx Ge Se Gw Uv O0 FZ Jq Dv UW Ys S3 Ec M4 Ye hGo UE SP XG Y3 QA
def mE(P:ag)(call:Callee)(o:am)(R:aj.Fr)(W:AW):Option (ae×AW):=ae8 o.op P call o R W
def qt(P:ag)(call:Callee)(o:am)(R:aj.Fr)(W:AW):mE P call o R W=fg P call o R W:=by
 obtain⟨dst,op,type,pos,after,guard⟩:=o;cases op with
 |pick c a b=>exact PG (aw R c) _ _
 |load t a=>exact N5 P W t (aw R a)
 |store t a x=>exact IP P W t (aw R a) (aw R x)
 |binOp op t x y yt=>show GY op t x y yt P call ⟨dst,.binOp op t x y yt,type,pos,after,guard⟩ R W=_;unfold GY;rw[Pr];rfl
 |extract x i=>exact FK W (aw R x) i
 |fieldAddr s x f=>exact B9 P W s (aw R x) f
 |indexAddr t x i=>exact CG P W t (aw R x) (aw R i)
 |_=>rfl
def rf(P:ag)(f':ae)(cw:List ae)(w:ap)(R:ae->ap->Prop):Prop:=
 match f' with
 |.func (.func i) fs cs=>(callFunc i (fs++cw.toArray++cs)).run P w=.ok (.enter i (fs++cw.toArray++cs)) w/\
  CallsIn (FE none) 0 P i (fs++cw.toArray++cs) w (λe w'=>∃v,e=.returned v/\R v w')
 |.func (.yield l) fs _=>∃f tmps ajb bd,(Instr.yield l (fs++cw.toArray)).run P w=.ok (.round l f tmps ajb bd) w/\
  RoundIn (FE none) 0 P l f tmps ajb bd w (λe w'=>∃v,e=.returned v/\R v w')
 |_=>False
def bB(P:ag)(ng:List Nat)(call:Callee):Prop:=
 ∀f args W v W',call f args W=some (v,W')->∀σ w f' cw,aX σ W w.heap->qM σ ng->VR σ f f'->LR σ args cw->
  rf P f' cw w (λv' w'=>∃σ',VR σ' v v'/\aX σ' W' w'.heap/\dE σ W w σ' W' w')
section
variable {P:ag} {σ:cm} {W:AW} {w:ap}
def AZ(hW:aX σ W w.heap){b:Builtin}{R:aj.Fr}{ρ:ao->ae}{v:ae}{W':AW}{dst:Option Tmp}{type:ah}{pos:String}{after:Array Edge}{guard:Option (Nat×Bool)}{args:Array ao}{argTypes:Array ah}
 (h:fS P {dst,op:=.call {callee:=.builtin b,args,argTypes},type,pos,after,guard} b argTypes (args.toList.map (aw R)) R W=some (v,W'))(hρ:∀x∈args,VR σ (aw R x) (ρ x)):
 qO P σ W w (execOp ρ {dst,op:=.call {callee:=.builtin b,args,argTypes},type,pos,after,guard}) v W':=by
 have fu:∀(x:Option ae),(x.map λv=>(v,W))=some (v,W')->x=some v/\W'=W:=by
  intro x hx;cases x with
  |none=>cases hx
  |some u=>simp at hx;exact⟨by rw[hx.1],hx.2.symm⟩
 have RY:∀(x:Option AW),(x.map λW'=>(Value.tuple #[],W'))=some (v,W')->x=some W'/\v=.tuple #[]:=by
  intro x hx;cases x with
  |none=>cases hx
  |some u=>simp at hx;exact⟨by rw[hx.2],hx.1.symm⟩
 have zC:execOp ρ {dst,op:=.call {callee:=.builtin b,args,argTypes},type,pos,after,guard}=builtin b argTypes type (args.map λ|.const _=>true|_=>false) (args.map ρ):=by simp[execOp,resolve,invoke];rfl
 have bY:LR σ (args.toList.map (aw R)) (args.map ρ).toList:=by have:=wW args hρ;simpa using this
 unfold fS at h;split at h
 ·rename_i A n c rM;rw[rM]at bY;obtain⟨x',l',e1,hx,hl⟩:=bY.of_cons;have:=hl.of_nil;subst this;have e2:args.map ρ=#[x']:=by rw[<-fw (xs:=args.map ρ),e1]
  split at h
  ·rename_i e hu;injection h with h;injection h with h1 h2;subst h1;subst h2;rw[zC,e2];cases ha:argTypes[0]? with
   |none=>rw[ha]at hu;cases hu
   |some t=>rw[ha]at hu;simp only[bl]at hu;refine .value (s:=Builtin.len_ argTypes type #[x']) rfl hW (v':=goInt n) ?_ (.int _ _);cases hx<;>simp[Builtin.len_,ha,bn hu]
  ·cases h
 ·rename_i rM;rw[rM]at bY;obtain⟨x',l',e1,hx,hl⟩:=bY.of_cons;have:=hl.of_nil;subst this;have e2:args.map ρ=#[x']:=by rw[<-fw (xs:=args.map ρ),e1]
  split at h
  ·rename_i k e hu;injection h with h;injection h with h1 h2;subst h1;subst h2;rw[zC,e2];cases ha:argTypes[0]? with
   |none=>rw[ha]at hu;cases hu
   |some t=>rw[ha]at hu;simp only[bl]at hu;refine .value (s:=Builtin.len_ argTypes type #[x']) rfl hW (v':=goInt 0) ?_ (.int _ _);cases hx;simp[Builtin.len_,ha,bn hu]
  ·cases h
 ·rename_i r rM;rw[rM]at bY;obtain⟨x',l',e1,hx,hl⟩:=bY.of_cons;have:=hl.of_nil;subst this;have e2:args.map ρ=#[x']:=by rw[<-fw (xs:=args.map ρ),e1]
  split at h
  ·rename_i k e es c hu hr;injection h with h;injection h with h1 h2;subst h1;subst h2;rw[zC,e2];cases ha:argTypes[0]? with
   |none=>rw[ha]at hu;cases hu
   |some t=>
    rw[ha]at hu;simp only[bl]at hu;cases hx with
    |map _ g hg=>
     obtain⟨_,_,eR,g3,g4⟩:=wR hW hr hg;refine .value (s:=Builtin.len_ argTypes type #[.map (some g.B)]) rfl hW (v':=goInt es.length) ?_ (.int _ _);have dy:eR.size=es.length:=by have:=g4.1;simp at this;omega
     simp[Builtin.len_,ha,bn hu,run_getObj_map g3,dy]
  ·cases h
 ·rename_i s x rM;rw[rM]at bY;obtain⟨s',l',e1,hs,hl⟩:=bY.of_cons;obtain⟨x',Qw,e3,hx,qN⟩:=hl.of_cons;have:=qN.of_nil;subst this;subst e3;have e2:args.map ρ=#[s',x']:=by rw[<-fw (xs:=args.map ρ),e1]
  rw[zC,e2];exact .iF (s:=Builtin.append_ argTypes type #[s',x']) rfl (Cr hW h hs hx)
 ·rename_i s x rM;rw[rM]at bY;obtain⟨s',l',e1,hs,hl⟩:=bY.of_cons;obtain⟨x',Qw,e3,hx,qN⟩:=hl.of_cons;have:=qN.of_nil;subst this;subst e3;have e2:args.map ρ=#[s',x']:=by rw[<-fw (xs:=args.map ρ),e1]
  rw[zC,e2];obtain⟨v',w',a,b,c,d⟩:=IY (ty:=type) hW h hs hx;exact .iF (s:=Builtin.copy_ argTypes type #[s',x']) rfl ⟨σ,v',w',a,b,c,d⟩
 ·rename_i x rM;rw[rM]at bY;obtain⟨x',l',e1,hx,hl⟩:=bY.of_cons;have:=hl.of_nil;subst this;have e2:args.map ρ=#[x']:=by rw[<-fw (xs:=args.map ρ),e1]
  rw[zC,e2];obtain⟨hc,rfl⟩:=RY _ h;obtain⟨w',a,b,c⟩:=Hu (ty:=type) hW hc hx;exact .iF (s:=Builtin.clear_ argTypes type #[x']) rfl ⟨σ,.tuple #[],w',a,.undef,b,c⟩
 ·rename_i s x rM;rw[rM]at bY;obtain⟨s',l',e1,hs,hl⟩:=bY.of_cons;obtain⟨x',Qw,e3,hx,qN⟩:=hl.of_cons;have:=qN.of_nil;subst this;subst e3;have e2:args.map ρ=#[s',x']:=by rw[<-fw (xs:=args.map ρ),e1]
  rw[zC,e2];obtain⟨hc,rfl⟩:=RY _ h;obtain⟨w',a,b,c⟩:=C6 (ty:=type) hW hc hs hx;exact .iF (s:=Builtin.delete_ argTypes type #[s',x']) rfl ⟨σ,.tuple #[],w',a,.undef,b,c⟩
 ·rename_i x rM;rw[rM]at bY;obtain⟨x',l',e1,hx,hl⟩:=bY.of_cons;have:=hl.of_nil;subst this;have e2:args.map ρ=#[x']:=by rw[<-fw (xs:=args.map ρ),e1]
  rw[zC,e2];obtain⟨hc,rfl⟩:=fu _ h;obtain⟨v',a,b⟩:=yX (P:=P) (w:=w) (ts:=argTypes) (ty:=type) hc hx;exact .iF (s:=Builtin.unsafeSliceData_ argTypes type #[x']) rfl ⟨σ,v',w,a,b,hW,dE.refl _ _ _⟩
 ·rename_i s x rM;rw[rM]at bY;obtain⟨s',l',e1,hs,hl⟩:=bY.of_cons;obtain⟨x',Qw,e3,hx,qN⟩:=hl.of_cons;have:=qN.of_nil;subst this;subst e3;have e2:args.map ρ=#[s',x']:=by rw[<-fw (xs:=args.map ρ),e1]
  rw[zC,e2];exact .iF (s:=Builtin.unsafeString_ argTypes type #[s',x']) rfl (sS hW h hs hx)
 ·obtain⟨hb,rfl⟩:=fu _ h;exact .Q8 hW hb (λx hx=>by simp only[Op.operands,Call.operands]at hx;exact hρ x (by simpa using hx))
def Gn{t:ah}{name:String}{f:fo}(h:na P t name=some f)(v:ae)(w:ap):(method (P.types.size+Made.depth) t v name).run P w=.ok (f,v) w:=by
 unfold na at h;split at h
 ·rename_i i d hi hd;split at h
  ·rename_i m hm;split at h
   ·rename_i g e hp hf;split at h
    ·rename_i h0;injection h with h;subst h;obtain⟨n,hn⟩:∃n,P.types.size+Made.depth=n+1:=⟨P.types.size+Made.depth-1,by omega⟩;rw[hn];simp[method,typeInfo,hi,hm,hp,follow,hf,receiverAt,bn hd,Place.get]
    ·cases h
   ·cases h
  ·cases h
 ·cases h
def xB(ro:Option Nat):(FE ro).depth=none:=rfl
def yQ{ro ro':Option Nat}{n:Nat}{f:fo}{args:Array ae}{w:ap}{R:Ending->ap->Prop}(h:CallsIn (FE ro) n P f args w R):CallsIn (FE ro') n P f args w R:=h
def FM{ro ro':Option Nat}{n l:Nat}{f:fo}{tmps:Array ae}{ajb bd:ba}{w:ap}{R:Ending->ap->Prop}(h:RoundIn (FE ro) n P l f tmps ajb bd w R):RoundIn (FE ro') n P l f tmps ajb bd w R:=h
def Ay{ro:Option Nat}{o:am}{a:aQ}{v:ae}{W':AW}{next:aQ->ap->Prop}{Q:cj->aQ->ap->Prop}(VM:∀c,o.op≠ .defer c)(h:qO P σ W w (execOp a.eval o) v W')
 (hn:∀σ' v' w',VR σ' v v'->aX σ' W' w'.heap->dE σ W w σ' W' w'->next (a.put o.dst v') w'):o.wpIn (FE ro) 0 P a w next Q:=by
 refine⟨λf _=>trivial,?_⟩;rw[Oper.semAt_eq _ _ _ VM];obtain⟨σ',nx,v',w',hr,hx,h1,h2,h3⟩:=h;rw[hr];rcases hx with rfl|⟨rfl,rfl⟩
 ·exact hn σ' v' w' h1 h2 h3
 ·exact hn σ' ai w' h1 h2 h3
def zl{ro:Option Nat}{o:am}{a:aQ}{v:ae}{W':AW}{next:aQ->ap->Prop}{Q:cj->aQ->ap->Prop}{f':ae}{cw:List ae}(VM:∀c,o.op≠ .defer c)
 (hf:∀i fs cs,f'=.func (.func i) fs cs->(execOp a.eval o).run P w=(callFunc i (fs++cw.toArray++cs)).run P w)
 (hy:∀l fs cs,f'=.func (.yield l) fs cs->(execOp a.eval o).run P w=(Instr.yield l (fs++cw.toArray)).run P w)
 (h:rf P f' cw w (λv' w'=>∃σ',VR σ' v v'/\aX σ' W' w'.heap/\dE σ W w σ' W' w'))
 (hn:∀σ' v' w',VR σ' v v'->aX σ' W' w'.heap->dE σ W w σ' W' w'->next (a.put o.dst v') w'):o.wpIn (FE ro) 0 P a w next Q:=by
 refine⟨λf _=>trivial,?_⟩;rw[Oper.semAt_eq _ _ _ VM];unfold rf at h;split at h
 ·rename_i i fs cs;obtain⟨h1,h2⟩:=h;rw[hf i fs cs rfl,h1];refine⟨λhd=>by rw[xB]at hd;simp at hd,?_⟩;refine kh (yQ h2) ?_;rintro e w' ⟨u,rfl,σ',k1,k2,k3⟩;exact hn σ' u w' k1 k2 k3
 ·rename_i l fs cs;obtain⟨f,tmps,ajb,bd,h1,h2⟩:=h;rw[hy l fs cs rfl,h1];refine⟨λhd=>by rw[xB]at hd;simp at hd,?_⟩;refine RoundIn.mono (FM h2) ?_;rintro e w' ⟨u,rfl,σ',k1,k2,k3⟩;exact hn σ' u w' k1 k2 k3
 ·exact h.elim
def BW{ng:List Nat}{call:Callee}(hc:bB P ng call)(hW:aX σ W w.heap)(hG:qM σ ng){ro:Option Nat}{o:am}{R:aj.Fr}{a:aQ}{v:ae}{W':AW}{next:aQ->ap->Prop}{Q:cj->aQ->ap->Prop}
 (h:mE P call o R W=some (v,W'))(hρ:∀x∈o.op.operands,VR σ (aw R x) (a.eval x))
 (hn:∀σ' v' w',VR σ' v v'->aX σ' W' w'.heap->dE σ W w σ' W' w'->next (a.put o.dst v') w'):o.wpIn (FE ro) 0 P a w next Q:=by
 rw[qt]at h;unfold fg at h;split at h
 ·rename_i c nu;obtain⟨dst,op,type,pos,after,guard⟩:=o;simp only at nu;subst nu;obtain⟨callee,args,argTypes⟩:=c;have bY:∀x∈args,VR σ (aw R x) (a.eval x):=λx hx=>hρ x (by simp[Op.operands,Call.operands,hx])
  have hl:LR σ (args.toList.map (aw R)) (args.map a.eval).toList:=by simpa using wW args bY
  split at h
  ·rename_i b hb;simp only at hb h;subst hb;exact Ay (λ_ hx=>by cases hx) (AZ hW h bY) hn
  ·rename_i f hb;simp only at hb h;subst hb;have hf:=hρ f (by simp[Op.operands,Call.operands]);refine zl (λ_ hx=>by cases hx) ?_ ?_ (hc _ _ _ _ _ h σ w _ _ hW hG hf hl) hn
   ·intro i fs cs e;rw[fw];simp[execOp,resolve,e,Deferred.ofValue,invoke]
   ·intro l fs cs e;rw[fw];simp[execOp,resolve,e,Deferred.ofValue,invoke]
  ·rename_i r name hb;simp only at hb h;subst hb;have hr:=hρ r (by simp[Op.operands,Call.operands]);split at h
   ·rename_i t u Fb;rw[Fb]at hr;obtain⟨u',hu,e⟩:=hr.ui;split at h
    ·rename_i f hm;refine zl (f':=.func (.func f) #[] #[]) (cw:=u'::(args.map a.eval).toList) (λ_ hx=>by cases hx) ?_ ?_ (hc _ _ _ _ _ h σ w _ _ hW hG (.func _ _ _ _ _ _ (.func f) rfl (λi v v' x=>by simp at x) rfl (λi v v' x=>by simp at x)) (.cons hu hl)) hn
     ·intro i fs cs e';injection e' with e1 e2 e3;injection e1 with e1;subst e1;subst e2;subst e3;have hx:(#[a.eval r]++args.map a.eval).extract 1 (args.size+1)=args.map a.eval:=by apply mA.1;simp[BQ];exact mz (by simp)
      have h0:(#[a.eval r]++args.map a.eval)[0]? =some (.iface t u'):=by rw[tQ];simp[e]
      have mK:(#[a.eval r]++args.map a.eval).size=args.size+1:=by simp;omega
      have GJ:(invoke (.fn (.method name) #[]) (#[a.eval r]++args.map a.eval)).run P w=(callFunc f (#[u']++args.map a.eval)).run P w:=by rw[show invoke (.fn (.method name) #[]) (#[a.eval r]++args.map a.eval)=(match(#[a.eval r]++args.map a.eval)[0]? with|some recv=>callMethod recv name ((#[a.eval r]++args.map a.eval).extract 1 (#[a.eval r]++args.map a.eval).size)|none=>stuck "call: a method without a receiver")from by unfold invoke;split<;>simp_all];rw[h0];simp only[mK,hx,callMethod,bJ,run_program,bG,Gn hm u' w]
      have e3:(#[]:Array ae)++(u'::(args.map a.eval).toList).toArray++#[]=#[u']++args.map a.eval:=by apply mA.1;simp
      rw[e3,<-GJ];simp[execOp,resolve]
     ·intro l fs cs e';injection e' with e1 e2 e3;cases e1
    ·cases h
   ·cases h
 ·rename_i P8;refine Ay ?_ (H8 hW h hρ) hn;intro c hx;unfold zW at h;rw[hx]at h;cases h
end
end
section
variable [aj]
def Grow(W W':AW):Prop:=∀b o,W.get b=some o->W'.get b=some o
def Grow.refl(W:AW):Grow W W:=λ_ _ h=>h
def Grow.add{W:AW}(hf:W.get W.next=none)(o:de):Grow W (W.add o):=λb o' h=>by
 have:W.next≠b:=λe=>by subst e;rw[hf]at h;cases h
 rw[AW.aZ _ _ this];exact h
def Af(o:am)(R R':aj.Fr):Prop:=∀x∈o.op.operands,aw R' x=aw R x
def Du{P:ag}{o:am}{R R':aj.Fr}(h:Af o R R'):fZ P R' o=fZ P R o:=by
 unfold fZ;have e1:o.op.operands.toList.all (λx=>a7 (aw R' x))=o.op.operands.toList.all (λx=>a7 (aw R x)):=by rw[o7];simp only[bV,Array.mem_toList_iff];exact⟨λk x hx=>by rw[<-h x hx];exact k x hx,λk x hx=>by rw[h x hx];exact k x hx⟩
 rw[e1];cases hn:qu o.op with
 |false=>rfl
 |true=>rw[execOp_congr o (λcs b hs=>by rw[hs]at hn;cases hn) (λx hx=>h x hx)]
def xH{P:ag}{W W':AW}{t:ah}{x y:ae}(hx:a7 x=true):jB P W' t x y=jB P W t x y:=by
 unfold jB;split;case h_3=>simp[a7,dI,bZ]at hx
 all_goals first
  |rfl
  |(simp only[*];done)
  |skip
 all_goals(split<;>first|rfl|(simp_all;done)|skip)
def AN{P:ag}{W W':AW}(hg:Grow W W'){t:ah}{x y:ae}{b:Bool}(h:jB P W t x y=some b):jB P W' t x y=some b:=by
 unfold jB at h|-;split at h<;>try exact h
 split at h<;>try(cases h;done)
 split at h<;>try(cases h;done)
 rename_i ca cb h1 h2;rw[hg _ _ h1,hg _ _ h2];exact h
def tw{W W':AW}(hg:Grow W W'){b:Nat}{cs:List ae}(h:aH W b=some cs):aH W' b=some cs:=by
 unfold aH at h|-;split at h
 ·rename_i bP h1;rw[hg _ _ h1];exact h
 ·rename_i bP h1;rw[hg _ _ h1];exact h
 ·rename_i t' bP h1;rw[hg _ _ h1];exact h
 ·cases h
def xy{W W':AW}(hg:Grow W W'){b off n:Nat}{l:List ae}(h:iZ W b off n=some l):iZ W' b off n=some l:=by
 rw[fG]at h|-;split at h
 ·rename_i cs hc;rw[tw hg hc];exact h
 ·cases h
def yq{W W':AW}(hg:Grow W W'){x:ae}{n:Nat}{l:List ae}(h:bC W x n=some l):bC W' x n=some l:=by
 unfold bC at h|-;split at h
 ·exact h
 ·split at h
  ·rename_i h0;rw[ax h0];exact h
  ·rename_i h0;rw[ay h0];split at h
   ·cases h
   ·rename_i h1;rw[ay h1];exact xy hg h
 ·cases h
def Hq{P:ag}{W W':AW}(hg:Grow W W'){s d:ah}{x v:ae}{alt:Option ae}(h:xP P W s d x alt=some v):xP P W' s d x alt=some v:=by
 unfold xP at h|-;split at h
 ·rename_i a n c;show m7 P W' s d (.slice (some a) n c)=some v;unfold m7 at h|-;dsimp only at h|-;split at h
  ·rename_i e hs hd;split at h
   ·rename_i he;split at h
    ·rename_i cs mI;rw[yq hg mI];exact h
    ·cases h
   ·cases h
  ·cases h
 ·exact h
def GK{P:ag}{W W':AW}(hg:Grow W W'){t:ah}{x v:ae}(h:gK P W t x=some v):gK P W' t x=some v:=by
 unfold gK at h|-;split at h
 ·rename_i a;split at h
  ·rename_i ha;split at h
   ·rename_i cs hc;simp only[tw hg hc];exact h
   ·cases h
  ·rename_i ha;split at h
   ·rename_i n hn;cases hr:iZ W a.block a.off n with
    |none=>rw[hr]at h;cases h
    |some l=>rw[hr]at h;rw[xy hg hr];exact h
   ·cases h
  ·cases h
 ·cases h
def BY{P:ag}{W W':AW}(hg:Grow W W'){t:ah}{m k v:ae}{ok:Bool}(h:jv P W t m k ok=some v):jv P W' t m k ok=some v:=by
 unfold jv at h|-;split at h
 ·exact h
 ·rename_i kt e r hu;split at h
  ·rename_i es c hr;simp only[hg _ _ hr];exact h
  ·cases h
 ·cases h
def DY{R R':aj.Fr}{ps:Array (Nat×ao)}(h:∀p∈ps.toList,aw R' p.2=aw R p.2):kV R' ps=kV R ps:=by unfold kV;exact List.map_congr_left λp hp=>by rw[h p hp]
set_option maxHeartbeats 1000000 in
def qx{P:ag}{call:Callee}{o:am}{R:aj.Fr}{W W1:AW}{v:ae}(hk:fB o<=1)(h:mE P call o R W=some (v,W1)):
 W1=W/\∀R' W',Af o R R'->(fB o=0\/Grow W W')->mE P call o R' W'=some (v,W'):=by
 have fu:∀(x:Option ae),(x.map λv=>(v,W))=some (v,W1)->x=some v/\W1=W:=by
  intro x hx;cases x with
  |none=>cases hx
  |some u=>simp at hx;exact⟨by rw[hx.1],hx.2.symm⟩
 have Mp:∀R',Af o R R'->fZ P R' o=fZ P R o:=λR' ha=>Du ha
 obtain⟨dst,op,type,pos,after,guard⟩:=o;cases op<;>simp only[fB]at hk<;>(try(exfalso;omega))<;>simp only[qt,fg,zW]at h|- <;>simp only[Af,Op.operands]at Mp|-;case move x=>injection h with h;injection h with h1 h2;subst h1;subst h2;exact⟨rfl,λR' W' ha _=>by rw[ha x (by simp)]⟩
 case assign x=>injection h with h;injection h with h1 h2;subst h1;subst h2;exact⟨rfl,λR' W' ha _=>by rw[ha x (by simp)]⟩
 case pick c a b=>
  split at h<;>(try(cases h;done))<;>rename_i kT<;>injection h with h<;>injection h with h1 h2<;>subst h1<;>subst h2<;>
   exact⟨rfl,λR' W' ha _=>by rw[ha c (by simp),ha a (by simp),ha b (by simp),kT]⟩
 case build t ps=>
  obtain⟨hb,rfl⟩:=fu _ h;refine⟨rfl,λR' W' ha _=>?_⟩;have:rn P R' t ps=rn P R t ps:=by unfold rn;rw[DY λp hp=>ha p.2 (by simp;exact⟨p.1,by simpa using hp⟩)]
  rw[this,hb];rfl
 case nilCheck x=>
  split at h<;>(try(cases h;done))<;>rename_i kT<;>injection h with h<;>injection h with h1 h2<;>subst h1<;>subst h2<;>
   exact⟨rfl,λR' W' ha _=>by rw[ha x (by simp),kT]⟩
 case unOp op t x=>obtain⟨hb,rfl⟩:=fu _ h;exact⟨rfl,λR' W' ha _=>by rw[Mp R' (λy hy=>ha y hy),hb];rfl⟩
 case convert s d x=>obtain⟨hb,rfl⟩:=fu _ h;refine⟨rfl,λR' W' ha hg=>?_⟩;have wB:Grow W1 W':=hg.resolve_left (by simp[fB]);rw[ha x (by simp),Mp R' (λy hy=>ha y hy),Hq wB hb];rfl
 case makeInterface t x=>
  split at h
  ·cases h
  ·rename_i d hd hu;injection h with h;injection h with h1 h2;subst h1;subst h2;exact⟨rfl,λR' W' ha _=>by rw[ha x (by simp)]⟩
  ·cases h
 case slice t x lo hi mx=>
  have key:∀R',(∀y∈#[x]++lo.toArray++hi.toArray++mx.toArray,aw R' y=aw R y)->jS P t (aw R' x) (lo.map (aw R')) (hi.map (aw R')) (mx.map (aw R'))=jS P t (aw R x) (lo.map (aw R)) (hi.map (aw R)) (mx.map (aw R)):=by
   intro R' ha;have e1:aw R' x=aw R x:=ha x (by simp);have e2:lo.map (aw R')=lo.map (aw R):=by
    cases lo with
    |none=>rfl
    |some y=>simp only[bR];rw[ha y (by simp)]
   have e3:hi.map (aw R')=hi.map (aw R):=by
    cases hi with
    |none=>rfl
    |some y=>simp only[bR];rw[ha y (by simp)]
   have e4:mx.map (aw R')=mx.map (aw R):=by
    cases mx with
    |none=>rfl
    |some y=>simp only[bR];rw[ha y (by simp)]
   rw[e1,e2,e3,e4]
  split at h
  ·rename_i u hs;injection h with h;injection h with h1 h2;subst h1;subst h2;exact⟨rfl,λR' W' ha _=>by rw[key R' (λy hy=>ha y (by simpa using hy)),hs]⟩
  ·rename_i hs;obtain⟨hb,rfl⟩:=fu _ h;exact⟨rfl,λR' W' ha _=>by rw[key R' (λy hy=>ha y (by simpa using hy)),hs,Mp R' (λy hy=>ha y hy),hb];rfl⟩
 case fieldAddr s x f=>
  split at h
  ·rename_i fs a hu tL;split at h
   ·rename_i fl UK;split at h
    ·rename_i n hn;injection h with h;injection h with h1 h2;subst h1;subst h2;exact⟨rfl,λR' W' ha _=>by rw[ha x (by simp)];simp[hu,tL,UK,hn]⟩
    ·cases h
   ·cases h
  ·cases h
 case field t x f=>
  split at h
  ·rename_i fs cs hu tL;split at h
   ·rename_i fl UK;obtain⟨hb,rfl⟩:=fu _ h;exact⟨rfl,λR' W' ha _=>by rw[ha x (by simp)];simp[hu,tL,UK,hb]⟩
   ·cases h
  ·cases h
 case indexAddr t x i=>
  have:W1=W:=by split at h<;>(try(cases h;done))<;>split at h<;>(try(cases h;done))<;>split at h<;>(try(cases h;done))<;>(injection h with h;injection h with h1 h2;exact h2.symm)
  subst this;refine⟨rfl,λR' W' ha _=>?_⟩;rw[ha x (by simp),ha i (by simp)];split at h<;>(try(cases h;done))<;>rename_i z hz<;>split at h<;>(try(cases h;done))<;>split at h<;>(try(cases h;done))<;>(injection h with h;injection h with h1 h2;simp[*])
 case index t x i=>
  split at h
  ·rename_i len e cs n hu tL CH;split at h
   ·rename_i z hz;split at h
    ·rename_i fy;obtain⟨hb,rfl⟩:=fu _ h;exact⟨rfl,λR' W' ha _=>by rw[ha x (by simp),ha i (by simp)];simp[hu,tL,CH,hz,fy,hb]⟩
    ·cases h
   ·cases h
  ·rename_i rj;obtain⟨hb,rfl⟩:=fu _ h;refine⟨rfl,λR' W' ha _=>?_⟩;rw[ha x (by simp),ha i (by simp)];split
   ·rename_i len e cs n hu tL CH;exact absurd CH (by intro CH;exact rj _ _ _ _ hu tL CH)
   ·rw[Mp R' (λy hy=>ha y hy),hb];rfl
 case extract x i=>
  split at h
  ·rename_i vs tL;obtain⟨hb,rfl⟩:=fu _ h;exact⟨rfl,λR' W' ha _=>by rw[ha x (by simp),tL];simp[hb]⟩
  ·cases h
 case typeAssert x s t ok=>
  split at h
  ·cases h
  ·rename_i rj u v0 hu tL;split at h
   ·rename_i hut;injection h with h;injection h with h1 h2;subst h1;subst h2;exact⟨rfl,λR' W' ha _=>by rw[ha x (by simp)];simp[hu,tL,hut]⟩
   ·cases h
  ·cases h
 case load t a=>obtain⟨hb,rfl⟩:=fu _ h;refine⟨rfl,λR' W' ha hg=>?_⟩;have wB:Grow W1 W':=hg.resolve_left (by simp[fB]);rw[ha a (by simp),GK wB hb];rfl
 case lookup t m k ok=>obtain⟨hb,rfl⟩:=fu _ h;refine⟨rfl,λR' W' ha hg=>?_⟩;have wB:Grow W1 W':=hg.resolve_left (by simp[fB]);rw[ha m (by simp),ha k (by simp),BY wB hb];rfl
 case makeFunc fn first gd=>
  cases fn<;>(try(simp only[]at hk;exfalso;omega));rename_i f0;simp only at h|-;injection h with h;injection h with h1 h2;subst h1;subst h2;refine⟨rfl,λR' W' ha _=>?_⟩;have e1:first.map (aw R')=first.map (aw R):=Array.map_congr_left λy hy=>ha y (by simp[hy])
  have e2:gd.map (aw R')=gd.map (aw R):=Array.map_congr_left λy hy=>ha y (by simp[hy])
  rw[e1,e2]
 case binOp op t x y yt=>
  by_cases nu:op=.eql\/op=.neq
  ·have dQ:∀W',(fB (⟨dst,.binOp op t x y yt,type,pos,after,guard⟩:am)=0\/Grow W W')->Grow W W':=λW' hg=>hg.resolve_left (by rcases nu with rfl|rfl<;>simp[fB])
   split at h
   ·rename_i u hb;injection h with h;injection h with h1 h2;subst h1;subst h2;refine⟨rfl,λR' W' ha hg=>?_⟩;have wB:=dQ W' hg;have:lK P W' op t (aw R x) (aw R y)=some u:=by
     unfold lK at hb|-;split at hb
     ·exact hb
     ·split at hb
      ·cases he:jB P W t (aw R x) (aw R y)with
       |none=>
        rw[he]at hb;cases ht:yB P t (aw R x) (aw R y)with
        |none=>rw[ht]at hb;cases hb
        |some b=>rw[Aj ht W',<-ht];rw[ht]at hb|-;exact hb
       |some b=>rw[he]at hb;simp only[AN wB he];exact hb
      ·cases he:jB P W t (aw R x) (aw R y)with
       |none=>
        rw[he]at hb;cases ht:yB P t (aw R x) (aw R y)with
        |none=>rw[ht]at hb;cases hb
        |some b=>rw[Aj ht W',<-ht];rw[ht]at hb|-;exact hb
       |some b=>rw[he]at hb;simp only[AN wB he];exact hb
      ·cases hb
    rw[ha x (by simp),ha y (by simp),this]
   ·rename_i hb;obtain⟨hp,rfl⟩:=fu _ h;refine⟨rfl,λR' W' ha hg=>?_⟩;have np:a7 (aw R x)=true:=by
     unfold fZ at hp;split at hp
     ·rename_i hc;simp only[bm,bV,Array.mem_toList_iff]at hc;exact hc.2 x (by simp[Op.operands])
     ·cases hp
    have:lK P W' op t (aw R x) (aw R y)=none:=by
     rw[<-hb];unfold lK;split
     ·rfl
     ·split
      ·rw[xH np]
      ·rw[xH np]
      ·rfl
    rw[ha x (by simp),ha y (by simp),this,Mp R' (λy hy=>ha y hy),hp];rfl
  ·have Ix:∀W',lK P W' op t (aw R x) (aw R y)=lK P W op t (aw R x) (aw R y):=by
    intro W';unfold lK;split
    ·rfl
    ·cases op<;>simp at nu|-
   split at h
   ·rename_i u hb;injection h with h;injection h with h1 h2;subst h1;subst h2;exact⟨rfl,λR' W' ha hg=>by rw[ha x (by simp),ha y (by simp),Ix W',hb]⟩
   ·rename_i hb;obtain⟨hp,rfl⟩:=fu _ h;exact⟨rfl,λR' W' ha hg=>by rw[ha x (by simp),ha y (by simp),Ix W',hb,Mp R' (λy hy=>ha y hy),hp];rfl⟩
 case call c=>
  obtain⟨callee,args,argTypes⟩:=c;cases callee with
  |value f=>simp only at hk;exfalso;omega
  |invoke r name=>simp only at hk;exfalso;omega
  |builtin b=>
   cases b<;>(try(simp only at hk;exfalso;omega));simp only at h|-;have bY:∀R',(∀y∈(Call.operands {callee:=.builtin .len,args,argTypes}),aw R' y=aw R y)->args.toList.map (aw R')=args.toList.map (aw R):=λR' ha=>List.map_congr_left λy hy=>ha y (by simp only[Call.operands];simpa using hy)
   unfold fS at h;split at h
   ·rename_i n c hl;split at h
    ·rename_i e hu;injection h with h;injection h with h1 h2;subst h1;subst h2;exact⟨rfl,λR' W' ha hg=>by unfold fS;rw[bY R' ha,hl];simp only[hu]⟩
    ·cases h
   ·rename_i hl;split at h
    ·rename_i k e hu;injection h with h;injection h with h1 h2;subst h1;subst h2;exact⟨rfl,λR' W' ha hg=>by unfold fS;rw[bY R' ha,hl];simp only[hu]⟩
    ·cases h
   ·rename_i r hl;split at h
    ·rename_i k e es c hu hr;injection h with h;injection h with h1 h2;subst h1;subst h2;refine⟨rfl,λR' W' ha hg=>?_⟩;have wB:Grow W W':=hg.resolve_left (by simp[fB]);unfold fS;rw[bY R' ha,hl];simp only[hu,wB _ _ hr]
    ·cases h
   ·rename_i hb hl;cases hb
   ·rename_i hb hl;cases hb
   ·rename_i hb hl;cases hb
   ·rename_i hb hl;cases hb
   ·rename_i hb hl;cases hb
   ·rename_i hb hl;cases hb
   ·rename_i h1 h2 h3 _ _ _ _ _ _;obtain⟨hp,rfl⟩:=fu _ h;refine⟨rfl,λR' W' ha hg=>?_⟩;unfold fS;rw[bY R' ha];split
    ·rename_i hl;exact absurd hl (h1 _ _ _ rfl)
    ·rename_i hl;exact absurd hl (h2 rfl)
    ·rename_i hl;exact absurd hl (h3 _ rfl)
    ·rename_i hb hl;cases hb
    ·rename_i hb hl;cases hb
    ·rename_i hb hl;cases hb
    ·rename_i hb hl;cases hb
    ·rename_i hb hl;cases hb
    ·rename_i hb hl;cases hb
    ·rw[Mp R' (λy hy=>ha y hy),hp];rfl
end
section
variable [aj]
def ou{P:ag}{σ:cm}{b:Nat}(hb:σ b=none)(w:ap)(t:ah){cs bP:List ae}(hc:LR σ cs bP):
 (newRow t bP.toArray).run P w=.ok ⟨w.heap.size,0,none⟩ {w with heap:=w.heap.push (.cells bP.toArray t)}/\
 jh (bu σ b ⟨w.heap.size,0,cs.length⟩) (w.heap.push (.cells bP.toArray t)) ⟨w.heap.size,0,cs.length⟩ (.cells cs):=by
 refine⟨by simp[newRow],⟨bP.toArray,t,(0,0),by simp,λ_=>rfl,by simp,by simp[hc.1],λi v hv=>?_⟩⟩;obtain⟨v',a,b⟩:=hc.get hv;exact⟨v',by simpa using a,b.mono (cA hb)⟩
def Lays(P:ag)(R:aj.Fr)(o:am)(obj:de)(mk:Nat->ae):Prop:=
 ∀(σ:cm) (ρ:ao->ae) (w:ap) (b:Nat),(∀x∈o.op.operands,VR σ (aw R x) (ρ x))->σ b=none->
  ∃v' x e,(execOp ρ o).run P w=.ok (.value v') {w with heap:=w.heap.push x}/\VR (bu σ b ⟨w.heap.size,0,e⟩) (mk b) v'/\jh (bu σ b ⟨w.heap.size,0,e⟩) (w.heap.push x) ⟨w.heap.size,0,e⟩ obj
def Lays.agree{P:ag}{R R':aj.Fr}{o:am}{obj:de}{mk:Nat->ae}(h:Lays P R o obj mk)(ha:Af o R R'):Lays P R' o obj mk:=
 λσ ρ w b hρ hb=>h σ ρ w b (λx hx=>by rw[<-ha x hx];exact hρ x hx) hb
def MG{P:ag}{R:aj.Fr}{o:am}{t:ah}{cs:List ae}(h:∀(σ:cm) (ρ:ao->ae) (w:ap),(∀x∈o.op.operands,VR σ (aw R x) (ρ x))->
 ∃bP,LR σ cs bP/\(execOp ρ o).run P w=((do pure (.value (.pointer (some (<-newRow t bP.toArray))))):Sem Next).run P w):
 Lays P R o (.cells cs) (λb=>.pointer (some ⟨b,0,none⟩)):=by
 intro σ ρ w b hρ hb;obtain⟨bP,hc,hr⟩:=h σ ρ w hρ;obtain⟨h1,h2⟩:=ou (P:=P) hb w t hc;refine⟨.pointer (some ⟨w.heap.size,0,none⟩),.cells bP.toArray t,cs.length,by rw[hr];simp only[bJ,h1,bG,eh],?_,h2⟩;have:=VR.ptr (σ:=bu σ b ⟨w.heap.size,0,cs.length⟩) ⟨b,0,none⟩ _ cz rfl;simpa using this
def Jg{P:ag}{R:aj.Fr}{o:am}{t:ah}{cs:List ae}(h:∀(σ:cm) (ρ:ao->ae) (w:ap),(∀x∈o.op.operands,VR σ (aw R x) (ρ x))->
 ∃bP,LR σ cs bP/\(execOp ρ o).run P w=((do pure (.value (.pointer (some (<-newRow t bP.toArray))))):Sem Next).run P w):
 Lays P R o (jL t cs) (λb=>.pointer (some ⟨b,0,none⟩)):=by
 intro σ ρ w b hρ hb;obtain⟨bP,hc,hr⟩:=h σ ρ w hρ;obtain⟨h1,_⟩:=ou (P:=P) hb w t hc;refine⟨.pointer (some ⟨w.heap.size,0,none⟩),.cells bP.toArray t,cs.length,by rw[hr];simp only[bJ,h1,bG,eh],?_,zf (hc.mono (cA hb)) (by simp)⟩;have:=VR.ptr (σ:=bu σ b ⟨w.heap.size,0,cs.length⟩) ⟨b,0,none⟩ _ cz rfl;simpa using this
set_option maxHeartbeats 1000000 in
def Lk{P:ag}{call:Callee}{o:am}{R:aj.Fr}{W W1:AW}{v:ae}(hk:fB o=2)(h:mE P call o R W=some (v,W1)):
 ∃obj mk,(∀cs,obj≠ .ro cs)/\v=mk W.next/\W1=W.add obj/\Lays P R o obj mk:=by
 obtain⟨dst,op,type,pos,after,guard⟩:=o;cases op<;>simp only[fB]at hk<;>(try(exfalso;omega))<;>simp only[qt,fg,zW]at h;case alloc t=>
  split at h
  ·rename_i z hz;injection h with h;rw[AW.cF]at h;injection h with h1 h2;refine⟨jL t z.cells.toList,λb=>.pointer (some ⟨b,0,none⟩),Av t _,h1.symm,h2.symm,Jg (t:=t) λσ ρ w hρ=>?_⟩;obtain⟨uf,wP⟩:=fd hz w;refine⟨z.cells.toList,w7 wP,?_⟩;simp[execOp,Instr.alloc,uf,newVar]
  ·cases h
 case box t x=>injection h with h;rw[AW.cF]at h;injection h with h1 h2;refine⟨.cells (aw R x).cells.toList,λb=>.pointer (some ⟨b,0,none⟩),λ_=>by simp,h1.symm,h2.symm,MG (t:=t) λσ ρ w hρ=>?_⟩;refine⟨(ρ x).cells.toList,(hρ x (by simp[Op.operands])).cells,?_⟩;simp[execOp,Instr.box,newVar]
 case buildSlice t len ps=>
  replace h:=oJ h;unfold kr at h;split at h
  ·rename_i e hu;split at h
   ·rename_i n z hn hz;split at h
    ·rename_i hc;obtain⟨hc1,Fs,N9⟩:=hc;split at h
     ·rename_i c hf;injection h with h;rw[AW.cF]at h;injection h with h1 h2;refine⟨.cells c.toList,λb=>.slice (some ⟨b,0,none⟩) len len,λ_=>by simp,h1.symm,h2.symm,?_⟩;intro σ ρ w b hρ hb;have hp:=uU (σ:=σ) (R:=R) (ρ:=ρ) ps (λp hp=>hρ p.2 (by simp[Op.operands];exact⟨p.1,by simpa using hp⟩));obtain⟨uf,wP⟩:=fd hz w;obtain⟨uh,h1,h2⟩:=sR _ _ _ _ _ _ hp (LR.jt (σ:=σ) (λ_=>dx) N9) hf;obtain⟨k1,k2⟩:=ou (P:=P) hb w e (cs:=c.toList) (bP:=uh.toList) h2;refine⟨.slice (some ⟨w.heap.size,0,none⟩) len len,.cells uh.toList.toArray e,c.toList.length,?_,?_,k2⟩
      ·have LB:¬len*n>2^ 24:=by omega
       simp only[fw]at k1;have:(Instr.buildSlice t len (ps.map λ(i,x)=>(i,ρ x))).run P w=.ok (.slice (some ⟨w.heap.size,0,none⟩) len len) {w with heap:=w.heap.push (.cells uh e)}:=by
        by_cases h0:len*n=0
        ·rw[nA h0]at h1;simp only[Instr.buildSlice,bJ,bn hu,bG,be hn,ay LB,eh,ax h0];rw[show(Array.map (λx=>(#[]:Array ae)[x % (#[]:Array ae).size]!) (Array.range (len*n)))=#[]by rw[h0];simp,h1];simp[k1]
        ·rw[qd h0]at h1;simp only[Instr.buildSlice,bJ,bn hu,bG,be hn,ay LB,eh,ay h0,uf];rw[show(Array.map (λx=>z.cells[x % z.cells.size]!) (Array.range (len*n)))=B2 z (len*n)from rfl,h1];simp[k1]
       simp only[execOp,bJ,this,bG,eh,fw]
      ·have:=VR.slice (σ:=bu σ b ⟨w.heap.size,0,c.toList.length⟩) ⟨b,0,none⟩ len len len _ cz rfl (.known len Fs);simpa using this
     ·cases h
    ·cases h
   ·cases h
  ·cases h
 case makeSlice t l c=>
  unfold jm at h;split at h
  ·rename_i e hu;split at h
   ·rename_i n z bytes kl l0 kc c0 hn hz Wq hel hec;split at h
    ·rename_i mU;obtain⟨c1,c2,c3,c4⟩:=mU;injection h with h;rw[AW.cF]at h;injection h with h1 h2;refine⟨.cells (hX z (c0*n)).toList,λb=>.slice (some ⟨b,0,none⟩) l0 c0,λ_=>by simp,h1.symm,h2.symm,?_⟩;intro σ ρ w b hρ hb;have hl:=hρ l (by simp[Op.operands]);have hc:=hρ c (by simp[Op.operands]);rw[hel]at hl;rw[hec]at hc;have D6:=hl.mf;have qU:=hc.mf;obtain⟨uf,wP⟩:=fd hz w;have hi:∃i,P.info? e=some i/\i.bytes=bytes:=by
      cases hi:P.info? e with
      |none=>rw[hi]at Wq;cases Wq
      |some i=>rw[hi]at Wq;simp at Wq;exact⟨i,rfl,Wq⟩
     obtain⟨i,hi,OD⟩:=hi;have Mr:LR σ (hX z (c0*n)).toList (hX z (c0*n)).toList:=LR.jt (λ_=>dx) c4;obtain⟨k1,k2⟩:=ou (P:=P) hb w e Mr;refine⟨.slice (some ⟨w.heap.size,0,none⟩) l0 c0,.cells (hX z (c0*n)).toList.toArray e,_,?_,?_,k2⟩
     ·have:(Instr.makeSlice t (ρ l) (ρ c)).run P w=.ok (.slice (some ⟨w.heap.size,0,none⟩) l0 c0) {w with heap:=w.heap.push (.cells (hX z (c0*n)).toList.toArray e)}:=by
       rw[D6,qU];have hwl:IntKind.i64.wrap (Int.ofNat l0)=(l0:Int):=tH (by omega);have hwc:IntKind.i64.wrap (Int.ofNat c0)=(c0:Int):=tH c2;have yI:(typeInfo e).run P w=.ok i w:=by simp[typeInfo,hi]
       have ZA:(bytes:Int)*(c0:Int)<=281474976710656:=by
        have:((c0*bytes:Nat):Int)<=281474976710656:=by omega
        rw[Int.natCast_mul,Int.mul_comm]at this;exact this
       simp only[fw]at k1;have F8:¬(((decide ((c0:Int)<0)||decide ((i.bytes:Int)*(c0:Int)>2^ 48))||decide ((l0:Int)<0)||decide ((l0:Int)>(c0:Int)))=true):=by rw[OD];simp;omega
       simp only[Instr.makeSlice,bJ,bn hu,bG,asInt,asIntOf,eh,yI,hwl,hwc];rw[ay (by simpa using F8)];by_cases h0:c0*n=0
       ·rw[nA h0]at k1|-;simp only[bJ,run_askRoom,bG,nG,be hn,ax h0,eh];rw[show(Array.map (λx=>(#[]:Array ae)[x % (#[]:Array ae).size]!) (Array.range (c0*n)))=#[]by rw[h0];simp,k1];simp
       ·rw[qd h0]at k1|-;simp only[bJ,run_askRoom,bG,nG,be hn,ay h0,uf,eh];rw[show(Array.map (λx=>z.cells[x % z.cells.size]!) (Array.range (c0*n)))=B2 z (c0*n)from rfl,k1];simp
      simp only[execOp,bJ,this,bG,eh]
     ·have:=VR.slice (σ:=bu σ b ⟨w.heap.size,0,(hX z (c0*n)).toList.length⟩) ⟨b,0,none⟩ l0 c0 c0 _ cz rfl (.known c0 (by unfold eS;omega));simpa using this
    ·cases h
   ·cases h
  ·cases h
 case binOp op t x y yt=>split at hk<;>omega
 case makeFunc fn a b=>cases fn<;>simp only[]at hk<;>omega
 case call c=>obtain⟨callee,args,argTypes⟩:=c;cases callee<;>simp only at hk<;>(try omega);rename_i b;cases b<;>simp only at hk<;>omega
section
variable {σ:cm} {W:AW} {w:ap}
def aX.ghost(h:aX σ W w.heap)(o:de):aX σ (W.add o) w.heap:=by
 have dQ:∀{c:Nat} {g:pY},σ c=some g->c≠W.next:=λhc e=>by have:=(h.lH _ _ hc).1;omega
 refine⟨?_,?_,?_,?_⟩
 ·intro c hc;have qU:W.next+1<=c:=hc;rw[AW.aZ _ _ (by omega)];exact h.free c (by omega)
 ·intro c g hc;have:=h.lH c g hc;simp only[AW.aJ];omega
 ·intro c o2 g hc hg;rw[AW.aZ _ _ (bL (dQ hg))]at hc;exact h.obj c o2 g hc hg
 ·intro b1 b2 o1 o2 g1 g2 CI h1 h2 k1 k2 hr;rw[AW.aZ _ _ (bL (dQ k1))]at h1;rw[AW.aZ _ _ (bL (dQ k2))]at h2;exact h.lP _ _ _ _ _ _ CI h1 h2 k1 k2 hr
def aX.bind(h:aX σ W w.heap){b e:Nat}{o:de}{x:kb}(hb:W.get b=some o)(zA:σ b=none)
 (jJ:jh (bu σ b ⟨w.heap.size,0,e⟩) (w.heap.push x) ⟨w.heap.size,0,e⟩ o):
 aX (bu σ b ⟨w.heap.size,0,e⟩) W (w.heap.push x):=by
 have hs:Sub σ (bu σ b ⟨w.heap.size,0,e⟩):=cA zA;have dH:∀B,B<w.heap.size->(w.heap.push x)[B]? =w.heap[B]? :=λB hB=>by rw[nz];rw[bX]
 have lu:∀c g,bu σ b ⟨w.heap.size,0,e⟩ c=some g->(c=b/\g=⟨w.heap.size,0,e⟩)\/(c≠b/\σ c=some g):=λc g hc=>by
  unfold bu at hc;split at hc
  ·rename_i hx;injection hc with hc;exact .inl ⟨hx,hc.symm⟩
  ·rename_i hx;exact .inr ⟨hx,hc⟩
 have HN:b<W.next:=by
  rcases qF b W.next with h1|h1
  ·exact h1
  ·rw[h.free b h1]at hb;cases hb
 refine⟨h.free,?_,?_,?_⟩
 ·intro c g hc;rcases lu c g hc with⟨rfl,rfl⟩|⟨_,h2⟩
  ·exact⟨HN,by simp⟩
  ·have:=h.lH c g h2;simp;omega
 ·intro c o2 g hc hk;rcases lu c g hk with⟨rfl,rfl⟩|⟨h1,h2⟩
  ·rw[hb]at hc;injection hc with hc;subst hc;exact jJ
  ·exact((h.obj c o2 g hc h2).mono hs).same (dH _ (h.lH c g h2).2)
 ·intro b1 b2 o1 o2 g1 g2 CI h1 h2 k1 k2 hr;rcases lu b1 g1 k1 with⟨rfl,rfl⟩|⟨x1,y1⟩
  ·rcases lu b2 g2 k2 with⟨rfl,rfl⟩|⟨x2,y2⟩
   ·exact absurd rfl CI
   ·have:=(h.lH _ _ y2).2;exact .inl (by simp only[ne_eq];omega)
  ·rcases lu b2 g2 k2 with⟨rfl,rfl⟩|⟨x2,y2⟩
   ·have:=(h.lH _ _ y1).2;exact .inl (by simp only[ne_eq];omega)
   ·exact h.lP _ _ _ _ _ _ CI h1 h2 y1 y2 hr
def dE.Ko{σ0:cm}{W0:AW}{w0:ap}(h:dE σ0 W0 w0 σ W w)(hw:W.get W.next=none)(o:de):dE σ0 W0 w0 σ (W.add o) w:=
 ⟨h.sub,λb cs x=>by
   have h1:=h.ro b cs x;have:W.next≠b:=λe=>by subst e;rw[hw]at h1;cases h1
   rw[AW.aZ _ _ this];exact h1,
   h.size,h.os,h.tape,h.output,h.dD,λb o2 h1 h2=>by
    obtain⟨a1,a2⟩:=h.ghost b o2 h1 h2;have:W.next≠b:=λe=>by subst e;rw[hw]at a1;cases a1
    exact⟨by rw[AW.aZ _ _ this];exact a1,a2⟩,h.grow⟩
def dE.bind{σ0:cm}{W0:AW}{w0:ap}(h:dE σ0 W0 w0 σ W w){b e:Nat}(zA:σ b=none)(h0:W0.get b=none){x:kb}{o:de}(jJ:jh (bu σ b ⟨w.heap.size,0,e⟩) (w.heap.push x) ⟨w.heap.size,0,e⟩ o)(lT:∀cs,o≠ .ro cs):
 dE σ0 W0 w0 (bu σ b ⟨w.heap.size,0,e⟩) W {w with heap:=w.heap.push x}:=by
 have hs:Sub σ (bu σ b ⟨w.heap.size,0,e⟩):=cA zA;refine⟨h.sub.trans hs,h.ro,by have:=h.size;simp;omega,h.os,h.tape,h.output,?_,?_,?_⟩
 ·intro B hB hm;rw[<-h.dD B hB hm];have:=h.size;show(w.heap.push x)[B]? =_;rw[nz,bX]
 ·intro c o2 h1 h2;obtain⟨a1,a2⟩:=h.ghost c o2 h1 h2;have:c≠b:=λe=>by subst e;rw[h0]at h1;cases h1
  exact⟨a1,by unfold bu;rw[ay this];exact a2⟩
 ·intro c g hk hB;unfold bu at hk;split at hk
  ·injection hk with hk;subst hk;have:=h.size;simp at hB;omega
  ·exact h.grow c g hk hB
end
end
section
variable [aj]
def HD{d:Option Tmp}{l:List Tmp}:EW d l=true<->∃t,d=some t/\t∈l:=by
 cases d with
 |none=>simp[EW]
 |some d=>simp[EW,oC]
def mP{d:Option Tmp}{l:List Tmp}(h:EW d l=false){t:Tmp}(ht:d=some t):t∉l:=λhm=>by have:=HD.2 ⟨t,ht,hm⟩;rw[h]at this;cases this
def fp(ops:Array am)(R:aj.Fr)(o:am):Bool:=
 match o.guard with
 |none=>true
 |some (j,w)=>match(ops[j]?).bind (·.dst)with
  |some t=>(match ch R t with|.bool b=>b==w|_=>false)
  |none=>false
def DU{ops:Array am}{o:am}{t:Tmp}(h:Operand.tmp t∈o.op.operands):t∈o.looksAt ops:=by unfold Oper.looksAt;refine mC.2 (.inl (List.mem_filterMap.2 ⟨.tmp t,by simpa using h,rfl⟩))
def we{ops:Array am}{o:am}{j:Nat}{w:Bool}{t:Tmp}(h:o.guard=some (j,w))(ht:(ops[j]?).bind (·.dst)=some t):t∈o.looksAt ops:=by unfold Oper.looksAt;refine mC.2 (.inr ?_);rw[h];simp only;rw[ht];simp
def C5{R R':aj.Fr}{x:ao}(h:∀t,x=.tmp t->ch R' t=ch R t):aw R' x=aw R x:=by
 cases x with
 |tmp t=>exact h t rfl
 |_=>rfl
def sG{ops:Array am}{o:am}{R R':aj.Fr}(h:∀t∈o.looksAt ops,ch R' t=ch R t):Af o R R'/\fp ops R' o=fp ops R o:=by
 refine⟨λx hx=>C5 λt ht=>h t (DU (by rw[<-ht];exact hx)),?_⟩;unfold fp;split
 ·rfl
 ·rename_i j w hg;split
  ·rename_i t ht;rw[h t (we hg ht)]
  ·rfl
def VR.Kx{σ:cm}{v:ae}{b:Bool}(h:VR σ v (.bool b)):v=.bool b:=by cases h;rfl
def vh{ops:Array am}{o:am}{σ:cm}{R:aj.Fr}{a:aQ}(h:∀t∈o.looksAt ops,VR σ (ch R t) (a.tmps.getD t ai)):
 Region.wanted o (yielded ops a.tmps)=fp ops R o:=by
 unfold Region.wanted fp;cases hg:o.guard with
 |none=>rfl
 |some jw=>
  obtain⟨j,w⟩:=jw;simp only;unfold yielded;cases ht:(ops[j]?).bind (·.dst)with
  |none=>rfl
  |some t=>
   have hv:=h t (we hg ht);simp only[bl];cases hq:a.tmps[t]? with
   |none=>
    have he:a.tmps.getD t ai=ai:=by simp[hq]
    rw[he]at hv;have:∀b,ch R t≠ .bool b:=λb hb=>by rw[hb]at hv;have:=hv.fA;simp[ai]at this
    simp only;first
     |rfl
     |(split
       ·rename_i b hb;exact absurd hb (this b)
       ·rfl)
   |some u=>
    have he:a.tmps.getD t ai=u:=by simp[hq]
    rw[he]at hv;cases hr:ch R t with
    |bool b=>rw[hr]at hv;have:=hv.fA;subst this;simp
    |_=>
     simp only;split
     ·rename_i b hb;injection hb with hb;subst hb;have:=hv.Kx;rw[hr]at this;cases this
     ·rfl
def gV(P:ag)(call:Callee)(ops:Array am)(o:am)(R:aj.Fr)(W:AW):Option (aj.Fr×AW):=
 if fp ops R o then
  match mE P call o R W with
  |some (v,W')=>some (dw R o.dst v,W')
  |none=>none
 else some (dw R o.dst ai,W)
def kR(P:ag)(call:Callee)(ops:Array am):List am->aj.Fr->AW->Option (aj.Fr×AW)
 |[],R,W=>some (R,W)
 |o::l,R,W=>match gV P call ops o R W with
  |some (R',W')=>kR P call ops l R' W'
  |none=>none
def tP(a b:ByteArray):Bool:=decide (a.data.toList=b.data.toList)
def uV(a b:aM):Bool:=Nat.beq a.block b.block&&Nat.beq a.off b.off&&a.spot.isNone&&b.spot.isNone
def rJ:ae->ae->Bool
 |.bool a,.bool b=>a==b
 |.int k a,.int j b=>decide (k=j)&&decide (a=b)
 |.string a,.string b=>tP a b
 |.pointer none,.pointer none=>true
 |.pointer (some a),.pointer (some b)=>uV a b
 |.slice none l c,.slice none l' c'=>Nat.beq l l'&&Nat.beq c c'
 |.slice (some a) l c,.slice (some b) l' c'=>uV a b&&Nat.beq l l'&&Nat.beq c c'
 |.map none,.map none=>true
 |.map (some a),.map (some b)=>Nat.beq a b
 |.nilFunc,.nilFunc=>true
 |.nilIface,.nilIface=>true
 |.func (.func f) a b,.func (.func g) c d=>Nat.beq f g&&a.isEmpty&&b.isEmpty&&c.isEmpty&&d.isEmpty
 |_,_=>false
def Qq:List ae->List ae->Bool
 |[],[]=>true
 |a::l,b::m=>rJ a b&&Qq l m
 |_,_=>false
def gu:ae->ae->Bool
 |.agg a,.agg b=>Qq a.toList b.toList
 |.tuple a,.tuple b=>Qq a.toList b.toList
 |.iface t a,.iface u b=>Nat.beq t u&&rJ a b
 |a,b=>rJ a b
def xK{a b:ByteArray}(h:tP a b=true):a=b:=by have:=jn h;cases a;cases b;simp only[ByteArray.mk.injEq];exact mA.1 this
def AV{a b:aM}(h:uV a b=true):a=b:=by simp only[uV,bm,dp]at h;obtain⟨⟨⟨h1,h2⟩,h3⟩,h4⟩:=h;obtain⟨b1,o1,s1⟩:=a;obtain⟨b2,o2,s2⟩:=b;cases s1<;>cases s2<;>simp_all
def FO{a b:ae}(h:rJ a b=true):a=b:=by
 unfold rJ at h;split at h<;>first
  |rfl
  |(simp at h;done)
  |(simp only[bm,dp,lZ,oq]at h;simp[h];done)
  |(rw[xK h];done)
  |(rw[AV h];done)
  |(simp only[bm,dp]at h;obtain⟨⟨h1,h2⟩,h3⟩:=h;rw[AV h1,h2,h3];done)
  |(simp only[bm,dp,tp]at h;obtain⟨⟨⟨⟨h1,h2⟩,h3⟩,h4⟩,h5⟩:=h;subst h1 h2 h3 h4 h5;rfl)
def Lo{a b:List ae}(h:Qq a b=true):a=b:=by
 induction a generalizing b with
 |nil=>cases b with|nil=>rfl|cons x l=>cases h
 |cons x l ih=>
  cases b with
  |nil=>cases h
  |cons y m=>simp only[Qq,bm]at h;rw[FO h.1,ih h.2]
def Lu{a b:ae}(h:gu a b=true):a=b:=by
 unfold gu at h;split at h
 ·rw[mA.1 (Lo h)]
 ·rw[mA.1 (Lo h)]
 ·simp only[bm,dp]at h;rw[h.1,FO h.2]
 ·exact FO h
def mh(P:ag)(call:Callee)(ops:Array am)(R:aj.Fr)(W:AW)(j:Nat):Bool:=
 match ops[j]? with
 |none=>false
 |some o=>if fp ops R o then
  match mE P call o R W with
  |some (v,_)=>(match o.dst with|some t=>gu v (ch R t)|none=>true)
  |none=>false
  else true
def gI(P:ag)(call:Callee)(ops:Array am):List (Nat×List Nat)->aj.Fr->AW->Option (aj.Fr×AW)
 |[],R,W=>some (R,W)
 |(i,re)::l,R,W=>match ops[i]? with
  |none=>none
  |some o=>match gV P call ops o R W with
   |some (R',W')=>if re.all (mh P call ops R' W')then gI P call ops l R' W' else none
   |none=>none
def Hi{P:ag}{call:Callee}{ops:Array am}:∀(l:List Nat) (R:aj.Fr) (W:AW),(∀i∈l,i<ops.size)->
 gI P call ops (l.map λi=>(i,[])) R W=kR P call ops (l.filterMap λi=>ops[i]?) R W:=by
 intro l;induction l with
 |nil=>intro R W _;rfl
 |cons i l ih=>
  intro R W h;have hi:i<ops.size:=h i (by simp);have hg:ops[i]? =some ops[i]:=ft hi;simp only[iN,gI,hg,List.filterMap_cons,kR];split
  ·rename_i R' W' hs;simp only[qf,bc];exact ih R' W' λj hj=>h j (by simp[hj])
  ·rfl
def iB{R:aj.Fr}{d:Option Tmp}{v:ae}{t:Tmp}(h:d≠some t):ch (dw R d v) t=ch R t:=by
 cases d with
 |none=>rfl
 |some d=>exact n9 R v (λe=>h (by rw[e]))
def qJ{R:aj.Fr}{d:Option Tmp}{v:ae}{t:Tmp}(h:d=some t):ch (dw R d v) t=v:=by subst h;exact qo R t v
def fj{a:aQ}{d:Option Tmp}{v:ae}{t:Tmp}(h:d≠some t):(a.put d v).tmps.getD t ai=a.tmps.getD t ai:=by
 cases d with
 |none=>rfl
 |some d=>
  have:d≠t:=λe=>h (by rw[e])
  simp[Act.put,xX this]
def lm{a:aQ}{d:Option Tmp}{v:ae}{t:Tmp}(h:d=some t)(ht:t<a.tmps.size):(a.put d v).tmps.getD t ai=v:=by subst h;simp[Act.put,ht]
def zm{a:aQ}{d:Option Tmp}{v:ae}:(a.put d v).tmps.size=a.tmps.size:=by cases d<;>simp[Act.put]
end
section
variable [aj]
def Ij{a b:Nat}(h:Nat.beq a b=false):a≠b:=λe=>by rw[e,mu]at h;cases h
def NR{A:List Nat}{o:am}{j:Nat}(h:Nat.testBit (pZ A o) j=true):
 ∃e∈o.after,Region.binds .any e=true/\(j=e.on\/Nat.testBit (A.getD e.on 0) j=true):=by
 have key:∀l:List Edge,Nat.testBit (l.foldr (λe m=>if Region.binds .any e then Nat.lor (Nat.lor (2^ e.on) (A.getD e.on 0)) m else m) 0) j=true->
  ∃e∈l,Region.binds .any e=true/\(j=e.on\/Nat.testBit (A.getD e.on 0) j=true):=by
  intro l;induction l with
  |nil=>intro h;simp at h
  |cons e l ih=>
   intro h;simp only[List.foldr_cons]at h;split at h
   ·rename_i hb;have h':Nat.testBit ((2^ e.on|||A.getD e.on 0)|||(l.foldr (λe m=>if Region.binds .any e then Nat.lor (Nat.lor (2^ e.on) (A.getD e.on 0)) m else m) 0)) j=true:=h;rw[Nat.testBit_or,Nat.testBit_or,kL,kL]at h';rcases h' with(h1|h1)|h1
    ·rw[Nat.testBit_two_pow]at h1;exact⟨e,by simp,hb,.inl (jn h1).symm⟩
    ·exact⟨e,by simp,hb,.inr h1⟩
    ·obtain⟨e',a,b⟩:=ih h1;exact⟨e',by simp[a],b⟩
   ·obtain⟨e',a,b⟩:=ih h;exact⟨e',by simp[a],b⟩
 obtain⟨e,a,b⟩:=key o.after.toList h;exact⟨e,by simpa using a,b⟩
structure Ss (ops:Array am) (A:List Nat) (pre:List yP) (i:Nat) (re:List Nat) (gn:List (Nat×List Nat)) (o:am) (e:Bool):Prop where
 op:ops[i]? =some o
 early:e=true->fB o<3/\EW o.dst (o.looksAt ops)=false/\∀d∈pre,EW o.dst (gN ops d.o)=false
 new:∀d∈pre,d.i≠i
 top:∀ed∈o.after,Region.binds .any ed=true->∃d∈pre,d.i=ed.on
 held:∀d∈pre,d.early=true->Nat.testBit (A.getD i 0) d.i=true\/(EW d.o.dst (o.looksAt ops)=false/\(e=true\/(EW o.dst (gN ops d.o)=false/\(fB d.o=0\/fB d.o=2\/d.i∈re))))
 last:e=true\/∀k∈gn,∃ok,ops[k.1]? =some ok/\∃ed∈ok.after,Region.binds .any ed=true/\∀d∈pre,d.i≠ed.on
 go:uL ops A (⟨i,o,e⟩::pre) gn=true
def vU{ops:Array am}{A:List Nat}{pre:List yP}{i:Nat}{re:List Nat}{gn:List (Nat×List Nat)}(h:uL ops A pre ((i,re)::gn)=true):
 ∃o e,Ss ops A pre i re gn o e:=by
 unfold uL at h;split at h
 ·cases h
 ·rename_i o ho;simp only[bm]at h;obtain⟨⟨⟨⟨h1,h2⟩,h3⟩,h4⟩,h5⟩:=h;refine⟨o,_,⟨ho,?_,?_,?_,?_,?_,h5⟩⟩
  ·intro he;simp only[bm,bV,sa]at he;obtain⟨⟨a,b⟩,c⟩:=he;exact⟨by simpa[gO]using a,b,c⟩
  ·intro d hd;rw[bV]at h1;have:=h1 d hd;exact Ij (by simpa only[sa]using this)
  ·intro ed Qe hb;rw[bV]at h2;have:=h2 ed (by simpa using Qe);rw[hb]at this;simpa using this
  ·intro d hd hde;rw[bV]at h3;have:=h3 d hd;rw[hde]at this;simp only[Bool.not_true,Bool.false_or,kL,bm,sa,dp,oC,or_assoc]at this;simpa only[bm,sa,or_assoc]using this
  ·rw[kL]at h4;refine h4.imp id λh4=>?_
   intro k hk;rw[bV]at h4;have:=h4 k hk;split at this
   ·rename_i ok gJ;rw[nZ]at this;obtain⟨ed,Qe,hq⟩:=this;simp only[bm,bV,sa]at hq;refine⟨ok,gJ,ed,by simpa using Qe,hq.1,λd hd=>?_⟩;have:=hq.2 d hd;exact Ij this
   ·cases this
section
variable {P:ag} {call:Callee} {ops:Array am} {A:List Nat} {nt:Nat} {ng:List Nat} {σ0:cm} {W0:AW} {w0:ap} {ds:List cH}
def Jo(P:ag)(call:Callee)(ops:Array am)(W0:AW)(bd:Nat->Option Nat)(σ:cm)(R:aj.Fr)(W:AW)(d:yP):Prop:=
 (fp ops R d.o=false/\bd d.i=none/\∀t,d.o.dst=some t->ch R t=ai)\/
 (fp ops R d.o=true/\bd d.i=none/\fB d.o<=1/\∃v,mE P call d.o R W=some (v,W)/\∀t,d.o.dst=some t->ch R t=v)\/
 (fp ops R d.o=true/\∃obj mk x,Lays P R d.o obj mk/\(∀t,d.o.dst=some t->ch R t=mk x)/\W.get x=some obj/\W0.get x=none/\σ x=none/\bd d.i=some x/\∀cs,obj≠ .ro cs)
def pE{o:am}{t:Tmp}(h:t∈o.looksAt ops):t∈gN ops o:=by unfold gN;simp[h]
def kE{o:am}{t:Tmp}(h:o.dst=some t):t∈gN ops o:=by unfold gN;simp[h]
def Jo.mono{bd J8:Nat->Option Nat}{σ σ':cm}{R R':aj.Fr}{W W':AW}{d:yP}(h:Jo P call ops W0 bd σ R W d)
 (hb:J8 d.i=bd d.i)(hR:∀t∈gN ops d.o,ch R' t=ch R t)(hg:Grow W W')(hσ:∀x o,W.get x=some o->σ x=none->σ' x=none):
 Jo P call ops W0 J8 σ' R' W' d:=by
 obtain⟨ha,hw⟩:=sG (ops:=ops) (o:=d.o) λt ht=>hR t (pE ht)
 rcases h with⟨h1,h2,h3⟩|⟨h1,h2,h3,v,h4,h5⟩|⟨h1,obj,mk,x,h2,h3,h4,h5,h6,h7⟩
 ·exact .inl ⟨by rw[hw];exact h1,by rw[hb];exact h2,λt ht=>by rw[hR t (kE ht)];exact h3 t ht⟩
 ·exact .inr (.inl ⟨by rw[hw];exact h1,by rw[hb];exact h2,h3,v,(qx h3 h4).2 R' W' ha (.inr hg),λt ht=>by rw[hR t (kE ht)];exact h5 t ht⟩)
 ·exact .inr (.inr ⟨by rw[hw];exact h1,obj,mk,x,h2.agree ha,λt ht=>by rw[hR t (kE ht)];exact h3 t ht,hg _ _ h4,h5,hσ _ _ h4 h6,by rw[hb];exact h7⟩)
structure J (P:ag) (call:Callee) (ops:Array am) (A:List Nat) (nt:Nat) (ng:List Nat) (σ0:cm) (W0:AW) (w0:ap) (ds:List cH)
 (pre:List yP) (listed:Array Bool) (bd:Nat->Option Nat) (σ:cm) (R:aj.Fr) (W:AW) (a:aQ) (w:ap):Prop where
 uQ:aX σ W w.heap
 Gq:qM σ ng
 ext:dE σ0 W0 w0 σ W w
 Fp:a.tmps.size=nt
 OB:a.defers=ds
 rh:listed.size=ops.size
 JJ:∀t,t<nt->(∀d∈pre,listed.getD d.i true=false->d.o.dst≠some t)->VR σ (ch R t) (a.tmps.getD t ai)
 sub:∀i,i<ops.size->listed.getD i true=true->∃d∈pre,d.i=i
 op:∀d∈pre,ops[d.i]? =some d.o
 early:∀d∈pre,d.early=false->listed.getD d.i true=true
 kind:∀d∈pre,d.early=true->fB d.o<3
 down:∀i j,i<ops.size->listed.getD i true=true->Nat.testBit (A.getD i 0) j=true->listed.getD j true=true
 HY:∀d∈pre,∀d'∈pre,d'.early=true->EW d'.o.dst (d.o.looksAt ops)=true->Nat.testBit (A.getD d.i 0) d'.i=true/\d.i≠d'.i
 jF:∀d∈pre,listed.getD d.i true=false->Jo P call ops W0 bd σ R W d
 inj:∀d∈pre,∀d'∈pre,listed.getD d.i true=false->listed.getD d'.i true=false->∀x,bd d.i=some x->bd d'.i=some x->d.i=d'.i
def J.advance{pre:List yP}{listed:Array Bool}{bd:Nat->Option Nat}{σ:cm}{R R':aj.Fr}{W W':AW}{a:aQ}{w:ap}{i:Nat}{re:List Nat}{gn:List (Nat×List Nat)}{o:am}
 (hJ:J P call ops A nt ng σ0 W0 w0 ds pre listed bd σ R W a w)(hh:Ss ops A pre i re gn o true)(hs:gV P call ops o R W=some (R',W')):
 ∃J8,J P call ops A nt ng σ0 W0 w0 ds (⟨i,o,true⟩::pre) listed J8 σ R' W' a w:=by
 obtain⟨hk3,RT,LP⟩:=hh.early rfl;have hi:i<ops.size:=(cQ.1 hh.op).1;have CJ:listed.getD i true=false:=by
  cases hq:listed.getD i true with
  |false=>rfl
  |true=>obtain⟨d,hd,e⟩:=hJ.sub i hi hq;exact absurd e (hh.new d hd)
 have EU:W.get W.next=none:=hJ.uQ.free _ (aS _);have build:∀(J8:Nat->Option Nat) (u:ae),R'=dw R o.dst u->aX σ W' w.heap->dE σ0 W0 w0 σ W' w->Grow W W'->(∀k,k≠i->J8 k=bd k)->
  Jo P call ops W0 J8 σ R' W' ⟨i,o,true⟩->(∀x,J8 i=some x->W.get x=none)->J P call ops A nt ng σ0 W0 w0 ds (⟨i,o,true⟩::pre) listed J8 σ R' W' a w:=by
  intro J8 u V7 hwr Er hg VZ sz hbx;have vi:∀d∈pre,∀t∈gN ops d.o,ch R' t=ch R t:=λd hd t ht=>by rw[V7];exact iB λe=>mP (LP d hd) e ht
  have dH:∀d∈pre,listed.getD d.i true=false->Jo P call ops W0 J8 σ R' W' d:=λd hd hl=>(hJ.jF d hd hl).mono (VZ _ (hh.new d hd)) (vi d hd) hg (λ_ _ _ h=>h)
  have hpx:∀d∈pre,listed.getD d.i true=false->∀x,bd d.i=some x->∃ob,W.get x=some ob:=by
   intro d hd hl x hx;rcases hJ.jF d hd hl with⟨_,h2,_⟩|⟨_,h2,_⟩|⟨_,obj,mk,y,_,_,h4,_,_,h7⟩
   ·rw[h2]at hx;cases hx
   ·rw[h2]at hx;cases hx
   ·rw[h7.1]at hx;injection hx with hx;subst hx;exact⟨obj,h4⟩
  refine⟨hwr,hJ.Gq,Er,hJ.Fp,hJ.OB,hJ.rh,?_,?_,?_,?_,?_,hJ.down,?_,?_,?_⟩
  ·intro t ht rj;have h1:o.dst≠some t:=rj ⟨i,o,true⟩ (by simp) CJ;rw[V7,iB h1];exact hJ.JJ t ht λd hd=>rj d (by simp[hd])
  ·intro k hk hl;obtain⟨d,hd,e⟩:=hJ.sub k hk hl;exact⟨d,by simp[hd],e⟩
  ·intro d hd;rcases cP.1 hd with rfl|hd
   ·exact hh.op
   ·exact hJ.op d hd
  ·intro d hd he;rcases cP.1 hd with rfl|hd
   ·cases he
   ·exact hJ.early d hd he
  ·intro d hd he;rcases cP.1 hd with rfl|hd
   ·exact hk3
   ·exact hJ.kind d hd he
  ·intro d hd d' fx he iU;rcases cP.1 hd with rfl|hd
   ·rcases cP.1 fx with rfl|fx
    ·simp only at iU;rw[RT]at iU;cases iU
    ·rcases hh.held d' fx he with h1|⟨h1,_⟩
     ·exact⟨h1,λe=>hh.new d' fx e.symm⟩
     ·simp only at iU;rw[h1]at iU;cases iU
   ·rcases cP.1 fx with rfl|fx
    ·exfalso;have h1:=LP d hd;obtain⟨t,ht,hm⟩:=HD.1 iU;exact mP h1 ht (pE hm)
    ·exact hJ.HY d hd d' fx he iU
  ·intro d hd hl;rcases cP.1 hd with rfl|hd
   ·exact sz
   ·exact dH d hd hl
  ·intro d hd d' fx hl D6 x hx Fo;rcases cP.1 hd with rfl|hd
   ·rcases cP.1 fx with rfl|fx
    ·rfl
    ·rw[VZ _ (hh.new d' fx)]at Fo;obtain⟨ob,h1⟩:=hpx d' fx D6 x Fo;rw[hbx x hx]at h1;cases h1
   ·rcases cP.1 fx with rfl|fx
    ·rw[VZ _ (hh.new d hd)]at hx;obtain⟨ob,h1⟩:=hpx d hd hl x hx;rw[hbx x Fo]at h1;cases h1
    ·rw[VZ _ (hh.new d hd)]at hx;rw[VZ _ (hh.new d' fx)]at Fo;exact hJ.inj d hd d' fx hl D6 x hx Fo
 have KU:∀u,(∀t∈o.looksAt ops,ch (dw R o.dst u) t=ch R t):=λu t ht=>iB λe=>mP RT e ht
 unfold gV at hs;split at hs
 ·rename_i hw;split at hs
  ·rename_i v W1 nu;injection hs with hs;injection hs with zB oS;subst zB;subst oS;obtain⟨ha,hwa⟩:=sG (KU v);by_cases S2:fB o<=1
   ·obtain⟨Yu,hk⟩:=qx S2 nu;subst Yu;refine⟨λk=>if k=i then none else bd k,build _ v rfl hJ.uQ hJ.ext (.refl _) (λk hk=>by simp[hk]) (.inr (.inl ⟨by rw[hwa];exact hw,by simp,S2,v,hk _ _ ha (.inr (.refl _)),λt ht=>qJ ht⟩)) (λx hx=>by simp at hx)⟩
   ·have Ei:fB o=2:=by omega
    obtain⟨obj,mk,lT,rfl,rfl,hl⟩:=Lk Ei nu;have aep:W0.get W.next=none:=by
     cases hq:W0.get W.next with
     |none=>rfl
     |some ob=>
      cases hq2:σ0 W.next with
      |none=>rw[(hJ.ext.ghost _ _ hq hq2).1]at EU;cases EU
      |some g=>have:=(hJ.uQ.lH _ _ (hJ.ext.sub _ _ hq2)).1;omega
    refine⟨λk=>if k=i then some W.next else bd k,build _ _ rfl (hJ.uQ.ghost obj) (hJ.ext.Ko EU obj) (.add EU obj) (λk hk=>by simp[hk])
     (.inr (.inr ⟨by rw[hwa];exact hw,obj,mk,W.next,hl.agree ha,λt ht=>qJ ht,AW.bf _ _,aep,hJ.uQ.fresh,by simp,lT⟩)) (λx hx=>by simp at hx;subst hx;exact EU)⟩
  ·cases hs
 ·rename_i hw;injection hs with hs;injection hs with zB oS;subst zB;subst oS;obtain⟨ha,hwa⟩:=sG (KU ai);refine⟨λk=>if k=i then none else bd k,build _ ai rfl hJ.uQ hJ.ext (.refl _) (λk hk=>by simp[hk]) (.inl ⟨by rw[hwa];simpa using hw,by simp,λt ht=>qJ ht⟩) (λx hx=>by simp at hx)⟩
end
end
section
variable [aj]
def cy{l:Array Bool}{i:Nat}(h:i<l.size)(d:Bool):(l.setIfInBounds i true).getD i d=true:=by simp[h]
def aO{l:Array Bool}{i j:Nat}(h:i≠j)(d:Bool):(l.setIfInBounds i true).getD j d=l.getD j d:=by simp[xX h]
def Ck{l:Array Bool}{i:Nat}(h:l.getD i false=true):l.getD i true=true/\i<l.size:=by
 by_cases hi:i<l.size
 ·simp[hi]at h|-;exact h
 ·simp[hi]at h
def DE{ops:Array am}{nt:Nat}{ng:List Nat}(gJ:∀(i:Nat) (o:am),ops[i]? =some o->iH nt ng o=true){i:Nat}{o:am}(ho:ops[i]? =some o){t:Tmp}(ht:t∈o.looksAt ops):t<nt:=by
 unfold Oper.looksAt at ht;rcases mC.1 ht with h|h
 ·obtain⟨x,hx,e⟩:=List.mem_filterMap.1 h;have:=gJ i o ho;simp only[iH,bm,bV]at this;have h2:=this.1 x hx;cases x with
  |tmp u=>simp only[fb]at e;subst e;simpa[kG,gO]using h2
  |_=>cases e
 ·split at h
  ·rename_i g b hg;cases hq:(ops[g]?).bind (·.dst)with
   |none=>rw[hq]at h;simp at h
   |some u=>
    rw[hq]at h;simp at h;subst h;cases hg:ops[g]? with
    |none=>rw[hg]at hq;cases hq
    |some og=>rw[hg]at hq;simp only[bl]at hq;have:=gJ g og hg;simp only[iH,hq,bm]at this;simpa[gO]using this.2
  ·simp at h
def ot{ops:Array am}{nt:Nat}{ng:List Nat}{σ:cm}{R:aj.Fr}{a:aQ}(hG:qM σ ng){o:am}(gJ:iH nt ng o=true)
 (h:∀t∈o.looksAt ops,VR σ (ch R t) (a.tmps.getD t ai)):∀x∈o.op.operands,VR σ (aw R x) (a.eval x):=by
 intro x hx;simp only[iH,bm,bV]at gJ;have hk:=gJ.1 x (by simpa using hx);cases x with
 |tmp t=>exact h t (DU hx)
 |const v=>exact fX hk
 |global g=>obtain⟨e,he⟩:=hG g (oC.1 hk);have:=VR.ptr (σ:=σ) ⟨g,0,none⟩ _ he rfl;simpa[aw,Act.eval]using this
 |func f=>exact .func _ _ _ _ _ _ (.func f) rfl (λi v v' h=>by simp at h) rfl (λi v v' h=>by simp at h)
def NN{o:am}(h:fB o<3):∀c,o.op≠ .defer c:=λc e=>by unfold fB at h;rw[e]at h;simp at h
section
variable {P:ag} {call:Callee} {ops:Array am} {A:List Nat} {nt:Nat} {ng:List Nat} {σ0:cm} {W0:AW} {w0:ap} {ds:List cH}
def J.anc{pre:List yP}{listed:Array Bool}{bd:Nat->Option Nat}{σ:cm}{R:aj.Fr}{W:AW}{a:aQ}{w:ap}
 (hJ:J P call ops A nt ng σ0 W0 w0 ds pre listed bd σ R W a w)(hA:∀(i:Nat) (o:am),ops[i]? =some o->A.getD i 0=pZ A o)
 {i:Nat}{o:am}(ho:ops[i]? =some o)(hr:∀e∈o.after,Region.binds .any e=true->listed.getD e.on false=true){j:Nat}(hj:Nat.testBit (A.getD i 0) j=true):
 listed.getD j true=true:=by
 rw[hA i o ho]at hj;obtain⟨e,he,hb,h|h⟩:=NR hj
 ·rw[h];exact(Ck (hr e he hb)).1
 ·have:=Ck (hr e he hb);exact hJ.down e.on j (by rw[<-hJ.rh];exact this.2) this.1 h
def J.mark{pre:List yP}{listed:Array Bool}{bd:Nat->Option Nat}{σ σ':cm}{R:aj.Fr}{W:AW}{a:aQ}{w w':ap}
 (hJ:J P call ops A nt ng σ0 W0 w0 ds pre listed bd σ R W a w){d:yP}(hd:d∈pre)(v':ae)(hs:Sub σ σ')(hw:aX σ' W w'.heap)(he:dE σ0 W0 w0 σ' W w')
 (hv:∀t,d.o.dst=some t->VR σ' (ch R t) v')(hx:∀d'∈pre,d'.i≠d.i->listed.getD d'.i true=false->∀x,bd d'.i=some x->σ x=none->(∃o,W.get x=some o)->σ' x=none)
 (BM:∀j,Nat.testBit (A.getD d.i 0) j=true->listed.getD j true=true):
 J P call ops A nt ng σ0 W0 w0 ds pre (listed.setIfInBounds d.i true) bd σ' R W (a.put d.o.dst v') w':=by
 have hi:d.i<listed.size:=by rw[hJ.rh];exact(cQ.1 (hJ.op d hd)).1
 have qW:∀k,listed.getD k true=true->(listed.setIfInBounds d.i true).getD k true=true:=λk hk=>by
  by_cases e:d.i=k
  ·subst e;exact cy hi _
  ·rw[aO e];exact hk
 have wd:∀k,(listed.setIfInBounds d.i true).getD k true=false->k≠d.i/\listed.getD k true=false:=λk hk=>by
  by_cases e:d.i=k
  ·subst e;rw[cy hi]at hk;cases hk
  ·rw[aO e]at hk;exact⟨bL e,hk⟩
 refine⟨hw,hJ.Gq.mono hs,he,by rw[zm];exact hJ.Fp,by rw[kQ];exact hJ.OB,by simp[hJ.rh],?_,?_,hJ.op,?_,hJ.kind,?_,hJ.HY,?_,?_⟩
 ·intro t ht rj;by_cases Pv:d.o.dst=some t
  ·rw[lm Pv (by rw[hJ.Fp];exact ht)];exact hv t Pv
  ·rw[fj Pv];refine(hJ.JJ t ht λd' fx hl=>?_).mono hs;by_cases e:d'.i=d.i
   ·have h1:=hJ.op d' fx;have h2:=hJ.op d hd;rw[e,h2]at h1;injection h1 with h1;rw[<-h1];exact Pv
   ·exact rj d' fx (by rw[aO (bL e)];exact hl)
 ·intro k hk hl;by_cases e:d.i=k
  ·exact⟨d,hd,e⟩
  ·rw[aO e]at hl;exact hJ.sub k hk hl
 ·intro d' fx h;exact qW _ (hJ.early d' fx h)
 ·intro k j hk hl hb;by_cases e:d.i=k
  ·subst e;exact qW _ (BM j hb)
  ·rw[aO e]at hl;exact qW _ (hJ.down k j hk hl hb)
 ·intro d' fx hl;obtain⟨h1,h2⟩:=wd _ hl;rcases hJ.jF d' fx h2 with k|k|⟨k1,obj,mk,x,k2,k3,k4,k5,k6,k7⟩
  ·exact .inl k
  ·exact .inr (.inl k)
  ·exact .inr (.inr ⟨k1,obj,mk,x,k2,k3,k4,k5,hx d' fx h1 h2 x k7.1 k6 ⟨_,k4⟩,k7⟩)
 ·intro d1 h1 d2 h2 l1 l2;exact hJ.inj d1 h1 d2 h2 (wd _ l1).2 (wd _ l2).2
def J.looks{pre:List yP}{listed:Array Bool}{bd:Nat->Option Nat}{σ:cm}{R:aj.Fr}{W:AW}{a:aQ}{w:ap}
 (hJ:J P call ops A nt ng σ0 W0 w0 ds pre listed bd σ R W a w)(gJ:∀(i:Nat) (o:am),ops[i]? =some o->iH nt ng o=true){i:Nat}{o:am}(ho:ops[i]? =some o)
 (hp:∀d∈pre,listed.getD d.i true=false->EW d.o.dst (o.looksAt ops)=false):∀t∈o.looksAt ops,VR σ (ch R t) (a.tmps.getD t ai):=
 λt ht=>hJ.JJ t (DE gJ ho ht) λd hd hl e=>mP (hp d hd hl) e ht
def J.oi{pre:List yP}{listed:Array Bool}{bd:Nat->Option Nat}{σ:cm}{R:aj.Fr}{W:AW}{a:aQ}{w:ap}
 (hJ:J P call ops A nt ng σ0 W0 w0 ds pre listed bd σ R W a w){d:yP}(hd:d∈pre)(hl:listed.getD d.i true=false):d.early=true:=by
 cases he:d.early with
 |true=>rfl
 |false=>rw[hJ.early d hd he]at hl;cases hl
def J.ZC(hc:bB P ng call)(gJ:∀(i:Nat) (o:am),ops[i]? =some o->iH nt ng o=true)(hA:∀(i:Nat) (o:am),ops[i]? =some o->A.getD i 0=pZ A o)
 {pre:List yP}{listed:Array Bool}{bd:Nat->Option Nat}{σ:cm}{R:aj.Fr}{W:AW}{a:aQ}{w:ap}
 (hJ:J P call ops A nt ng σ0 W0 w0 ds pre listed bd σ R W a w){d:yP}(hd:d∈pre)(hl:listed.getD d.i true=false)
 (hr:∀e∈d.o.after,Region.binds .any e=true->listed.getD e.on false=true){ro:Option Nat}{K:aQ->ap->Prop}{Q:cj->aQ->ap->Prop}
 (hK:∀σ' a' w',J P call ops A nt ng σ0 W0 w0 ds pre (listed.setIfInBounds d.i true) bd σ' R W a' w'->K a' w'):wpOpIn (FE ro) 0 P ops Q d.i K a w:=by
 have ho:=hJ.op d hd;have BM:∀j,Nat.testBit (A.getD d.i 0) j=true->listed.getD j true=true:=λj hj=>hJ.anc hA ho hr hj
 have vA:=hJ.looks gJ ho (λd' fx D6=>by
  cases hq:EW d'.o.dst (d.o.looksAt ops)with
  |false=>rfl
  |true=>have:=BM _ (hJ.HY d hd d' fx (hJ.oi fx D6) hq).1;rw[D6]at this;cases this);have hρ:=ot hJ.Gq (gJ _ _ ho) vA;have Yp:=vh vA;have hk3:=hJ.kind d hd (hJ.oi hd hl);have VM:=NN hk3;unfold wpOpIn;rw[ho];simp only[Yp];rcases hJ.jF d hd hl with⟨h1,h2,h3⟩|⟨h1,h2,h3,v,h4,h5⟩|⟨h1,obj,mk,x,h2,h3,h4,h5,h6,h7⟩
 ·rw[h1,ay (by simp)];refine⟨λf _=>trivial,hK σ _ w (hJ.mark hd ai (.refl _) hJ.uQ hJ.ext (λt ht=>by rw[h3 t ht];exact .undef) (λ_ _ _ _ _ _ h _=>h) BM)⟩
 ·rw[h1,ax rfl];refine BW hc hJ.uQ hJ.Gq h4 hρ λσ' v' w' hv hw he=>?_
  exact hK σ' _ w' (hJ.mark hd v' he.sub hw (hJ.ext.trans he) (λt ht=>by rw[h5 t ht];exact hv) (λd' _ _ _ x _ h6 ⟨ob,hx⟩=>(he.ghost _ _ hx h6).2) BM)
 ·rw[h1,ax rfl];obtain⟨v',xo,e,r1,r2,r3⟩:=h2 σ a.eval w x hρ h6;refine⟨λf _=>trivial,?_⟩;rw[Oper.semAt_eq _ _ _ VM,r1];refine hK (bu σ x ⟨w.heap.size,0,e⟩) _ _ (hJ.mark hd v' (cA h6) (hJ.uQ.bind h4 h6 r3) (hJ.ext.bind h6 h5 r3 h7.2) (λt ht=>by rw[h3 t ht];exact r2) ?_ BM);intro d' fx dQ D6 y hy hσ _;have:y≠x:=λe=>by subst e;exact dQ (hJ.inj d' fx d hd D6 hl y hy h7.1)
  unfold bu;rw[ay this];exact hσ
def J.force(hc:bB P ng call)(gJ:∀(i:Nat) (o:am),ops[i]? =some o->iH nt ng o=true)(hA:∀(i:Nat) (o:am),ops[i]? =some o->A.getD i 0=pZ A o)
 {pre:List yP}{listed:Array Bool}{bd:Nat->Option Nat}{σ:cm}{R R':aj.Fr}{W W':AW}{a:aQ}{w:ap}{i:Nat}{re:List Nat}{gn:List (Nat×List Nat)}{o:am}
 (hJ:J P call ops A nt ng σ0 W0 w0 ds pre listed bd σ R W a w)(hh:Ss ops A pre i re gn o false)(hs:gV P call ops o R W=some (R',W'))(Fb:re.all (mh P call ops R' W')=true)
 (hr:∀e∈o.after,Region.binds .any e=true->listed.getD e.on false=true){ro:Option Nat}{K:aQ->ap->Prop}{Q:cj->aQ->ap->Prop}
 (hK:∀σ' a' w',J P call ops A nt ng σ0 W0 w0 ds (⟨i,o,false⟩::pre) (listed.setIfInBounds i true) bd σ' R' W' a' w'->K a' w'):wpOpIn (FE ro) 0 P ops Q i K a w:=by
 have ho:=hh.op;have hi:i<listed.size:=by rw[hJ.rh];exact(cQ.1 ho).1
 have BM:∀j,Nat.testBit (A.getD i 0) j=true->listed.getD j true=true:=λj hj=>hJ.anc hA ho hr hj
 have sz:∀d∈pre,listed.getD d.i true=false->EW d.o.dst (o.looksAt ops)=false/\EW o.dst (gN ops d.o)=false/\(fB d.o=0\/fB d.o=2\/d.i∈re):=by
  intro d hd hl;rcases hh.held d hd (hJ.oi hd hl)with h1|⟨h1,h2⟩
  ·rw[BM _ h1]at hl;cases hl
  ·rcases h2 with h2|⟨h2,h3⟩
   ·cases h2
   ·exact⟨h1,h2,h3⟩
 have vA:=hJ.looks gJ ho (λd hd hl=>(sz d hd hl).1);have hρ:=ot hJ.Gq (gJ _ _ ho) vA;have Yp:=vh vA;have wd:∀k,(listed.setIfInBounds i true).getD k true=false->k≠i/\listed.getD k true=false:=λk hk=>by
  by_cases e:i=k
  ·subst e;rw[cy hi]at hk;cases hk
  ·rw[aO e]at hk;exact⟨bL e,hk⟩
 have qW:∀k,listed.getD k true=true->(listed.setIfInBounds i true).getD k true=true:=λk hk=>by
  by_cases e:i=k
  ·subst e;exact cy hi _
  ·rw[aO e];exact hk
 have build:∀(σ':cm) (u u':ae) (w':ap),R'=dw R o.dst u->VR σ' u u'->aX σ' W' w'.heap->dE σ W w σ' W' w'->
  J P call ops A nt ng σ0 W0 w0 ds (⟨i,o,false⟩::pre) (listed.setIfInBounds i true) bd σ' R' W' (a.put o.dst u') w':=by
  intro σ' u u' w' V7 hu hw he;refine⟨hw,hJ.Gq.mono he.sub,hJ.ext.trans he,by rw[zm];exact hJ.Fp,by rw[kQ];exact hJ.OB,by simp[hJ.rh],?_,?_,?_,?_,?_,?_,?_,?_,?_⟩
  ·intro t ht rj;by_cases Pv:o.dst=some t
   ·rw[lm Pv (by rw[hJ.Fp];exact ht),V7,qJ Pv];exact hu
   ·rw[fj Pv,V7,iB Pv];refine(hJ.JJ t ht λd' fx hl=>?_).mono he.sub;exact rj d' (by simp[fx]) (by rw[aO (bL (hh.new d' fx))];exact hl)
  ·intro k hk hl;by_cases e:i=k
   ·exact⟨⟨i,o,false⟩,by simp,e⟩
   ·rw[aO e]at hl;obtain⟨d,hd,e⟩:=hJ.sub k hk hl;exact⟨d,by simp[hd],e⟩
  ·intro d hd;rcases cP.1 hd with rfl|hd
   ·exact ho
   ·exact hJ.op d hd
  ·intro d hd h;rcases cP.1 hd with rfl|hd
   ·exact cy hi _
   ·exact qW _ (hJ.early d hd h)
  ·intro d hd h;rcases cP.1 hd with rfl|hd
   ·cases h
   ·exact hJ.kind d hd h
  ·intro k j hk hl hb;by_cases e:i=k
   ·subst e;exact qW _ (BM j hb)
   ·rw[aO e]at hl;exact qW _ (hJ.down k j hk hl hb)
  ·intro d hd d' fx hde iU;rcases cP.1 fx with rfl|fx
   ·cases hde
   ·rcases cP.1 hd with rfl|hd
    ·rcases hh.held d' fx hde with h1|⟨h1,_⟩
     ·exact⟨h1,λe=>hh.new d' fx e.symm⟩
     ·simp only at iU;rw[h1]at iU;cases iU
    ·exact hJ.HY d hd d' fx hde iU
  ·intro d hd hl;rcases cP.1 hd with rfl|hd
   ·rw[cy hi]at hl;cases hl
   ·have D6:=(wd _ hl).2;obtain⟨g1,g2,g3⟩:=sz d hd D6;have vi:∀t∈gN ops d.o,ch R' t=ch R t:=λt ht=>by rw[V7];exact iB λe=>mP g2 e ht
    obtain⟨ha,hwd⟩:=sG (ops:=ops) (o:=d.o) λt ht=>vi t (pE ht)
    rcases hJ.jF d hd D6 with⟨h1,h2,h3⟩|⟨h1,h2,h3,v,h4,h5⟩|⟨h1,obj,mk,x,h2,h3,h4,h5,h6,h7⟩
    ·exact .inl ⟨by rw[hwd];exact h1,h2,λt ht=>by rw[vi t (kE ht)];exact h3 t ht⟩
    ·refine .inr (.inl ⟨by rw[hwd];exact h1,h2,h3,?_⟩);rcases g3 with g3|g3|g3
     ·exact⟨v,(qx h3 h4).2 R' W' ha (.inl g3),λt ht=>by rw[vi t (kE ht)];exact h5 t ht⟩
     ·omega
     ·have KU:=bV.1 Fb d.i g3;unfold mh at KU;rw[hJ.op d hd]at KU;simp only[hwd,h1,bc]at KU;split at KU
      ·rename_i u W2 nu;have:=(qx h3 nu).1;subst this;refine⟨u,nu,λt ht=>?_⟩;rw[ht]at KU;exact(Lu KU).symm
      ·cases KU
    ·obtain⟨k1,k2⟩:=he.ghost _ _ h4 h6;exact .inr (.inr ⟨by rw[hwd];exact h1,obj,mk,x,h2.agree ha,λt ht=>by rw[vi t (kE ht)];exact h3 t ht,k1,h5,k2,h7⟩)
  ·intro d1 h1 d2 h2 l1 l2 x Rn VX;rcases cP.1 h1 with rfl|h1
   ·rw[cy hi]at l1;cases l1
   ·rcases cP.1 h2 with rfl|h2
    ·rw[cy hi]at l2;cases l2
    ·exact hJ.inj d1 h1 d2 h2 (wd _ l1).2 (wd _ l2).2 x Rn VX
 unfold wpOpIn;rw[ho];simp only[Yp];unfold gV at hs;split at hs
 ·rename_i hw;rw[ax hw];split at hs
  ·rename_i v W1 nu;injection hs with hs;injection hs with zB oS;subst zB;subst oS;exact BW hc hJ.uQ hJ.Gq nu hρ λσ' v' w' hv hw' he=>hK σ' _ w' (build σ' v v' w' rfl hv hw' he)
  ·cases hs
 ·rename_i hw;rw[ay hw];injection hs with hs;injection hs with zB oS;subst zB;subst oS;exact⟨λf _=>trivial,hK σ _ w (build σ ai ai w rfl .undef hJ.uQ (.refl _ _ _))⟩
end
end
section
variable [aj]
def Rc(n:Nat)(l:Array Bool):Nat:=(List.range n).countP λi=> !l.getD i true
def AU{α:Type}{p q:α->Bool}{x:α}:∀{l:List α},x∈l->p x=true->q x=false->(∀y,q y=true->p y=true)->l.countP q<l.countP p:=by
 intro l;induction l with
 |nil=>intro h;cases h
 |cons y l ih=>
  intro h hp hq hi;have bk:l.countP q<=l.countP p:=List.countP_mono_left λz _ hz=>hi z hz
  rcases cP.1 h with rfl|h
  ·rw[List.countP_cons,List.countP_cons,hp,hq];simp;omega
  ·have:=ih h hp hq hi;rw[List.countP_cons,List.countP_cons];cases hqy:q y with
   |true=>rw[hi y hqy];simp;omega
   |false=>cases p y<;>simp<;>omega
def w4{n i:Nat}{l:Array Bool}(hi:i<n)(hs:i<l.size)(h:l.getD i true=false):Rc n (l.setIfInBounds i true)<Rc n l:=by
 refine AU (x:=i) (by simpa using hi) (by rw[h];rfl) (by rw[cy hs];rfl) λy hy=>?_
 by_cases e:i=y
 ·subst e;rw[cy hs]at hy;cases hy
 ·rw[aO e]at hy;exact hy
def ET{n:Nat}{l:Array Bool}(h:Rc n l=0){i:Nat}(hi:i<n):l.getD i true=true:=by unfold Rc at h;rw[List.countP_eq_zero]at h;have:=h i (by simpa using hi);simpa using this
section
variable {P:ag} {call:Callee} {ops:Array am} {A:List Nat} {nt:Nat} {ng:List Nat} {σ0:cm} {W0:AW} {w0:ap} {ds:List cH}
inductive vT (ops:Array am):List yP->Prop where
 |nil:vT ops []
 |cons (d:yP) (pre:List yP) (h:vT ops pre) (ht:∀e∈d.o.after,Region.binds .any e=true->∃d'∈pre,d'.i=e.on) (ho:ops[d.i]? =some d.o):vT ops (d::pre)
def vT.ready{listed:Array Bool}(mK:listed.size=ops.size):∀{pre:List yP},vT ops pre->(∃d∈pre,listed.getD d.i true=false)->Region.ready .any ops listed≠[]:=by
 intro pre h;induction h with
 |nil=>rintro⟨d,hd,_⟩;cases hd
 |cons d pre h ht ho ih=>
  rintro⟨d',fx,hl⟩ hr;by_cases zC:∃d∈pre,listed.getD d.i true=false
  ·exact ih zC hr
  ·rcases cP.1 fx with rfl|fx
   ·have:d'.i∈Region.ready .any ops listed:=j9.2 ⟨hl,d'.o,ho,λe he hb=>by
     obtain⟨d2,h2,e2⟩:=ht e he hb;have qN:listed.getD d2.i true=true:=by
      cases hq:listed.getD d2.i true with
      |true=>rfl
      |false=>exact absurd ⟨d2,h2,hq⟩ zC
     have hir:d2.i<ops.size:=by
      have:∀{pre},vT ops pre->∀d∈pre,d.i<ops.size:=by
       intro pre h;induction h with
       |nil=>intro d hd;cases hd
       |cons d pre h ht ho ih=>
        intro d' fx;rcases cP.1 fx with rfl|fx
        ·exact(cQ.1 ho).1
        ·exact ih d' fx
      exact this h d2 h2
     rw[<-e2];simp only[pU]at qN|-;rw[ft (by omega)]at qN|-;exact qN⟩;rw[hr]at this;cases this
   ·exact zC ⟨d',fx,hl⟩
def Ld(hc:bB P ng call)(gJ:∀(i:Nat) (o:am),ops[i]? =some o->iH nt ng o=true)(hA:∀(i:Nat) (o:am),ops[i]? =some o->A.getD i 0=pZ A o)
 {ro:Option Nat}{Q:cj->aQ->ap->Prop}{Rf:aj.Fr}{Wf:AW}
 (hQ:∀σ' a' w',dn nt σ' Rf a'.tmps->a'.defers=ds->aX σ' Wf w'.heap->dE σ0 W0 w0 σ' Wf w'->Q .normal a' w'):
 ∀(rW:Nat) (Vw:List (Nat×List Nat)) (pre:List yP) (listed:Array Bool) (bd:Nat->Option Nat) (σ:cm) (R:aj.Fr) (W:AW) (a:aQ) (w:ap),
  J P call ops A nt ng σ0 W0 w0 ds pre listed bd σ R W a w->vT ops pre->uL ops A pre Vw=true->gI P call ops Vw R W=some (Rf,Wf)->
  (∀i,i<ops.size->(∃d∈pre,d.i=i)\/∃k∈Vw,k.1=i)->Rc ops.size listed<=rW->wpAnyIn (FE ro) 0 P .any ops Q rW listed a w:=by
 intro rW;induction rW with
 |zero=>
  intro Vw pre listed bd σ R W a w hJ oX GJ np CD hun;have oP:∀i,i<ops.size->listed.getD i true=true:=λi hi=>ET (by omega) hi
  have Sb:Region.ready .any ops listed=[]:=by rw[List.eq_nil_iff_forall_not_mem];intro i hi;obtain⟨h1,o,ho,_⟩:=j9.1 hi;rw[oP i (cQ.1 ho).1]at h1;cases h1
  refine⟨Sb,?_⟩;cases Vw with
  |nil=>injection np with np;injection np with h1 h2;subst h1;subst h2;refine hQ σ a w ⟨hJ.Fp,λt ht=>hJ.JJ t ht λd hd hl=>?_⟩ hJ.OB hJ.uQ hJ.ext;rw[oP d.i (cQ.1 (hJ.op d hd)).1]at hl;cases hl
  |cons k gn=>obtain⟨i,re⟩:=k;obtain⟨o,e,hh⟩:=vU GJ;have hi:=(cQ.1 hh.op).1;obtain⟨d,hd,e⟩:=hJ.sub i hi (oP i hi);exact absurd e (hh.new d hd)
 |succ rW ih=>
  intro Vw;induction Vw with
  |nil=>
   intro pre listed bd σ R W a w hJ oX GJ np CD hun;refine⟨λhr=>?_,λi hi=>?_⟩
   ·have rj:∀d∈pre,listed.getD d.i true=true:=λd hd=>by
     cases hq:listed.getD d.i true with
     |true=>rfl
     |false=>exact absurd hr (oX.ready hJ.rh ⟨d,hd,hq⟩)
    injection np with np;injection np with h1 h2;subst h1;subst h2;exact hQ σ a w ⟨hJ.Fp,λt ht=>hJ.JJ t ht λd hd hl=>by rw[rj d hd]at hl;cases hl⟩ hJ.OB hJ.uQ hJ.ext
   ·obtain⟨h1,o,ho,h2⟩:=j9.1 hi;have fy:=(cQ.1 ho).1;rcases CD i fy with⟨d,hd,e⟩|⟨k,hk,_⟩
    ·subst e;have Hv:=hJ.op d hd;rw[ho]at Hv;injection Hv with Hv;subst Hv;refine hJ.ZC hc gJ hA hd h1 h2 λσ' a' w' SY=>?_
     exact ih [] pre _ bd σ' R W a' w' SY oX GJ np CD (by have:=w4 fy (by rw[hJ.rh];exact fy) h1;omega)
    ·cases hk
  |cons k gn ihs=>
   intro pre listed bd σ R W a w hJ oX GJ np CD hun;obtain⟨i,re⟩:=k;obtain⟨o,e,hh⟩:=vU GJ;have hi:=(cQ.1 hh.op).1;simp only[gI,hh.op]at np;split at np;case h_2=>cases np
   rename_i R' W' hs;split at np;case isFalse=>cases np
   rename_i Fb;have RV:∀j,j<ops.size->(∃d∈(⟨i,o,e⟩::pre:List yP),d.i=j)\/∃k∈gn,k.1=j:=by
    intro j hj;rcases CD j hj with⟨d,hd,h1⟩|⟨k,hk,h1⟩
    ·exact .inl ⟨d,by simp[hd],h1⟩
    ·rcases cP.1 hk with rfl|hk
     ·exact .inl ⟨⟨i,o,e⟩,by simp,h1⟩
     ·exact .inr ⟨k,hk,h1⟩
   have Q5:vT ops (⟨i,o,e⟩::pre):=.cons _ _ oX hh.top hh.op;cases e with
   |true=>obtain⟨J8,SY⟩:=hJ.advance hh hs;exact ihs _ listed J8 σ R' W' a w SY Q5 hh.go np RV hun
   |false=>
    refine⟨λhr=>?_,λj hj=>?_⟩
    ·exfalso;by_cases zC:∃d∈pre,listed.getD d.i true=false
     ·exact oX.ready hJ.rh zC hr
     ·have hl:listed.getD i true=false:=by
       cases hq:listed.getD i true with
       |false=>rfl
       |true=>obtain⟨d,hd,e⟩:=hJ.sub i hi hq;exact absurd e (hh.new d hd)
      have:i∈Region.ready .any ops listed:=j9.2 ⟨hl,o,hh.op,λed he hb=>by
       obtain⟨d2,h2,e2⟩:=hh.top ed he hb;have qN:listed.getD d2.i true=true:=by
        cases hq:listed.getD d2.i true with
        |true=>rfl
        |false=>exact absurd ⟨d2,h2,hq⟩ zC
       have hir:d2.i<listed.size:=by rw[hJ.rh];exact(cQ.1 (hJ.op d2 h2)).1
       rw[<-e2];simp only[pU]at qN|-;rw[ft hir]at qN|-;exact qN⟩;rw[hr]at this;cases this
    ·obtain⟨h1,oj,ho,h2⟩:=j9.1 hj;have fy:=(cQ.1 ho).1;rcases CD j fy with⟨d,hd,e⟩|⟨k,hk,e⟩
     ·subst e;have Hv:=hJ.op d hd;rw[ho]at Hv;injection Hv with Hv;subst Hv;refine hJ.ZC hc gJ hA hd h1 h2 λσ' a' w' SY=>?_
      refine ih ((i,re)::gn) pre _ bd σ' R W a' w' SY oX GJ ?_ CD (by have:=w4 fy (by rw[hJ.rh];exact fy) h1;omega);simp only[gI,hh.op,hs,Fb,bc];exact np
     ·rcases cP.1 hk with rfl|hk
      ·simp only at e;subst e;have Hv:=hh.op;rw[ho]at Hv;injection Hv with Hv;subst Hv;refine hJ.force hc gJ hA hh hs Fb h2 λσ' a' w' SY=>?_
       exact ih gn _ _ bd σ' R' W' a' w' SY Q5 hh.go np RV (by have:=w4 fy (by rw[hJ.rh];exact fy) h1;omega)
      ·exfalso;rcases hh.last with h|h
       ·cases h
       ·obtain⟨ok,Dr,ed,Qe,hb,rj⟩:=h k hk;rw[e,ho]at Dr;injection Dr with Dr;subst Dr;have h3:=Ck (h2 ed Qe hb);obtain⟨d,hd,e⟩:=hJ.sub ed.on (by rw[<-hJ.rh];exact h3.2) h3.1;exact rj d hd e
def EY{P:ag}(hm:P.follows .mixedOrders=true){ng:List Nat}{nt:Nat}{call:Callee}(hc:bB P ng call){id:Nat}{ops:Array am}{pl:List (Nat×List Nat)}
 (gJ:ops.toList.all (iH nt ng)=true)(hp:A0 ops pl=true){σ:cm}{R Rf:aj.Fr}{W Wf:AW}{a:aQ}{w:ap}(hW:aX σ W w.heap)(hG:qM σ ng)(hR:dn nt σ R a.tmps)
 (h:gI P call ops pl R W=some (Rf,Wf)){ro:Option Nat}{Q:cj->aQ->ap->Prop}
 (hQ:∀σ' a' w',dn nt σ' Rf a'.tmps->a'.defers=a.defers->aX σ' Wf w'.heap->dE σ W w σ' Wf w'->Q .normal a' w'):
 (Code.region id ops true).wpIn (FE ro) 0 P Q a w:=by
 refine wpIn_region_any hm ?_;unfold A0 at hp;simp only[bm,bV,qh]at hp;obtain⟨h1,h2⟩:=hp;have ko:∀i o,ops[i]? =some o->(LY ops.toList []).getD i 0=pZ (LY ops.toList []) o/\∃k∈pl,k.1=i:=by intro i o ho;have:=h1 i (cQ.1 ho).1;rw[ho]at this;simp only[bm,dp,nZ]at this;exact this.1
 have Dr:∀(i:Nat) (o:am),ops[i]? =some o->iH nt ng o=true:=λi o ho=>bV.1 gJ o (by have:=Array.mem_of_getElem? ho;simpa using this)
 have mK:∀i,i<ops.size->(Array.replicate ops.size false).getD i true=false:=λi hi=>by simp[hi]
 have CD:∀i,i<ops.size->(∃d∈([]:List yP),d.i=i)\/∃k∈pl,k.1=i:=λi hi=> .inr (ko i ops[i] (ft hi)).2
 refine Ld (A:=LY ops.toList []) (W0:=W) (σ0:=σ) (w0:=w) (ds:=a.defers) hc Dr (λi o ho=>(ko i o ho).1) hQ ops.size pl [] _ (λ_=>none) σ R W a _ ?_ .nil h2 h CD ?_
 ·refine⟨hW,hG,.drawn _ _ _ _,hR.1,rfl,by simp,λt ht _=>hR.2 t ht,?_,?_,?_,?_,?_,?_,?_,?_⟩
  ·intro i hi hl;rw[mK i hi]at hl;cases hl
  ·intro d hd;cases hd
  ·intro d hd;cases hd
  ·intro d hd;cases hd
  ·intro i j hi hl;rw[mK i hi]at hl;cases hl
  ·intro d hd;cases hd
  ·intro d hd;cases hd
  ·intro d hd;cases hd
 ·unfold Rc;have:=List.countP_le_length (p:=λi=> !(Array.replicate ops.size false).getD i true) (l:=List.range ops.size);simpa using this
end
end
end Go.Eng
