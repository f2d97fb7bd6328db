/- A part. -/
import Derived.Test.YtnigceddndemkaaGreatDoorOpnA
import Derived.Sort.Grow
import Derived.LaidEql
import Derived.Shelf.SlSortCmp.Whole1
import Derived.Shelf.SlSortCmp.WholeK
import Derived.Shelf.SlSortCmp.NoneTotal
set_option linter.unusedVariables false
set_option linter.unusedSimpArgs false
set_option linter.unusedSectionVars false
namespace Go.Eng
open Go Go.RowKit Go.Sort Go.Proofs
variable [PlanTab]
def Dm(W:AW)(b0 x:Nat):Prop:=x≠b0/\∃cs,W.get x=some (.cells cs)\/W.get x=some (.ro cs)
noncomputable def sD(D:Nat->Prop)(σ:bQ):bQ:=λb=>open Classical in if D b then σ b else none
def nK(D:Nat->Prop)(v:Value):Prop:=∀σ v',VR σ v v'->VR (sD D σ) v v'
noncomputable def OW(W:AW)(b0 x:Nat):Option AObj:=if x=b0 then none else match W.get x with
 |some (.cells cs)=>some (.ro (cs.takeWhile λv=>open Classical in decide (nK (Dm W b0) v)))
 |some (.ro cs)=>some (.ro (cs.takeWhile λv=>open Classical in decide (nK (Dm W b0) v)))
 |_=>none
noncomputable def BR(W:AW)(b0:Nat):List Nat->AW
 |[]=>⟨.lf,W.next⟩
 |x::l=>match OW W b0 x with
  |some o=>(BR W b0 l).put x o
  |none=>(BR W b0 l).kill x
noncomputable def OO(W:AW)(b0:Nat):AW:=BR W b0 (List.range W.next)
theorem xP(W:AW)(b0:Nat):∀l,(BR W b0 l).next=W.next
 |[]=>rfl
 |x::l=>by
  unfold BR;split
  ·rw[AW.put_next,xP W b0 l]
  ·rw[AW.kill_next,xP W b0 l]
theorem NR(W:AW)(b0 x:Nat):∀l,(BR W b0 l).get x=if x∈l then OW W b0 x else none
 |[]=>by simp only[List.not_mem_nil,if_false];exact T.get_lf _
 |y::l=>by
  have ih:=NR W b0 x l;unfold BR;by_cases e:y=x
  ·subst e;rw[if_pos (List.mem_cons_self ..)];split
   ·rename_i o h;rw[AW.get_put,h]
   ·rename_i h;rw[AW.get_kill,h]
  ·have:(x∈y::l)<->x∈l:=by simp[Ne.symm e]
   simp only[this];split
   ·rw[AW.get_put_ne _ _ e,ih]
   ·rw[AW.get_kill_ne _ e,ih]
theorem WO(W:AW)(b0:Nat):(OO W b0).next=W.next:=xP W b0 _
theorem JO(W:AW)(b0 x:Nat):(OO W b0).get x=if x<W.next then OW W b0 x else none:=by unfold OO;rw[NR];simp only[List.mem_range]
theorem YH{W:AW}{b0 x:Nat}{o:AObj}(h:(OO W b0).get x=some o):∃cs,o=.ro cs/\Dm W b0 x/\(∀v∈cs,nK (Dm W b0) v)/\∃all,(W.get x=some (.cells all)\/W.get x=some (.ro all))/\cs<+:all:=by
 rw[JO]at h;split at h;case isFalse=>cases h
 unfold OW at h;split at h
 ·cases h
 rename_i hne;split at h
 ·rename_i cs hc;injection h with h;subst h;refine⟨_,rfl,⟨hne,cs,.inl hc⟩,λv hv=>?_,cs,.inl hc,List.takeWhile_prefix _⟩;exact @of_decide_eq_true _ (Classical.propDecidable _) (List.all_eq_true.1 (List.all_takeWhile (l:=cs)) v hv)
 ·rename_i cs hc;injection h with h;subst h;refine⟨_,rfl,⟨hne,cs,.inr hc⟩,λv hv=>?_,cs,.inr hc,List.takeWhile_prefix _⟩;exact @of_decide_eq_true _ (Classical.propDecidable _) (List.all_eq_true.1 (List.all_takeWhile (l:=cs)) v hv)
 ·cases h
theorem RX{W:AW}{b0 x:Nat}{cs rest:List Value}(h:W.get x=some (.cells (cs++rest))\/W.get x=some (.ro (cs++rest)))(hx:x<W.next)(hne:x≠b0)(hv:∀v∈cs,nK (Dm W b0) v):
 ∃r,(OO W b0).get x=some (.ro (cs++r)):=by
 have key:∃r,(cs++rest).takeWhile (λv=>open Classical in decide (nK (Dm W b0) v))=cs++r:=by refine⟨rest.takeWhile _,List.takeWhile_append_of_pos λv h=> @decide_eq_true _ (Classical.propDecidable _) (hv v h)⟩
 obtain⟨r,hr⟩:=key;refine⟨r,?_⟩;rw[JO,if_pos hx];unfold OW;rw[if_neg hne];rcases h with h|h
 ·rw[h];simp only[hr]
 ·rw[h];simp only[hr]
theorem xU{D:Nat->Prop}{v:Value}(h:aX v=true):nK D v:=λσ v' hv=>by obtain rfl:=iE h hv;exact jK h
theorem FW{D:Nat->Prop}{a:Addr}(h:D a.block):nK D (.pointer (some a)):=λσ v' hv=>by
 cases hv with
 |ptr _ g hg hs=>exact .ptr a g (by unfold sD;rw[if_pos h];exact hg) hs
theorem UW{D:Nat->Prop}{a:Addr}{l c:Nat}(h:D a.block):nK D (.slice (some a) l c):=λσ v' hv=>by
 cases hv with
 |slice _ _ _ c' g hg hs hc=>exact .slice a l c c' g (by unfold sD;rw[if_pos h];exact hg) hs hc
 |sliceE _ a' _ g hg hc=>exact .sliceE a a' c g (by unfold sD;rw[if_pos h];exact hg) hc
theorem ZW{D:Nat->Prop}{l c:Nat}:nK D (.slice none l c):=λσ v' hv=>by cases hv;exact .snil _ _
theorem MW{D:Nat->Prop}{g:Nat}{fs cs:Array Value}(h1:∀v∈fs.toList,nK D v)(h2:∀v∈cs.toList,nK D v):nK D (.func (.func g) fs cs):=λσ v' hv=>by
 cases hv with
 |func _ fn' _ fs' _ cs' hf a1 a2 a3 a4=>
  cases hf;refine .func _ _ _ _ _ _ (.func g) a1 (λi v v' x y=>h1 v ?_ σ v' (a2 i v v' x y)) a3 (λi v v' x y=>h2 v ?_ σ v' (a4 i v v' x y))
  ·have:=Array.mem_of_getElem? x;simpa using this
  ·have:=Array.mem_of_getElem? x;simpa using this
theorem a6Y{σ:bQ}{W:AW}{w:World}(hW:WRel σ W w.heap){b:Nat}{cs:List Value}{sg:Seg}(hb:W.get b=some (.cells cs))(hg:σ b=some sg){h':Array Obj}(hsz:w.heap.size<=h'.size)
 (hother:∀B,B<w.heap.size->B≠sg.B->h'[B]? =w.heap[B]?){c c':Array Value}{t:TypeId}{fr:Nat×Nat}(hc:w.heap[sg.B]? =some (.cells c t fr))(hc':h'[sg.B]? =some (.cells c' t fr))
 (hout:∀i,i<sg.s\/sg.e<=i->c'[i]? =c[i]?):WRel (sD (Dm W b) σ) (OO W b) h'/\AllRo (sD (Dm W b) σ) (OO W b):=by
 have hcut:∀x g,sD (Dm W b) σ x=some g->Dm W b x/\σ x=some g:=λx g h=>by
  unfold sD at h;split at h
  ·rename_i hd;exact⟨hd,h⟩
  ·cases h
 refine⟨⟨λx hx=>?_,λx g h=>?_,λx o g h1 h2=>?_,λb1 b2 o1 o2 g1 g2 hne a1 a2 k1 k2 hr=>?_⟩,λx g h=>?_⟩
 ·rw[WO]at hx;rw[JO,if_neg (by omega)]
 ·obtain⟨_,h2⟩:=hcut x g h;rw[WO];exact⟨(hW.dom x g h2).1,Nat.lt_of_lt_of_le (hW.dom x g h2).2 hsz⟩
 ·obtain⟨hd,h3⟩:=hcut x g h2;obtain⟨rs,rfl,-,hin,all,hall,⟨tl,rfl⟩⟩:=YH h1;have hB:=(hW.dom x g h3).2;have key:∃cc tt ff,w.heap[g.B]? =some (.cells cc tt ff)/\g.s+rs.length<=g.e/\∀(i:Nat) (v:Value),rs[i]? =some v->∃v',cc[g.s+i]? =some v'/\VR σ v v':=by
   rcases hall with hall|hall
   ·obtain⟨cc,tt,ff,e1,e0,e2,e3,e4⟩:=hW.obj x _ g hall h3;refine⟨cc,tt,ff,e1,by rw[List.length_append]at e2;omega,λi v hv=>e4 i v ?_⟩;rw[List.getElem?_append_left (List.getElem?_eq_some_iff.1 hv).1];exact hv
   ·obtain⟨cc,tt,ff,e1,e2,e4⟩:=hW.obj x _ g hall h3;refine⟨cc,tt,ff,e1,by rw[List.length_append]at e2;omega,λi v hv=>e4 i v ?_⟩;rw[List.getElem?_append_left (List.getElem?_eq_some_iff.1 hv).1];exact hv
  obtain⟨cc,tt,ff,e1,e2,e4⟩:=key;by_cases hBB:g.B=sg.B
  ·rw[hBB,hc]at e1;injection e1 with e1;injection e1 with e1 e1' e1'';subst e1;subst e1';subst e1'';refine⟨c',t,fr,by rw[hBB];exact hc',e2,λi v hv=>?_⟩;obtain⟨v',f1,f2⟩:=e4 i v hv;have hi:i<rs.length:=(List.getElem?_eq_some_iff.1 hv).1;refine⟨v',?_,hin v (List.mem_of_getElem? hv) σ v' f2⟩;rw[hout _ ?_]
   ·exact f1
   ·have hdj:g.B≠sg.B\/g.e<=sg.s\/sg.e<=g.s:=by
     rcases hall with hall|hall
     ·exact hW.disj x b _ _ g sg hd.1 hall hb h3 hg rfl
     ·exact hW.disj x b _ _ g sg hd.1 hall hb h3 hg rfl
    rcases hdj with h|h|h
    ·exact absurd hBB h
    ·left;omega
    ·right;omega
  ·refine⟨cc,tt,ff,by rw[hother _ hB hBB];exact e1,e2,λi v hv=>?_⟩;obtain⟨v',f1,f2⟩:=e4 i v hv;exact⟨v',f1,hin v (List.mem_of_getElem? hv) σ v' f2⟩
 ·obtain⟨_,rfl,-⟩:=YH a1;obtain⟨_,rfl,-⟩:=YH a2;cases hr
 ·obtain⟨⟨hne,cs',hcs⟩,h3⟩:=hcut x g h;have hx:=(hW.dom x g h3).1;rw[JO,if_pos hx];unfold OW;rw[if_neg hne];rcases hcs with hcs|hcs<;>rw[hcs]<;>exact⟨_,rfl⟩
theorem KD{k:Nat}:∀(l:List (List Value)),(∀r∈l,r.length=k)->∀i t,i<l.length->t<k->l.flatten[i*k+t]? =(l[i]?).bind (·[t]?)
 |[],_,i,t,hi,_=>by simp at hi
 |r::l,h,0,t,_,ht=>by have hr:=h r (List.mem_cons_self ..);rw[List.flatten_cons,Nat.zero_mul,Nat.zero_add,List.getElem?_append_left (by omega)];rfl
 |r::l,h,i+1,t,hi,ht=>by
  have hr:=h r (List.mem_cons_self ..);rw[List.flatten_cons,List.getElem?_append_right (by rw[hr,Nat.add_mul];omega),hr];have e:(i+1)*k+t-k=i*k+t:=by rw[Nat.add_mul];omega
  rw[e,KD l (λx hx=>h x (List.mem_cons_of_mem _ hx)) i t (by simpa using hi) ht];rfl
theorem MU{k:Nat}:∀(l:List (List Value)),(∀r∈l,r.length=k)->l.flatten.length=l.length*k
 |[],_=>by simp
 |r::l,h=>by rw[List.flatten_cons,List.length_append,MU l λx hx=>h x (List.mem_cons_of_mem _ hx),h r (List.mem_cons_self ..),List.length_cons,Nat.add_mul];omega
theorem XW{k:Nat}:∀(a b:List (List Value)) (x y:List Value),(∀r∈a,r.length=k)->(∀r∈b,r.length=k)->a.length=b.length->a.flatten++x=b.flatten++y->a=b/\x=y
 |[],[],x,y,_,_,_,h=>⟨rfl,by simpa using h⟩
 |[],_::_,_,_,_,_,h,_=>by simp at h
 |_::_,[],_,_,_,_,h,_=>by simp at h
 |r::a,s::b,x,y,ha,hb,hl,h=>by rw[List.flatten_cons,List.flatten_cons,List.append_assoc,List.append_assoc]at h;obtain⟨h1,h2⟩:=List.append_inj h ((ha r (List.mem_cons_self ..)).trans (hb s (List.mem_cons_self ..)).symm);obtain⟨h3,h4⟩:=XW a b x y (λz hz=>ha z (List.mem_cons_of_mem _ hz)) (λz hz=>hb z (List.mem_cons_of_mem _ hz)) (by simpa using hl) h2;exact⟨by rw[h1,h3],h4⟩
def N9(n i:Nat):Nat:=min i (n-1)
theorem jH{n:Nat}(h:0<n)(i:Nat):N9 n i<n:=by unfold N9;omega
theorem JW{n i:Nat}(h:i<n):N9 n i=i:=by unfold N9;omega
def UH(n:Nat)(cf:Nat->Nat->Int)(i j:Nat):Int:=cf (N9 n i) (N9 n j)
def LX(rows:List (List Value))(cf:Nat->Nat->Int):List (List Value):=
 (pdq (ltOf (UH rows.length cf)) (Array.range rows.length) 0 rows.length (Lib.bitLen rows.length) true true).toList.map λi=>rows.getD i []
structure OrdN (n:Nat) (cf:Nat->Nat->Int):Prop where
 irrefl:∀i,i<n->¬cf i i<0
 trans:∀i j l,i<n->j<n->l<n->cf i j<0->cf j l<0->cf i l<0
 ntrans:∀i j l,i<n->j<n->l<n->¬cf i j<0->¬cf j l<0->¬cf i l<0
theorem OrdN.swo{n:Nat}{cf:Nat->Nat->Int}(h:OrdN n cf)(hn:0<n):SWO (ltOf (UH n cf)) where
 irrefl x:=decide_eq_false (h.irrefl (N9 n x) (jH hn _))
 trans x y z h1 h2:=decide_eq_true (h.trans _ _ _ (jH hn _) (jH hn _) (jH hn _) (of_decide_eq_true h1) (of_decide_eq_true h2))
 ntrans x y z h1 h2:=decide_eq_false (h.ntrans _ _ _ (jH hn _) (jH hn _) (jH hn _) (of_decide_eq_false h1) (of_decide_eq_false h2))
theorem XY{n:Nat}{cf:Nat->Nat->Int}(h:OrdN n cf)(hn:0<n)(m:Nat):
 (pdq (ltOf (UH n cf)) (Array.range n) 0 n m true true).size=n/\(pdq (ltOf (UH n cf)) (Array.range n) 0 n m true true).toList.Perm (List.range n)/\
 ∀i j,i<j->j<n->ltOf (UH n cf) (pdq (ltOf (UH n cf)) (Array.range n) 0 n m true true)[j]! (pdq (ltOf (UH n cf)) (Array.range n) 0 n m true true)[i]! =false:=by
 obtain⟨⟨h1,-,h2⟩,h3⟩:=pdq_sorts (ltOf (UH n cf)) (h.swo hn) (Array.range n) 0 n m true true (Nat.zero_le _) (by simp) (Or.inl rfl);have hs:(pdq (ltOf (UH n cf)) (Array.range n) 0 n m true true).size=n:=by rw[h1];simp
 refine⟨hs,?_,λi j hij hj=>h3 i j (Nat.zero_le _) hij hj⟩;have e1:(Array.range n).extract 0 n=Array.range n:=by
  have:n=(Array.range n).size:=by simp
  conv=>lhs;rw[this]
  simp
 have e2:(pdq (ltOf (UH n cf)) (Array.range n) 0 n m true true).extract 0 n=pdq (ltOf (UH n cf)) (Array.range n) 0 n m true true:=by
  conv=>lhs;arg 3;rw[<-hs]
  simp
 rw[e1,e2]at h2;simpa using h2
theorem MG{α:Type}(l:List α)(enc:α->List Value)(lt:α->α->Bool){cf:Nat->Nat->Int}(hO:OrdN l.length cf)(hn:0<l.length)(h:∀i j (hi:i<l.length) (hj:j<l.length),cf i j<0<->lt l[i] l[j]=true):
 ∃l':List α,l'.Perm l/\l'.Pairwise (λx y=>lt y x=false)/\LX (l.map enc) cf=l'.map enc:=by
 obtain⟨h1,h2,h3⟩:=XY hO hn (Lib.bitLen l.length);unfold LX;rw[List.length_map];generalize pdq (ltOf (UH l.length cf)) (Array.range l.length) 0 l.length (Lib.bitLen l.length) true true=d at h1 h2 h3;have hd:Inhabited α:=⟨l[0]⟩;have hlt:∀i∈d.toList,i<l.length:=λi hi=>List.mem_range.1 (h2.mem_iff.1 hi)
 refine⟨d.toList.map λi=>l.getD i default,?_,?_,?_⟩
 ·have e:l=(List.range l.length).map λi=>l.getD i default:=by
   apply List.ext_getElem
   ·simp
   ·intro i a b;simp[List.getD_eq_getElem?_getD,a]
  conv=>rhs;rw[e]
  exact h2.map _
 ·rw[List.pairwise_map,List.pairwise_iff_getElem];intro i j hi hj hij;have a1:=h3 i j hij (by simpa[h1]using hj);rw[getElem!_pos d i (by simpa using hi),getElem!_pos d j (by simpa using hj)]at a1;have b1:=hlt _ (List.getElem_mem hi);have b2:=hlt _ (List.getElem_mem hj);have a1:=of_decide_eq_false a1;unfold UH at a1;simp only[Array.getElem_toList]at b1 b2|-;rw[JW b1,JW b2,h _ _ b2 b1]at a1;rw[List.getD_eq_getElem?_getD,List.getElem?_eq_getElem b2,List.getD_eq_getElem?_getD,List.getElem?_eq_getElem b1];simpa using a1
 ·rw[List.map_map];refine List.map_congr_left λi hi=>?_
  have:=hlt i hi;simp[List.getD_eq_getElem?_getD,this]
def elV(ag:Bool)(r:List Value):Value:=if ag then .agg r.toArray else r.headD undef
def aAi(P:Program)(g:Nat)(cb:Array Value)(ag:Bool)(enc:Nat->List Value)(k:Nat)(cf:Nat->Nat->Int)(blk off size:Nat)(w:World):Prop:=
 ∀(m:Nat) (os:Array Obj) (dk:Array Nat),dk.size=size->∀x y:Nat,
  Calls P g (#[elV ag (enc x),elV ag (enc y)]++cb) (sortWorldK enc k w blk off m dk os) λe w'=>e=.returned (.int .i64 (cf x y))/\∃q os',w'=grow ((sortWorldK enc k w blk off m dk os).drewN q) os'
structure Sorts (P:Program) (F:Nat) (ag:Bool) (k:Nat):Prop where
 empty:∀(p:Option Addr) (cap:Nat) (fv:Value) (w:World),Calls P F #[.slice p 0 cap,fv] w λe w'=>e=.returned (.tuple #[])/\w'=w
 full:∀(enc:Nat->List Value),(∀x,(enc x).length=k)->(∀x,∀v∈enc x,v.oneCell'=true)->∀(cf:Nat->Nat->Int),SWO (ltOf cf)->∀(g:Nat) (cb:Array Value) (blk off cap:Nat) (d:Array Nat) (w:World),
  (∀args w,(callFunc g args).run P w=.ok (.enter g args) w)->aAi P g cb ag enc k cf blk off d.size w->HoldsK enc k w blk off d->blk<w.heap.size->d.size<4611686018427387904->
  Calls P F #[.slice (some ⟨blk,off,none⟩) d.size cap,.func (.func g) #[] cb] w λe w'=>e=.returned (.tuple #[])/\∃n os,w'=sortWorldK enc k w blk off n (pdq (ltOf cf) d 0 d.size (Lib.bitLen d.size) true true) os
def wC(P:Program)(g:Nat):Prop:=∃fn body,P.funcs[g]? =some fn/\(fn.name== "runtime.NumGoroutine")=false/\fn.body=some body
def aA9(P:Program)(ng:List Nat)(W:AW)(b:Nat)(g:FuncId)(cb:Array Value)(x y:Value)(c:Int):Prop:=
 ∀(σ:bQ) (w w1:World) (sg:Seg) (cc cc':Array Value) (t:TypeId),WRel σ W w.heap->w.heap[sg.B]? =some (.cells cc t (0,0))->w1.heap[sg.B]? =some (.cells cc' t (0,0))->(∀B,B<w.heap.size->B≠sg.B->w1.heap[B]? =w.heap[B]?)->
  WRel (sD (Dm W b) σ) (OO W b) w1.heap->AllRo (sD (Dm W b) σ) (OO W b)->Glob (sD (Dm W b) σ) ng->
  ∀(cb':Array Value) (x' y':Value),VR (sD (Dm W b) σ) (.func (.func g) #[] cb) (.func (.func g) #[] cb')->VR (sD (Dm W b) σ) x x'->VR (sD (Dm W b) σ) y y'->
  Calls P g (#[x',y']++cb') w1 λe w'=>e=.returned (.int .i64 c)/\∃q os,w'=grow (w1.drewN q) os
abbrev MI:=AW->Nat->FuncId->Array Value->Value->Value->Option Int
def a3P(P:Program)(ng:List Nat)(ans:MI):Prop:=∀W b g cb x y c,ans W b g cb x y=some c->aA9 P ng W b g cb x y c
structure SortF1 (P:Program) (nQ:MI) (ng:List Nat) (ag:Bool) (k:Nat) (W:AW) (args:List Value) (W':AW) (b c:Nat) (rows:List (List Value)) (rest:List Value) (g:Nat) (cb:Array Value) (cf:Nat->Nat->Int):Prop where
 ne:rows≠[]
 lt:rows.length<1099511627776
 len:∀r∈rows,r.length=k
 ones:∀r∈rows,∀v∈r,one v=true
 args:args=[.slice (some ⟨b,0,none⟩) rows.length c,.func (.func g) #[] cb]
 blk:W.get b=some (.cells (rows.flatten++rest))
 inR:∀r∈rows,∀v∈r,nK (Dm W b) v
 inC:∀v∈cb.toList,nK (Dm W b) v
 gl:∀g∈ng,Dm W b g
 body:wC P g
 cmp:∀i j (hi:i<rows.length) (hj:j<rows.length),nQ W b g cb (elV ag rows[i]) (elV ag rows[j])=some (cf i j)
 ord:OrdN rows.length cf
 new:W'=W.put b (.cells ((LX rows cf).flatten++rest))
def SortFA(P:Program)(nQ:MI)(ng:List Nat)(ag:Bool)(k:Nat)(W:AW)(args:List Value)(W':AW):Prop:=
 (∃p c fv,args=[.slice p 0 c,fv]/\W'=W)\/∃b c rows rest g cb cf,SortF1 P nQ ng ag k W args W' b c rows rest g cb cf
theorem SortF1.pos{P:Program}{nQ:MI}{ng:List Nat}{ag:Bool}{k:Nat}{W W':AW}{args:List Value}{b c:Nat}{rows:List (List Value)}{rest:List Value}{g:Nat}{cb:Array Value}{cf:Nat->Nat->Int}(h:SortF1 P nQ ng ag k W args W' b c rows rest g cb cf):0<rows.length:=List.length_pos_iff.2 h.ne
theorem YC{rows:List (List Value)}{cf cf':Nat->Nat->Int}(hn:0<rows.length)(h:∀i j,i<rows.length->j<rows.length->cf i j=cf' i j):LX rows cf=LX rows cf':=by
 have:UH rows.length cf=UH rows.length cf':=by funext i j;exact h _ _ (jH hn _) (jH hn _)
 unfold LX;rw[this]
theorem SortFA.one{P:Program}{nQ:MI}{ng:List Nat}{ag:Bool}{k:Nat}{W W1 W2:AW}{args:List Value}(h1:SortFA P nQ ng ag k W args W1)(h2:SortFA P nQ ng ag k W args W2):W1=W2:=by
 rcases h1 with⟨p,c,fv,rfl,rfl⟩|⟨b,c,rows,rest,g,cb,cf,h1⟩
 ·rcases h2 with⟨p2,c2,fv2,_,rfl⟩|⟨b,c,rows,rest,g,cb,cf,h2⟩
  ·rfl
  ·have:=h2.args;have hp:=h2.pos;simp only[List.cons.injEq,Value.slice.injEq]at this;omega
 ·rcases h2 with⟨p2,c2,fv2,e,rfl⟩|⟨b2,c2,rows2,rest2,g2,cb2,cf2,h2⟩
  ·have:=h1.args;have hp:=h1.pos;rw[e]at this;simp only[List.cons.injEq,Value.slice.injEq]at this;omega
  ·have e:=h1.args.symm.trans h2.args;simp only[List.cons.injEq,Value.slice.injEq,Option.some.injEq,Addr.mk.injEq,and_true,Value.func.injEq,Fn.func.injEq,true_and]at e;obtain⟨⟨rfl,e1,rfl⟩,rfl,rfl⟩:=e;have e2:=h1.blk;rw[h2.blk]at e2;simp only[Option.some.injEq,AObj.cells.injEq]at e2;obtain⟨rfl,rfl⟩:=XW _ _ _ _ h2.len h1.len e1.symm e2;rw[h1.new,h2.new,YC h1.pos λi j hi hj=>?_];have a1:=h1.cmp i j hi hj;have a2:=h2.cmp i j hi hj;rw[a1]at a2;injection a2
noncomputable def vH(P:Program)(nQ:MI)(ng:List Nat)(ag:Bool)(k F:Nat):Callee:=λf args W=>match f with
 |.func (.func g) fs cs=>(match Nat.beq g F&&(fs.isEmpty&&cs.isEmpty)with
  |true=>open Classical in if h:∃W',SortFA P nQ ng ag k W args W' then some (.tuple #[],Classical.choose h)else none
  |false=>none)
 |_=>none
theorem a1M{P:Program}{nQ:MI}{ng:List Nat}{ag:Bool}{k F:Nat}{W W':AW}{args:List Value}(h:SortFA P nQ ng ag k W args W'):vH P nQ ng ag k F (.func (.func F) #[] #[]) args W=some (.tuple #[],W'):=by unfold vH;have hx:∃W',SortFA P nQ ng ag k W args W':=⟨W',h⟩;simp only[Nat.beq_refl,Array.isEmpty_empty,Bool.and_self,dif_pos hx];rw[(Classical.choose_spec hx).one h]
theorem a0h{w w':World}(h:Quiet w w')(hd:w.drawn<=w'.drawn):∃q os,w'=grow (w.drewN q) os:=by
 refine⟨w'.drawn-w.drawn,w'.heap.extract w.heap.size w'.heap.size,?_⟩;have e1:w'.heap=w.heap++w'.heap.extract w.heap.size w'.heap.size:=by
  apply Array.ext
  ·have:=h.size;simp;omega
  ·intro i h1 h2;by_cases hi:i<w.heap.size
   ·have:=h.block i hi;rw[Array.getElem?_eq_getElem h1,Array.getElem?_eq_getElem hi]at this;rw[Array.getElem_append_left hi];exact Option.some.inj this
   ·rw[Array.getElem_append_right (by omega),Array.getElem_extract];congr 1;omega
 obtain⟨h0,t0,d0,o0,u0⟩:=w;obtain⟨h1,t1,d1,o1,u1⟩:=w';have a1:=h.os;have a2:=h.tape;have a3:=h.output;simp only at a1 a2 a3 hd e1;subst a1;subst a2;subst a3;unfold grow World.drewN;simp only[World.mk.injEq,true_and,and_true];exact⟨e1,by omega⟩
theorem QI{P:Program}{o:Callee}{ng:List Nat}(hok:aW P ng o){σ:bQ}{W W':AW}{w:World}(hW:WRel σ W w.heap)(hG:Glob σ ng)(hro:AllRo σ W){g:FuncId}{cb cb':Array Value}{args args':List Value}(hf:VR σ (.func (.func g) #[] cb) (.func (.func g) #[] cb'))(hargs:LR σ args args'){v:Value}(hv:aX v=true)
 (h:o (.func (.func g) #[] cb) args W=some (v,W')):Calls P g (args'.toArray++cb') w λe w'=>e=.returned v/\∃q os,w'=grow (w.drewN q) os:=by
 have hc:=hok _ _ _ _ _ h σ w _ args' hW hG hf hargs;unfold zY at hc;obtain⟨_,hc⟩:=hc;have e1:(#[]:Array Value)++args'.toArray++cb'=args'.toArray++cb':=by simp
 rw[e1]at hc;have h1:Calls P g (args'.toArray++cb') w λe w'=>e=.returned v/\Quiet w w':=by refine(callsIn_wide (n:=0)).1 ?_;refine CallsIn.mono (show CallsIn Fence.wide 0 P g (args'.toArray++cb') w _ from hc) ?_;rintro e w' ⟨v',rfl,σ',hv',_,he⟩;exact⟨by rw[iE hv hv'],hro.quiet he⟩
 refine(Mono.calls_drawn h1).mono ?_;rintro e w' ⟨rfl,hq,hd⟩;exact⟨rfl,a0h hq hd⟩
theorem a0L{σ:bQ}{ag:Bool}{r r':List Value}(h:LR σ r r')(hl:ag=false->r.length=1):VR σ (elV ag r) (elV ag r'):=by
 unfold elV;cases ag
 ·have h1:=hl rfl;have h2:r'.length=1:=h.1▸h1;match r,r',h1,h2 with
  |[v],[v'],_,_=>exact h.2 0 v v' rfl rfl
 ·simp only[if_true];exact .agg _ _ (by simpa using h.1) (λi v v' a b=>h.2 i v v' (by simpa using a) (by simpa using b))
theorem D7{enc:Value->Value}{off:Nat}{d c:Array Value}(i:Nat):(putCells enc off d c)[i]? =(c[i]?).map λx=>if off<=i/\i<off+d.size then enc d[i-off]! else x:=by unfold putCells;rw[Array.getElem?_mapIdx]
theorem QD{P:Program}{nQ:MI}{ng:List Nat}{ag:Bool}{k F:Nat}(hk0:0<k)(hag:ag=false->k=1)(hF:wC P F)(hom:a3P P ng nQ)(hS:Sorts P F ag k):aW P ng (vH P nQ ng ag k F):=by
 intro f args W v W' h σ w f' args' hW hG hf hargs;unfold vH at h;split at h;case h_2=>cases h
 rename_i g0 fs cs;split at h;case h_2=>cases h
 rename_i hgf;simp only[Bool.and_eq_true,Nat.beq_eq,Array.isEmpty_iff]at hgf;obtain⟨rfl,rfl,rfl⟩:=hgf;split at h;case isFalse=>cases h
 rename_i hx;injection h with h;injection h with h1 h2;subst h1;have hs:=Classical.choose_spec hx;rw[h2]at hs;clear h2 hx;obtain⟨fn',fs',cs',hfr,hfs,hcs,rfl⟩:=hf.func_inv;cases hfr;obtain rfl:fs'=#[]:=by have h1:fs'.toList.length=0:=hfs.1.symm;exact Array.toList_eq_nil_iff.1 (List.length_eq_zero_iff.1 h1)
 obtain rfl:cs'=#[]:=by have h1:cs'.toList.length=0:=hcs.1.symm;exact Array.toList_eq_nil_iff.1 (List.length_eq_zero_iff.1 h1)
 obtain⟨Fn0,Fbody,hF1,hF2,hF3⟩:=hF;refine⟨dO hF1 hF2 hF3 _ w,?_⟩;have e1:(#[]:Array Value)++args'.toArray++#[]=args'.toArray:=by simp
 rw[e1];rcases hs with⟨p,c,fv,rfl,rfl⟩|⟨b,c,rows,rest,g,cb,cf,H⟩
 ·obtain⟨v1,v2,rfl,hv1,hv2⟩:∃v1 v2,args'=[v1,v2]/\VR σ (.slice p 0 c) v1/\VR σ fv v2:=by
   obtain⟨hl,hv⟩:=hargs;match args',hl with
   |[a,b],_=>exact⟨a,b,rfl,hv 0 _ _ rfl rfl,hv 1 _ _ rfl rfl⟩
  obtain⟨p',c',rfl⟩:∃p' c',v1=.slice p' 0 c':=by
   cases hv1 with
   |snil=>exact⟨_,_,rfl⟩
   |slice=>exact⟨_,_,rfl⟩
   |sliceE=>exact⟨_,_,rfl⟩
  refine CallsIn.mono (show CallsIn Fence.wide 0 P _ _ w _ from(callsIn_wide (n:=0)).2 (hS.empty p' c' v2 w)) ?_;rintro e w' ⟨rfl,rfl⟩;exact⟨_,rfl,σ,.tuple' (.nil),hW,.refl _ _ _⟩
 ·have hn:=H.pos;have hlt:=H.lt;have hflat:=MU rows H.len;obtain rfl:=H.args;obtain⟨v1,v2,rfl,hv1,hv2⟩:∃v1 v2,args'=[v1,v2]/\VR σ (.slice (some ⟨b,0,none⟩) rows.length c) v1/\VR σ (.func (.func g) #[] cb) v2:=by
   obtain⟨hl,hv⟩:=hargs;match args',hl with
   |[a,b],_=>exact⟨a,b,rfl,hv 0 _ _ rfl rfl,hv 1 _ _ rfl rfl⟩
  obtain⟨sg,cap',hg,rfl⟩:∃(sg:Seg) (cap':Nat),σ b=some sg/\v1=.slice (some ⟨sg.B,sg.s,none⟩) rows.length cap':=by
   generalize hl:rows.length=l at hv1 hn;cases hv1 with
   |slice a l c c' g h hs hc=>exact⟨g,c',h,rfl⟩
   |sliceE=>omega
  obtain⟨cb',rfl⟩:∃cb',v2=.func (.func g) #[] cb':=by
   obtain⟨fn',fs',cs',hfr,hfs,hcs,rfl⟩:=hv2.func_inv;cases hfr;obtain rfl:fs'=#[]:=by have h1:fs'.toList.length=0:=hfs.1.symm;exact Array.toList_eq_nil_iff.1 (List.length_eq_zero_iff.1 h1)
   exact⟨_,rfl⟩
  obtain⟨cc,t,fr0,k1,k0,k2,k3,k4⟩:=hW.obj b _ _ H.blk hg;rw[List.length_append,hflat]at k2;have hNpos:0<rows.length*k:=Nat.mul_pos hn hk0;have hse:sg.s<sg.e:=by omega
  obtain rfl:=k0 hse;have hbl:=(hW.dom b _ hg).2;have hcell:∀i t',i<rows.length->t'<k->∃v',cc[sg.s+(i*k+t')]? =some v'/\∃v,(rows[i]?).bind (·[t']?)=some v/\VR σ v v':=λi t' hi ht=>by
   have e:=KD rows H.len i t' hi ht;have hr:=H.len _ (List.getElem_mem hi);have e2:(rows[i]?).bind (·[t']?)=some (rows[i][t']'(by omega)):=by rw[List.getElem?_eq_getElem hi];exact List.getElem?_eq_getElem _
   have hlt2:i*k+t'<rows.flatten.length:=by
    rw[hflat]
    calc i*k+t'<i*k+k:=by omega
     _=(i+1)*k:=by rw[Nat.add_mul];omega
     _<=rows.length*k:=Nat.mul_le_mul_right _ hi
   obtain⟨v',a1,a2⟩:=k4 (i*k+t') (rows[i][t']'(by omega)) (by rw[List.getElem?_append_left hlt2,e,e2]);exact⟨v',a1,_,e2,a2⟩
  let enc:Nat->List Value:=λx=>(List.range k).map λt'=>(cc[sg.s+(N9 rows.length x*k+t')]?).getD undef
  have hek:∀x,(enc x).length=k:=λx=>by simp[enc]
  have hrel:∀x,LR σ (rows[N9 rows.length x]'(jH hn x)) (enc x):=λx=>by
   have hi:=jH hn x;refine⟨by rw[hek,H.len _ (List.getElem_mem hi)],λi v v' a1 a2=>?_⟩;have hik:i<k:=by have:=(List.getElem?_eq_some_iff.1 a1).1;rwa [H.len _ (List.getElem_mem hi)]at this
   obtain⟨u',b1,u,b2,b3⟩:=hcell (N9 rows.length x) i hi hik;rw[List.getElem?_eq_getElem hi]at b2;have b2':(rows[N9 rows.length x])[i]? =some u:=b2;rw[b2']at a1;injection a1 with a1;subst a1;simp only[enc,List.getElem?_map,List.getElem?_range hik,Option.map_some,b1,Option.getD_some,Option.some.injEq]at a2;subst a2;exact b3
  have hone:∀x,∀v∈enc x,v.oneCell'=true:=λx=>E9 (hrel x) (List.all_eq_true.2 λv hv=>H.ones _ (List.getElem_mem (jH hn x)) v hv)
  have hflatE:∀(d:Array Nat) (j:Nat),j<d.size*k->(Sort.flatK enc k d)[j]! =(enc d[j/k]!)[j % k]! :=λd j hj=>get_flatK enc k d j hj
  have hH:HoldsK enc k w sg.B sg.s (Array.range rows.length):=by
   intro j hj;rw[size_flatK]at hj;have hj':j<rows.length*k:=by simpa using hj
   refine⟨?_,ORel.cold (hW.obj b _ _ H.blk hg) (λ_ hx=>by cases hx) hse rfl⟩;have hdk:j/k<rows.length:=Nat.div_lt_of_lt_mul (by rw[Nat.mul_comm];exact hj');have hmk:j % k<k:=Nat.mod_lt _ hk0;have hjj:j/k*k+j % k=j:=by rw[Nat.mul_comm];exact Nat.div_add_mod j k
   obtain⟨u',b1,-⟩:=hcell (j/k) (j % k) hdk hmk;rw[hjj]at b1;show w.cell? _=some (id _);rw[hflatE _ j hj];have e3:(Array.range rows.length)[j/k]! =j/k:=by rw[getElem!_pos _ _ (by simpa using hdk)];simp
   rw[e3];have e4:(enc (j/k))[j % k]! =u':=by rw[getElem!_pos _ _ (by rw[hek];exact hmk)];simp only[enc,List.getElem_map,List.getElem_range,JW hdk,hjj,b1,Option.getD_some]
   rw[e4];unfold World.cell?;simp only[k1,Option.isSome_none,Bool.false_eq_true,if_false,b1];rfl
  have hO:=H.ord.swo hn;obtain⟨gf,gbody,g1,g2,g3⟩:=H.body;have hother:∀(m:Nat) (dk:Array Nat) (os:Array Obj) (B:Nat),B<w.heap.size->B≠sg.B->(sortWorldK enc k w sg.B sg.s m dk os).heap[B]? =w.heap[B]? :=λm dk os B hB hne=>by show((w.heap.modify sg.B _)++os)[B]? =_;rw[Array.getElem?_append_left (by simpa using hB),Array.getElem?_modify,if_neg (Ne.symm hne)]
  have hat:∀(m:Nat) (dk:Array Nat) (os:Array Obj),(sortWorldK enc k w sg.B sg.s m dk os).heap[sg.B]? =some (.cells (putCells id sg.s (Sort.flatK enc k dk) cc) t (0,0)):=λm dk os=>by show((w.heap.modify sg.B _)++os)[sg.B]? =_;rw[Array.getElem?_append_left (by simpa using hbl),Array.getElem?_modify,if_pos rfl,k1];rfl
  have hsize:∀(m:Nat) (dk:Array Nat) (os:Array Obj),w.heap.size<=(sortWorldK enc k w sg.B sg.s m dk os).heap.size:=λm dk os=>by show _<=((w.heap.modify sg.B _)++os).size;simp
  have houtC:∀(dk:Array Nat),dk.size=rows.length->∀i,i<sg.s\/sg.e<=i->(putCells id sg.s (Sort.flatK enc k dk) cc)[i]? =cc[i]? :=λdk hdk i hi=>by
   rw[D7];have:¬(sg.s<=i/\i<sg.s+(Sort.flatK enc k dk).size):=by rw[size_flatK,hdk];omega
   simp only[this,if_false];cases cc[i]? <;>rfl
  have hcmp:aAi P g cb' ag enc k (UH rows.length cf) sg.B sg.s (Array.range rows.length).size w:=by
   intro m os dk hdk x y;have hdk':dk.size=rows.length:=by simpa using hdk
   obtain⟨r1,r2⟩:=a6Y hW H.blk hg (hsize m dk os) (hother m dk os) k1 (hat m dk os) (houtC dk hdk');have hx:=jH hn x;have hy:=jH hn y;have hom2:=H.cmp _ _ hx hy;have hcut:∀{i:Nat} (hi:i<rows.length) {l':List Value},LR σ rows[i] l'->LR (sD (Dm W b) σ) rows[i] l':=λ{i} hi {l'} hl=>⟨hl.1,λj v v' a1 a2=>H.inR _ (List.getElem_mem hi) v (List.mem_of_getElem? a1) σ v' (hl.2 j v v' a1 a2)⟩
   have hrl:∀{i:Nat} (hi:i<rows.length),ag=false->rows[i].length=1:=λ{i} hi ha=>by rw[H.len _ (List.getElem_mem hi),hag ha]
   have hfv:VR (sD (Dm W b) σ) (.func (.func g) #[] cb) (.func (.func g) #[] cb'):=MW (by simp) H.inC σ _ hv2;have hGc:Glob (sD (Dm W b) σ) ng:=λg hg2=>by obtain⟨e,he⟩:=hG g hg2;exact⟨e,by unfold sD;rw[if_pos (H.gl g hg2)];exact he⟩
   exact hom _ _ _ _ _ _ _ hom2 σ w _ sg _ _ t hW k1 (hat m dk os) (hother m dk os) r1 r2 hGc cb' _ _ hfv (a0L (hcut hx (hrel x)) (hrl hx)) (a0L (hcut hy (hrel y)) (hrl hy))
  have hc:=hS.full enc hek hone (UH rows.length cf) hO g cb' sg.B sg.s cap' (Array.range rows.length) w (dO g1 g2 g3) hcmp hH hbl (by simp;omega);have esz:(Array.range rows.length).size=rows.length:=by simp
  rw[esz]at hc;refine CallsIn.mono (show CallsIn Fence.wide 0 P _ _ w _ from(callsIn_wide (n:=0)).2 hc) ?_;rintro e w' ⟨rfl,n,os,rfl⟩;obtain⟨p1,p2,-⟩:=XY H.ord hn (Lib.bitLen rows.length);have hnew:=H.new;unfold LX at hnew;generalize hdk:pdq (ltOf (UH rows.length cf)) (Array.range rows.length) 0 rows.length (Lib.bitLen rows.length) true true=dk at p1 p2 hnew|-;have hdlt:∀i (hi:i<dk.size),dk[i]<rows.length:=λi hi=>List.mem_range.1 (p2.mem_iff.1 (by simp))
  have hlenR:∀r∈dk.toList.map (λi=>rows.getD i []),r.length=k:=λr hr=>by obtain⟨i,hi,rfl⟩:=List.mem_map.1 hr;have hi2:=List.mem_range.1 (p2.mem_iff.1 hi);rw[List.getD_eq_getElem?_getD,List.getElem?_eq_getElem hi2];exact H.len _ (List.getElem_mem hi2)
  have hflat2:(dk.toList.map λi=>rows.getD i []).flatten.length=rows.length*k:=by rw[MU _ hlenR,List.length_map,Array.length_toList,p1]
  rw[hnew];have hput:WRel σ (W.put b (.cells ((dk.toList.map λi=>rows.getD i []).flatten++rest))) (sortWorldK enc k w sg.B sg.s n dk #[]).heap/\Ext σ W w σ (W.put b (.cells ((dk.toList.map λi=>rows.getD i []).flatten++rest))) (sortWorldK enc k w sg.B sg.s n dk #[]):=by
   refine hW.write H.blk hg (by show((w.heap.modify sg.B _)++#[]).size=_;simp) rfl rfl rfl (λB hB=>?_) k1 (hat n dk #[]) (by unfold putCells;simp) (houtC dk p1) (by rw[List.length_append,hflat2];exact k2) λi v hv=>?_
   ·show((w.heap.modify sg.B _)++#[])[B]? =_;simp only[Array.append_empty];rw[Array.getElem?_modify,if_neg (Ne.symm hB)]
   ·rw[D7];by_cases hi:i<rows.length*k
    ·have hdk2:i/k<rows.length:=Nat.div_lt_of_lt_mul (by rw[Nat.mul_comm];exact hi);have hmk:i % k<k:=Nat.mod_lt _ hk0;have hii:i/k*k+i % k=i:=by rw[Nat.mul_comm];exact Nat.div_add_mod i k
     have hds:i/k<dk.size:=by rw[p1];exact hdk2
     have hd1:=hdlt (i/k) hds;rw[List.getElem?_append_left (by rw[hflat2];exact hi)]at hv;have e5:=KD _ hlenR (i/k) (i % k) (by simpa[p1]using hdk2) hmk;rw[hii]at e5;rw[e5,List.getElem?_map]at hv;have e6:dk.toList[i/k]? =some dk[i/k]:=by simp[hds]
     rw[e6]at hv;simp only[Option.map_some,Option.bind_some,List.getD_eq_getElem?_getD,List.getElem?_eq_getElem hd1,Option.getD_some]at hv;have hcs:sg.s+i<cc.size:=by omega
     rw[Array.getElem?_eq_getElem hcs];have hcond:sg.s<=sg.s+i/\sg.s+i<sg.s+(Sort.flatK enc k dk).size:=by rw[size_flatK,p1];omega
     simp only[Option.map_some,hcond,and_self,if_true,Nat.add_sub_cancel_left,id_eq];rw[hflatE dk i (by rw[p1];exact hi),getElem!_pos dk (i/k) hds];refine⟨_,rfl,?_⟩;have hr:=hrel dk[i/k];simp only[JW hd1]at hr;refine hr.2 (i % k) v _ hv ?_;rw[getElem!_pos _ _ (by rw[hek];exact hmk)];exact List.getElem?_eq_getElem _
    ·have hge:rows.length*k<=i:=by omega
     rw[List.getElem?_append_right (by rw[hflat2];exact hge),hflat2]at hv;obtain⟨v',a1,a2⟩:=k4 i v (by rw[List.getElem?_append_right (by rw[hflat];exact hge),hflat];exact hv);refine⟨v',?_,a2⟩;rw[a1];have:¬(sg.s<=sg.s+i/\sg.s+i<sg.s+(Sort.flatK enc k dk).size):=by rw[size_flatK,p1];omega
     simp only[Option.map_some,this,if_false]
  obtain⟨q1,q2⟩:=hput;have eg:sortWorldK enc k w sg.B sg.s n dk os=grow (sortWorldK enc k w sg.B sg.s n dk #[]) os:=by unfold sortWorldK;rw[grow_grow];simp
  have hold:∀B,B<(sortWorldK enc k w sg.B sg.s n dk #[]).heap.size->(grow (sortWorldK enc k w sg.B sg.s n dk #[]) os).heap[B]? =(sortWorldK enc k w sg.B sg.s n dk #[]).heap[B]? :=λB hB=>heap_grow_old _ os hB
  have hqq:Quiet (sortWorldK enc k w sg.B sg.s n dk #[]) (grow (sortWorldK enc k w sg.B sg.s n dk #[]) os):=⟨rfl,rfl,rfl,by unfold grow;simp,hold⟩;rw[eg];exact⟨_,rfl,σ,.tuple' (.nil),hqq.rel q1,q2.trans (hqq.ext σ _)⟩
noncomputable def MZ(o:Callee):MI:=λW b g cb x y=>match o (.func (.func g) #[] cb) [x,y] (OO W b)with
 |some (.int .i64 c,_)=>some c
 |_=>none
theorem VN{o:Callee}{W W2:AW}{b:Nat}{g:FuncId}{cb:Array Value}{x y:Value}{c:Int}(h:o (.func (.func g) #[] cb) [x,y] (OO W b)=some (.int .i64 c,W2)):MZ o W b g cb x y=some c:=by unfold MZ;rw[h]
theorem a3X{P:Program}{ng:List Nat}{o:Callee}(hok:aW P ng o):a3P P ng (MZ o):=by
 intro W b g cb x y c h σ w w1 sg cc cc' t hW k1 k2 k3 r1 r2 r3 cb' x' y' hf hx hy;unfold MZ at h;split at h
 ·rename_i c' W2 he;injection h with h;subst h;exact QI hok r1 r3 r2 hf (args':=[x',y']) (.cons hx (.cons hy .nil)) rfl he
 ·cases h
def Clo(P:Program)(G GB:Nat):Prop:=∀{w:World} {A B X Q:Addr} {same bf:Bool},w.cell? X=some (.pointer (some Q))->(sameAddr A B).run P w=.ok same w->
 (same=false->Calls P GB #[.pointer (some Q),.pointer (some A),.pointer (some B)] w λe w'=>e=.returned (.bool bf)/\∃q os,w'=grow (w.drewN q) os)->
 Calls P G #[.pointer (some A),.pointer (some B),.pointer (some X)] w λe w'=>e=.returned (.int .i64 (if same then 0 else if bf then -1 else 1))/\∃q os,w'=grow (w.drewN q) os
noncomputable def yO(o:Callee)(G GB:Nat):MI:=λW b g cb x y=>if g=G then
 match cb.toList,x,y with
 |[.pointer (some X)],.pointer (some A),.pointer (some B)=>(match(cellsAt (OO W b) X.block).bind (·[X.off]?)with
  |some (.pointer (some Q))=>if A=B then some 0 else(match W.get A.block,W.get B.block with
   |some (.cells ca),some (.cells cb)=>if A.block≠B.block/\A.off<ca.length/\B.off<cb.length then(match o (.func (.func GB) #[] #[]) [.pointer (some Q),x,y] (OO W b)with
    |some (.bool r,_)=>some (if r then -1 else 1)
    |_=>none)else none
   |_,_=>none)
  |_=>none)
 |_,_,_=>none
 else none
theorem a1F{P:Program}{ng:List Nat}{o:Callee}{G GB:Nat}(hok:aW P ng o)(hclo:Clo P G GB):a3P P ng (yO o G GB):=by
 intro W b g cb x y c h σ w w1 sg cc cc' t hW k1 k2 k3 r1 r2 r3 cb' x' y' hf hx hy;unfold yO at h;split at h;case isFalse=>cases h
 rename_i hg;subst hg;split at h;case h_2=>cases h
 rename_i X A B hcb;obtain rfl:cb=#[.pointer (some X)]:=Array.toList_inj.1 (by rw[hcb]);split at h;case h_2=>cases h
 rename_i Q hQ;have hcut:∀x g,sD (Dm W b) σ x=some g->Dm W b x/\σ x=some g:=λx g h=>by
  unfold sD at h;split at h
  ·rename_i hd;exact⟨hd,h⟩
  ·cases h
 obtain⟨fn',fs',cs',hfr,hfs,hcs,hfe⟩:=hf.func_inv;injection hfe with _ _ hfe;subst hfe;obtain⟨X',rfl,hX⟩:∃v,cb'=#[v]/\VR (sD (Dm W b) σ) (.pointer (some X)) v:=by obtain⟨hl,hv⟩:=hcs;have hl1:cb'.toList.length=1:=hl.symm;obtain⟨v,hv1⟩:=List.length_eq_one_iff.1 hl1;exact⟨v,Array.toList_inj.1 (by rw[hv1]),hv 0 _ _ rfl (by rw[hv1];rfl)⟩
 have hQcell:∃gX,sD (Dm W b) σ X.block=some gX/\X'=.pointer (some ⟨gX.B,gX.s+X.off,none⟩)/\∃Q',w1.cell? ⟨gX.B,gX.s+X.off,none⟩=some (.pointer (some Q'))/\VR (sD (Dm W b) σ) (.pointer (some Q)) (.pointer (some Q')):=by
  cases hX with
  |ptr _ gX hgX hs=>
   refine⟨gX,hgX,rfl,?_⟩;obtain⟨cs,hro⟩:=r2 _ _ hgX;have hca:cellsAt (OO W b) X.block=some cs:=by unfold cellsAt;rw[hro]
   rw[hca]at hQ;obtain⟨c0,t0,fr0,p1,p2,p4⟩:=r1.obj _ _ gX hro hgX;obtain⟨v',e1,e2⟩:=p4 _ _ hQ;cases e2 with
   |ptr _ gQ hgQ hsQ=>refine⟨_,?_,.ptr Q gQ hgQ hsQ⟩;unfold World.cell?;simp only[p1,Option.isSome_none,Bool.false_eq_true,if_false,e1]
 obtain⟨gX,hgX,rfl,Q',hcell,hQr⟩:=hQcell;cases hx with
 |ptr _ gA hgA hsA=>
  cases hy with
  |ptr _ gB hgB hsB=>
   have e0:(#[Value.pointer (some ⟨gA.B,gA.s+A.off,none⟩),Value.pointer (some ⟨gB.B,gB.s+B.off,none⟩)]++#[Value.pointer (some ⟨gX.B,gX.s+X.off,none⟩)]:Array Value)=#[.pointer (some ⟨gA.B,gA.s+A.off,none⟩),.pointer (some ⟨gB.B,gB.s+B.off,none⟩),.pointer (some ⟨gX.B,gX.s+X.off,none⟩)]:=rfl;rw[e0];split at h
   ·rename_i hab;injection h with h;subst h;subst hab;rw[hgA]at hgB;injection hgB with hgB;subst hgB;exact hclo (same:=true) (bf:=true) hcell (run_sameAddr_same w1 _) λh=>by cases h
   ·rename_i hab;split at h;case h_2=>cases h
    rename_i ca cb2 hca hcb2;split at h;case isFalse=>cases h
    rename_i hin;obtain⟨hne,ha,hb⟩:=hin;split at h;case h_2=>cases h
    rename_i r W2 hom;injection h with h;subst h;obtain⟨-,hgA'⟩:=hcut _ _ hgA;obtain⟨-,hgB'⟩:=hcut _ _ hgB;obtain⟨c1,t1,fr1,p1,p0,p2,p3,_⟩:=hW.obj _ _ gA hca hgA';obtain rfl:=p0 (by omega);obtain⟨c2,t2,fr2,q1,q0,q2,q3,_⟩:=hW.obj _ _ gB hcb2 hgB';obtain rfl:=q0 (by omega);have hd:=hW.disj _ _ _ _ gA gB hne hca hcb2 hgA' hgB' rfl;have hne2:(⟨gA.B,gA.s+A.off,none⟩:Addr)≠⟨gB.B,gB.s+B.off,none⟩:=by
     intro he;injection he with e1 e2 _;rcases hd with r|r|r
     ·exact r e1
     ·omega
     ·omega
    have hheap:∀(g:Seg) (c:Array Value) (t':TypeId),g.B<w.heap.size->w.heap[g.B]? =some (.cells c t' (0,0))->∃c' t'',w1.heap[g.B]? =some (.cells c' t'' (0,0)):=λg c t' hlt hc=>by
     by_cases e:g.B=sg.B
     ·exact⟨_,_,by rw[e];exact k2⟩
     ·exact⟨_,_,(k3 _ hlt e).trans hc⟩
    obtain⟨a1,a2,a3⟩:=hheap gA _ _ (hW.dom _ _ hgA').2 p1;obtain⟨b1,b2,b3⟩:=hheap gB _ _ (hW.dom _ _ hgB').2 q1;have hcall:=QI hok r1 r3 r2 (g:=GB) (cb:=#[]) (cb':=#[]) (.func _ _ _ _ _ _ (.func GB) rfl (λi v v' x=>by simp at x) rfl (λi v v' x=>by simp at x)) (args':=[.pointer (some Q'),.pointer (some ⟨gA.B,gA.s+A.off,none⟩),.pointer (some ⟨gB.B,gB.s+B.off,none⟩)]) (.cons hQr (.cons (.ptr A gA hgA hsA) (.cons (.ptr B gB hgB hsB) .nil))) rfl hom;have:=hclo (same:=false) (bf:=r) hcell (run_sameAddr_other w1 hne2 a3 b3) λ_=>hcall
    exact this
end Go.Eng
namespace Go.Eng
open Go Go.RowKit Go.Sort Go.Proofs
variable [PlanTab]
theorem a1W{P:Program}{ρ:Shelf.Ren}{k:Nat}(L:SlLaysF0.n6 P ρ)(aE:∀w,(isAgg (ρ.t 24)).run P w=.ok true w)(zE:∀w,(Go.sizeOf (ρ.t 24)).run P w=.ok k w):Sorts P (ρ.f 6) true k where
 empty p cap fv w:=AnyF.slices_SortFunc_none L p cap fv w
 full enc hk h1 cf hO g cb blk off cap d w eg hcmp hH hblk hsz:=
  AnyQ.slices_SortFunc_eq L k aE zE enc hk h1 cf hO g cb blk off cap d w eg hcmp hH hblk hsz
theorem a5m{enc:Nat->List Value}(hk:∀x,(enc x).length=1)(d:Array Nat)(j:Nat)(hj:j<d.size):(Sort.flatK enc 1 d)[j]! =(enc d[j]!).headD undef:=by
 rw[get_flatK enc 1 d j (by omega),Nat.div_one,Nat.mod_one];match h:enc d[j]!,hk d[j]! with
 |[v],_=>rfl
theorem RJ{enc:Nat->List Value}(hk:∀x,(enc x).length=1)(off:Nat)(d:Array Nat):putCells id off (Sort.flatK enc 1 d)=putCells (λx=>(enc x).headD undef) off d:=by
 funext c;unfold putCells;congr 1;funext i x;rw[size_flatK,Nat.mul_one];split
 ·rename_i h;exact a5m hk d _ (by omega)
 ·rfl
theorem PY{enc:Nat->List Value}(hk:∀x,(enc x).length=1)(w:World)(blk off m:Nat)(dk:Array Nat)(os:Array Obj):sortWorldK enc 1 w blk off m dk os=sortWorld (λx=>(enc x).headD undef) w blk off m dk os:=by unfold sortWorldK sortWorld putRowK putRow;rw[RJ hk]
theorem a1X{P:Program}{ρ:Shelf.Ren}(L:SlLaysF.n6 P ρ):Sorts P (ρ.f 6) false 1 where
 empty p cap fv w:=AnyF.slices_SortFunc_none {L with} p cap fv w
 full enc hk h1 cf hO g cb blk off cap d w eg hcmp hH hblk hsz:=by
  have hone:OneCell λx=>(enc x).headD undef:=λx=>by show((enc x).headD undef).oneCell'=true;obtain⟨v,hv⟩:=List.length_eq_one_iff.1 (hk x);have:=h1 x v (by rw[hv];exact List.mem_cons_self ..);rw[hv];exact this
  have:=Any.slices_SortFunc_eq L (λx=>(enc x).headD undef) hone cf hO g cb blk off cap d w eg (λm os dk hs x y=>by
   have:=hcmp m os dk hs x y;rw[PY hk]at this;exact this) (λj hj=>by
   have:=hH j (by rw[size_flatK];omega);rw[a5m hk d j hj]at this;exact this) hblk hsz;refine this.mono ?_;rintro e w' ⟨rfl,n,os,rfl⟩;exact⟨rfl,n,os,(PY hk ..).symm⟩
theorem ZV{P:Program}{bad:List Nat}{s s':Callee}(h:CLe s s')(c:Callee):CLe (gP P bad s c) (gP P bad s' c):=by
 intro f args W r hr;by_cases hx:∃i fs cs,f=.func (.func i) fs cs
 ·obtain⟨i,fs,cs,rfl⟩:=hx;cases hb:R4 i bad with
  |true=>unfold gP at hr|-;simp only[hb]at hr|-;exact h _ _ _ _ hr
  |false=>unfold gP at hr|-;simp only[hb]at hr|-;exact hr
 ·unfold gP at hr|-;split at hr
  ·exact absurd ⟨_,_,_,rfl⟩ hx
  ·exact hr
  ·cases hr
theorem a0J{P:Program}{bad:List Nat}{s s':Callee}(h:CLe s s'):∀n,CLe (gC P bad s n) (gC P bad s' n)
 |0=>λf a W r hr=>by cases hr
 |n+1=>λf a W r hr=>by
  have hr':(gP P bad s (gC P bad s n) f a W).map (gcF f W)=some r:=hr;show(gP P bad s' (gC P bad s' n) f a W).map (gcF f W)=some r;cases hb:gP P bad s (gC P bad s n) f a W with
  |none=>rw[hb]at hr';cases hr'
  |some q=>rw[hb]at hr';rw[WQ (a0J h n) _ _ _ _ (ZV h _ _ _ _ _ hb)];exact hr'
theorem ZM{P:Program}{bad:List Nat}{s s':Callee}(h:CLe s s'):CLe (om P bad s) (om P bad s'):=by intro f a W r hr;obtain⟨n,hn⟩:=(LP P bad s).of _ _ _ _ hr;exact a7Z P bad s' (a0J h n _ _ _ _ hn)
end Go.Eng
