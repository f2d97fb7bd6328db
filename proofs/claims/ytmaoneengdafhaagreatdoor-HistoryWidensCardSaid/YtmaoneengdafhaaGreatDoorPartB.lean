/- A part: contracts and laws. -/
import Derived.Test.YtmaoneengdafhaaGreatDoorPartA
import Derived.LoopNIn
import Derived.RangeFuncRecord
import Derived.RowKit3
import Derived.ProofKit
import Derived.OpenShut
import Derived.Maps.RangeWalk
import Derived.Orders
import Derived.RowKit
import Derived.Sort.Grow
import Derived.ChangeArms
import Derived.ReadAgain
import Derived.Lib.Join
import Derived.Lib.Builder
import Derived.Below
set_option linter.unusedVariables false
set_option linter.unusedSimpArgs false
set_option linter.unusedSectionVars false
set_option linter.defProp false
noncomputable section
open Go renaming Act->aU,Addr->aP,Code->bA,DataW->bN,Deferred->dv,Exit->cJ,Field->rq,Func->eO,FuncId->gE,IntKind->aO,MemPlace->cx,Oper->aj,Operand->an,Program->ag,TypeId->ae,Value->ad,World->am,undef->ak
namespace Go.Eng
open Go
section
variable [ah]
inductive X where
 |normal|exit (id:Nat)|ret
def X.to:X->cJ
 |.normal=>.normal
 |.exit id=>.exit id
 |.ret=>.ret
def X.jump:X->Option bA
 |.normal=>none
 |.exit id=>some (.exit id)
 |.ret=>some .ret
def jP(body:ah.Fr->AW->Option (X×ah.Fr×AW)):Nat->ah.Fr->AW->Option (X×ah.Fr×AW)
 |0,_,_=>none
 |n+1,R,W=>match body R W with
  |some (.normal,R',W')=>jP body n R' W'
  |r=>r
def bQ(P:ag)(call:Callee)(top:Bool)(nt:Nat):bA->ah.Fr->AW->Option (X×ah.Fr×AW)
 |.skip,R,W=>some (.normal,R,W)
 |.label _,R,W=>some (.normal,R,W)
 |.region id ops Ar,R,W=>
  match Ar with
  |false=>(oW P call ops ops.toList R W).map λr=>(.normal,r.1,r.2)
  |true=>match ah.D id ops with
   |none=>(oW P call ops ops.toList R W).map λr=>(.normal,r.1,r.2)
   |some pl=>(jU P call ops pl R W).map λr=>(.normal,r.1,r.2)
 |.seq a b,R,W=>match bQ P call top nt a R W with
  |some (.normal,R',W')=>bQ P call top nt b R' W'
  |r=>r
 |.cond c a b,R,W=>match ax R c with
  |.bool true=>bQ P call top nt a R W
  |.bool false=>bQ P call top nt b R W
  |_=>none
 |.block id b,R,W=>match bQ P call top nt b R W with
  |some (.exit i,R',W')=>if i=id then some (.normal,R',W')else some (.exit i,R',W')
  |r=>r
 |.loop b,R,W=>jP (bQ P call top nt b) 1000000 R W
 |.rangeFunc f ps ats bd,R,W=>
  match top with
  |false=>none
  |true=>match ax R f with
   |.func (.func i) fs cs=>W.new (.loop .ready none R nt ps ats bd) λl W1=>
    match call (.func (.func i) fs cs) [.func (.yield l) #[] #[]] W1 with
    |some (_,W2)=>match W2.get l with
     |some (.loop st mZ _ _ _ _ _)=>(match st with
      |.busy=>none
      |_=>match mZ with
       |none=>some (.normal,R,W2.kill l)
       |some (.exit i)=>some (.exit i,R,W2.kill l)
       |some .ret=>some (.ret,R,W2.kill l)
       |_=>none)
     |_=>none
    |none=>none
   |_=>none
 |.exit id,R,W=>some (.exit id,R,W)
 |.ret,R,W=>some (.ret,R,W)
 |.goto _,_,_=>none
 |.scope _,_,_=>none
 |.refuse _,_,_=>none
def pL(n0:Nat)(σ:cI)(w:am):List dv->Prop
 |[]=>True
 |d::ds=>(∃r,d={target:=.collected r,args:=#[]}/\n0<=r/\w.heap[r]? =some (.deferred (some []))/\(∀b g,σ b=some g->g.B≠r)/\
  ∀d'∈ds,∀r',d'.target=.collected r'->r'≠r)/\pL n0 σ w ds
section
variable {P:ag} {σ σ':cI} {W W':AW} {w w':am} {n0:Nat}
def pL.ext(he:eF σ W w σ' W' w'):∀{ds:List dv},pL n0 σ w ds->pL n0 σ' w' ds:=by
 intro ds;induction ds with
 |nil=>intro _;trivial
 |cons d ds ih=>
  rintro⟨⟨r,h1,h2,h3,h4,h5⟩,Zr⟩;have hr:r<w.heap.size:=(dC.1 h3).1;have hm:¬Mut σ W r:=by rintro⟨b,g,hg,e,_⟩;exact h4 b g hg e
  refine⟨⟨r,h1,h2,(he.keep r hr hm).trans h3,λb g hg e=>?_,h5⟩,ih Zr⟩;rcases he.grow b g hg (by omega)with h|h
  ·exact h4 b g h e
  ·rw[e]at h;exact hm h
def bg.push(h:bg σ W w.heap)(x:Obj)(hx:∀c t fr,x≠ .cells c t fr):bg σ W (w.heap.push x)/\eF σ W w σ W {w with heap:=w.heap.push x}:=by
 have fb:∀B,B<w.heap.size->(w.heap.push x)[B]? =w.heap[B]? :=λB hB=>by rw[sN];rw[bK]
 refine⟨⟨h.free,λb g hg=>?_,λb o g hb hg=>(h.obj b o g hb hg).same (fb _ (h.m8 b g hg).2),h.qK⟩,
  ⟨.refl _,λ_ _ h=>h,by simp,rfl,rfl,rfl,λB hB _=>fb B hB,λ_ _ h k=>⟨h,k⟩,λb g hg _=>.inl hg⟩⟩
 ·have:=h.m8 b g hg;simp;omega
def bg.other(h:bg σ W w.heap){r:Nat}(hr:∀b g,σ b=some g->g.B≠r)(x:Obj):bg σ W (w.heap.setIfInBounds r x):=by
 refine⟨h.free,λb g hg=>?_,λb o g hb hg=>(h.obj b o g hb hg).same ?_,h.qK⟩
 ·have:=h.m8 b g hg;simpa using this
 ·rw[A8 (aV (hr b g hg))]
def GG(ops:Array aj):(List.range ops.size).filterMap (λi=>ops[i]?)=ops.toList:=by
 have h1:(List.range ops.size).filterMap (λi=>ops[i]?)=(List.range ops.size).map λi=>ops.getD i default:=by
  have key:∀l:List Nat,(∀i∈l,i<ops.size)->l.filterMap (λi=>ops[i]?)=l.map λi=>ops.getD i default:=by
   intro l;induction l with
   |nil=>intro _;rfl
   |cons i l ih=>intro h;have hi:i<ops.size:=h i (by simp);simp only[List.filterMap_cons,kg,hZ hi];rw[ih λj hj=>h j (by simp[hj])];simp[hi]
  exact key _ λi hi=>by simpa using hi
 rw[h1];refine vw λi=>?_
 simp only[jH,rY];by_cases hi:i<ops.size
 ·rw[List.getElem?_range hi];simp[hi]
 ·rw[iE (by simpa using hi)];simp[hi]
def acb{ng:List Nat}{nt:Nat}{call:Callee}(hc:bI P ng call){ops:Array aj}(jR:∀(i:Nat) (o:aj),ops[i]? =some o->kY nt ng o=true){ro:Option Nat}{Q:cJ->aU->am->Prop}{Rf:ah.Fr}{Wf:AW}:
 ∀(l:List Nat) (σ:cI) (R:ah.Fr) (W:AW) (a:aU) (w:am),(∀i∈l,i<ops.size)->bg σ W w.heap->wV σ ng->dU nt σ R a.tmps->
  oW P call ops (l.filterMap λi=>ops[i]?) R W=some (Rf,Wf)->
  (∀σ' a' w',dU nt σ' Rf a'.tmps->a'.defers=a.defers->bg σ' Wf w'.heap->eF σ W w σ' Wf w'->Q .normal a' w')->wpOpsIn (FE ro) 0 P ops Q l a w:=by
 intro l;induction l with
 |nil=>intro σ R W a w _ hW hG hR h hQ;injection h with h;injection h with h1 h2;subst h1;subst h2;exact hQ σ a w hR rfl hW (.refl _ _ _)
 |cons i l ih=>
  intro σ R W a w hl hW hG hR h hQ;have hi:i<ops.size:=hl i (by simp);have hg:ops[i]? =some ops[i]:=hZ hi;simp only[List.filterMap_cons,hg,oW]at h;split at h;case h_2=>cases h
  rename_i R' W' hs;have Cb:∀t∈(ops[i]).looksAt ops,VR σ (cL R t) (a.tmps.getD t ak):=λt ht=>hR.2 t (JS jR hg ht)
  have hρ:=sZ hG (jR _ _ hg) Cb;have hwe:=AB Cb;simp only[wpOpsIn,hg,hwe];unfold kw at hs;split at hs
  ·rename_i hw;rw[aq hw];split at hs
   ·rename_i v W1 qQ;injection hs with hs;injection hs with HM zA;subst HM;subst zA;refine H1 hc hW hG qQ hρ λσ' v' w' hv hw' he=>?_
    exact ih σ' _ _ _ w' (λj hj=>hl j (by simp[hj])) hw' (hG.mono he.sub) ((hR.mono he.sub).put _ hv) h
     (λIx a' Ty k1 k2 k3 k4=>hQ Ix a' Ty k1 (by rw[k2,pz]) k3 (he.trans k4))
   ·cases hs
  ·rename_i hw;rw[ap hw];injection hs with hs;injection hs with HM zA;subst HM;subst zA
   exact⟨λf _=>trivial,ih σ _ _ _ w (λj hj=>hl j (by simp[hj])) hW hG (hR.put _ .undef) h
    (λIx a' Ty k1 k2 k3 k4=>hQ Ix a' Ty k1 (by rw[k2,pz]) k3 k4)⟩
end
end
section
variable [ah]
section
variable {P:ag}
def ya{x:X}{R':ah.Fr}{W':AW}{y:Option (ah.Fr×AW)}(h:(y.map λr=>((X.normal,r.1,r.2):X×ah.Fr×AW))=some (x,R',W')):x=.normal/\y=some (R',W'):=by
 cases y with
 |none=>cases h
 |some r=>simp only[cF,gK,Dd]at h;obtain⟨h1,h2,h3⟩:=h;exact⟨h1.symm,by rw[<-h2,<-h3]⟩
def aaL(P:ag)(ng:List Nat)(nt n0:Nat)(ro:Option Nat)(c:bA)(x:X)(R:ah.Fr)(W:AW)(R':ah.Fr)(W':AW):Prop:=
 ∀(σ:cI) (a:aU) (w:am) (Q:cJ->aU->am->Prop),bg σ W w.heap->wV σ ng->dU nt σ R a.tmps->pL n0 σ w a.defers->n0<=w.heap.size->
  (∀σ' a' w',dU nt σ' R' a'.tmps->pL n0 σ' w' a'.defers->bg σ' W' w'.heap->eF σ W w σ' W' w'->Q x.to a' w')->c.wpIn (FE ro) 0 P Q a w
def Py{x:X}(hx:x≠ .normal){N:aU->am->Prop}{Q:cJ->aU->am->Prop}{a:aU}{w:am}(h:Q x.to a w):Exit.then N Q x.to a w:=by
 cases x with
 |normal=>exact absurd rfl hx
 |exit id=>exact h
 |ret=>exact h
def Kk{x:X}{id:Nat}{Q:cJ->aU->am->Prop}{a:aU}{w:am}(h:(match x with|.exit i=>if i=id then Q .normal a w else Q (.exit i) a w|x=>Q x.to a w)):Exit.inBlock id Q x.to a w:=by
 cases x with
 |normal=>exact h
 |exit i=>exact h
 |ret=>exact h
def Wx{ng:List Nat}{nt n0:Nat}{ro:Option Nat}{b:bA}{body:ah.Fr->AW->Option (X×ah.Fr×AW)}(hb:∀x R W R' W',body R W=some (x,R',W')->aaL P ng nt n0 ro b x R W R' W'):
 ∀(m:Nat) (x:X) (R:ah.Fr) (W:AW) (R':ah.Fr) (W':AW),jP body m R W=some (x,R',W')->x≠ .normal/\∀(σ:cI) (a:aU) (w:am) (Q:cJ->aU->am->Prop),bg σ W w.heap->wV σ ng->dU nt σ R a.tmps->pL n0 σ w a.defers->n0<=w.heap.size->
  (∀σ' a' w',dU nt σ' R' a'.tmps->pL n0 σ' w' a'.defers->bg σ' W' w'.heap->eF σ W w σ' W' w'->Q x.to a' w')->Code.roundsIn (FE ro) 0 P b Q m a w:=by
 intro m;induction m with
 |zero=>intro x R W R' W' h;cases h
 |succ m ih=>
  intro x R W R' W' h;unfold jP at h;split at h
  ·rename_i R1 W1 h1;obtain⟨hx,aiZ⟩:=ih x R1 W1 R' W' h;refine⟨hx,λσ a w Q hW hG hR hM hn hQ=>?_⟩;refine hb _ _ _ _ _ h1 σ a w _ hW hG hR hM hn λσ1 a1 w1 k1 k2 k3 k4=>?_
   exact aiZ σ1 a1 w1 Q k3 (hG.mono k4.sub) k1 k2 (eW hn k4.size) λσ2 a2 w2 g1 g2 g3 g4=>hQ σ2 a2 w2 g1 g2 g3 (k4.trans g4)
  ·rename_i ee;have hx:x≠ .normal:=by rintro rfl;exact ee R' W' h
   refine⟨hx,λσ a w Q hW hG hR hM hn hQ=>?_⟩;exact hb _ _ _ _ _ h σ a w _ hW hG hR hM hn λσ1 a1 w1 k1 k2 k3 k4=>Py hx (hQ σ1 a1 w1 k1 k2 k3 k4)
def uQ(hm:P.follows .mixedOrders=true){ng:List Nat}{nt n0:Nat}(Pf:ng=ah.ng){call:Callee}(hc:bI P ng call){top:Bool}{ro:Option Nat}(qg:top=true->ro=none):
 ∀(c:bA),iK nt ng c=true->∀(x:X) (R:ah.Fr) (W:AW) (R':ah.Fr) (W':AW),bQ P call top nt c R W=some (x,R',W')->aaL P ng nt n0 ro c x R W R' W':=by
 intro c;induction c with
 |skip=>intro _ x R W R' W' h σ a w Q hW hG hR hM hn hQ;injection h with h;injection h with h1 h2;injection h2 with h2 h3;subst h1;subst h2;subst h3;exact wpIn_skip (hQ σ a w hR hM hW (.refl _ _ _))
 |label l=>intro _ x R W R' W' h σ a w Q hW hG hR hM hn hQ;injection h with h;injection h with h1 h2;injection h2 with h2 h3;subst h1;subst h2;subst h3;exact wpIn_label (hQ σ a w hR hM hW (.refl _ _ _))
 |exit id=>intro _ x R W R' W' h σ a w Q hW hG hR hM hn hQ;injection h with h;injection h with h1 h2;injection h2 with h2 h3;subst h1;subst h2;subst h3;exact wpIn_exit (hQ σ a w hR hM hW (.refl _ _ _))
 |ret=>intro _ x R W R' W' h σ a w Q hW hG hR hM hn hQ;injection h with h;injection h with h1 h2;injection h2 with h2 h3;subst h1;subst h2;subst h3;exact wpIn_ret (hQ σ a w hR hM hW (.refl _ _ _))
 |goto l=>intro _ x R W R' W' h;cases h
 |scope b _=>intro _ x R W R' W' h;cases h
 |refuse s=>intro _ x R W R' W' h;cases h
 |region id ops Ar=>
  intro jR x R W R' W' h σ a w Q hW hG hR hM hn hQ;simp only[iK,a8,mJ,sG]at jR;have LM:∀(i:Nat) (o:aj),ops[i]? =some o->kY nt ng o=true:=λi o ho=>cw.1 jR.1 o (by have:=Array.mem_of_getElem? ho;simpa using this)
  unfold bQ at h;split at h
  ·obtain⟨hx,hy⟩:=ya h;subst hx;refine wpIn_region (acb hc LM (List.range ops.size) σ R W a w (by simp) hW hG hR (by rw[GG];exact hy) λσ' a' w' k1 k2 k3 k4=>?_);exact hQ σ' a' w' k1 (by rw[k2];exact hM.ext k4) k3 k4
  ·have nQ:Iq ops (UD ops (ah.D id ops))=true:=jR.2.resolve_left (by simp);split at h
   ·rename_i hD;obtain⟨hx,hy⟩:=ya h;subst hx;rw[hD]at nQ;refine L1 hm hc jR.1 nQ hW hG hR (Rf:=R') (Wf:=W') ?_ λσ' a' w' k1 k2 k3 k4=>hQ σ' a' w' k1 (by rw[k2];exact hM.ext k4) k3 k4
    show jU P call ops ((List.range ops.size).map λi=>(i,[])) R W=_;rw[Mz _ _ _ (by simp),GG];exact hy
   ·rename_i pl hD;obtain⟨hx,hy⟩:=ya h;subst hx;rw[hD]at nQ;exact L1 hm hc jR.1 nQ hW hG hR hy λσ' a' w' k1 k2 k3 k4=>hQ σ' a' w' k1 (by rw[k2];exact hM.ext k4) k3 k4
 |seq b c Ml ihc=>
  intro jR x R W R' W' h σ a w Q hW hG hR hM hn hQ;simp only[iK,a8]at jR;unfold bQ at h;split at h
  ·rename_i R1 W1 h1;refine wpIn_seq (Ml jR.1 _ _ _ _ _ h1 σ a w _ hW hG hR hM hn λσ1 a1 w1 k1 k2 k3 k4=>?_);exact ihc jR.2 _ _ _ _ _ h σ1 a1 w1 Q k3 (hG.mono k4.sub) k1 k2 (eW hn k4.size) λσ2 a2 w2 g1 g2 g3 g4=>hQ σ2 a2 w2 g1 g2 g3 (k4.trans g4)
  ·rename_i ee;have hx:x≠ .normal:=by rintro rfl;exact ee R' W' h
   exact wpIn_seq (Ml jR.1 _ _ _ _ _ h σ a w _ hW hG hR hM hn λσ1 a1 w1 k1 k2 k3 k4=>Py hx (hQ σ1 a1 w1 k1 k2 k3 k4))
 |cond o b c Ml ihc=>
  intro jR x R W R' W' h σ a w Q hW hG hR hM hn hQ;simp only[iK,a8]at jR;obtain⟨⟨h1,h2⟩,h3⟩:=jR;have hv:=G1 hR hG h1;unfold bQ at h;split at h
  ·rename_i he;rw[he]at hv;exact wpIn_cond_true hv.io (Ml h2 _ _ _ _ _ h σ a w Q hW hG hR hM hn hQ)
  ·rename_i he;rw[he]at hv;exact wpIn_cond_false hv.io (ihc h3 _ _ _ _ _ h σ a w Q hW hG hR hM hn hQ)
  ·cases h
 |block id b ih=>
  intro jR x R W R' W' h σ a w Q hW hG hR hM hn hQ;simp only[iK]at jR;unfold bQ at h;split at h
  ·rename_i i R1 W1 h1;refine wpIn_block (ih jR _ _ _ _ _ h1 σ a w _ hW hG hR hM hn λσ1 a1 w1 k1 k2 k3 k4=>Kk ?_);simp only;split at h
   ·rename_i hi;injection h with h;injection h with e1 e2;injection e2 with e2 e3;subst e1;subst e2;subst e3;rw[aq hi];exact hQ σ1 a1 w1 k1 k2 k3 k4
   ·rename_i hi;injection h with h;injection h with e1 e2;injection e2 with e2 e3;subst e1;subst e2;subst e3;rw[ap hi];exact hQ σ1 a1 w1 k1 k2 k3 k4
  ·rename_i ee;refine wpIn_block (ih jR _ _ _ _ _ h σ a w _ hW hG hR hM hn λσ1 a1 w1 k1 k2 k3 k4=>Kk ?_);cases x with
   |normal=>exact hQ σ1 a1 w1 k1 k2 k3 k4
   |exit i=>exact absurd h (ee i R' W')
   |ret=>exact hQ σ1 a1 w1 k1 k2 k3 k4
 |loop b ih=>intro jR x R W R' W' h σ a w Q hW hG hR hM hn hQ;simp only[iK]at jR;unfold bQ at h;exact wpIn_loop_rounds _ ((Wx (λx R W R' W' hh=>ih jR x R W R' W' hh) _ x R W R' W' h).2 σ a w Q hW hG hR hM hn hQ)
 |rangeFunc f ps ats bd _ _=>
  intro jR x R W R' W' h σ a w Q hW hG hR hM hn hQ;simp only[iK,a8]at jR;obtain⟨⟨⟨h1,h2⟩,h3⟩,h4⟩:=jR;unfold bQ at h;split at h
  ·cases h
  have KS:ro=none:=qg rfl;subst KS;split at h;case h_2=>cases h
  rename_i i0 fs0 cs0 hf0;rw[AW.dm]at h;split at h;case h_2=>cases h
  rename_i u W2 afA;split at h;case h_2=>cases h
  rename_i st mZ R9 OJ Ps PT Pe di;obtain⟨p1,p2⟩:=hW.push (.deferred (some [])) (λ_ _ _ e=>by cases e);let w0:am:={w with heap:=w.heap.push (.deferred (some []))};let HU:Nat->Loop:=λfn=>{state:=.ready,pending:=none,fn,tmps:=a.tmps,params:=ps,assign:=ats,body:=bd,defers:=w.heap.size}
  refine wpIn_rangeFunc λfn _=>?_
  have K5:Sub σ (bP σ W.next ⟨w0.heap.size,0,1⟩):=dd hW.fresh;obtain⟨q1,q2⟩:=bg.alloc (w:=w0) p1 (o:=.loop .ready none R nt ps ats bd) (x:=.loop (HU fn)) (e:=1)
   ⟨rfl,rfl,HU fn,by simp,rfl,rfl,hR.mono K5,rfl,rfl,rfl,⟨by rw[<-Pf];exact hG.mono K5,by rw[<-Pf];exact h3⟩,⟨by rw[<-Pf];exact hG.mono K5,by rw[<-Pf];exact h4⟩,h2⟩
  have hfv:=(G1 hR hG h1).mono K5;rw[hf0]at hfv;have cq:LR (bP σ W.next ⟨w0.heap.size,0,1⟩) [.func (.yield W.next) #[] #[]] [.func (.yield w0.heap.size) #[] #[]]:=
   .cons (.func _ _ _ _ _ _ (.yield _ _ cZ) rfl (λi v v' x=>by simp at x) rfl (λi v v' x=>by simp at x)) .nil
  have hcv:=hc _ _ _ _ _ afA _ {w0 with heap:=w0.heap.push (.loop (HU fn))} _ _ q1 (hG.mono K5) hfv cq;have ak1:w0.heap.size=w.heap.size+1:=by simp[w0]
  have abv:pL n0 (bP σ W.next ⟨w0.heap.size,0,1⟩) {w0 with heap:=w0.heap.push (.loop (HU fn))} ([{target:=.collected w.heap.size,args:=#[]}]++a.defers):=by
   refine⟨⟨w.heap.size,rfl,hn,?_,?_,?_⟩,(hM.ext p2).ext q2⟩
   ·show(w0.heap.push _)[w.heap.size]? =_;rw[sN,bK];simp[w0]
   ·intro b g hg e;unfold bP at hg;split at hg
    ·injection hg with hg;subst hg;simp at e;omega
    ·have:=(hW.m8 b g hg).2;omega
   ·intro d' iA r' ht e;have:∀{ds:List dv},pL n0 σ w ds->∀d'∈ds,∀r',d'.target=.collected r'->r'<w.heap.size:=by
     intro ds;induction ds with
     |nil=>intro _ d' iA;cases iA
     |cons d ds ih=>
      rintro⟨⟨r,e1,e2,e3,_⟩,Zr⟩ d' iA r' ht;rcases dD.1 iA with rfl|iA
      ·rw[e1]at ht;injection ht with ht;subst ht;exact(dC.1 e3).1
      ·exact ih Zr d' iA r' ht
    have:=this hM d' iA r' ht;omega
  unfold xD at hcv;split at hcv;case h_3=>exact hcv.elim
  ·rename_i fv i fs cs xf;obtain⟨c1,c2⟩:=hcv;refine⟨w0.heap.size,[{target:=.collected w.heap.size,args:=#[]}],{w0 with heap:=w0.heap.push (.loop (HU fn))},{target:=.fn (.func i) cs,args:=fs++#[.func (.yield w0.heap.size) #[] #[]]},{w0 with heap:=w0.heap.push (.loop (HU fn))},i,fs++#[.func (.yield w0.heap.size) #[] #[]]++cs,{w0 with heap:=w0.heap.push (.loop (HU fn))},?_,?_,λ_ _=>trivial,?_,λhd=>by rw[DP]at hd;simp at hd,?_⟩
   ·show(Instr.enterLoop fn a.tmps ps ats bd none).run P w=_;rw[run_enterLoop_outer,ak1];rfl
   ·show(resolve a.eval (rangeCall f w0.heap.size) 0).run P _=.ok _ {w0 with heap:=w0.heap.push (.loop (HU fn))};have:a.eval f=.func (.func i) fs cs:=xf;have anL:a.eval (.const (.func (.yield w0.heap.size) #[] #[]))=.func (.yield w0.heap.size) #[] #[]:=rfl;simp[resolve,this,Deferred.ofValue,anL]
   ·show(invoke (.fn (.func i) cs) (fs++#[.func (.yield w0.heap.size) #[] #[]])).run P _=_;have c1':(callFunc i (fs++#[.func (.yield w0.heap.size) #[] #[]]++cs)).run P {w0 with heap:=w0.heap.push (.loop (HU fn))}=_:=c1;simpa[invoke]using c1'
   ·refine lL (EC c2) ?_;rintro e w' ⟨v',rfl,σ',k1,k2,k3⟩;obtain⟨hz,ZO⟩:σ' W.next=some ⟨w0.heap.size,0,1⟩/\True:=⟨k3.sub _ _ cZ,ao⟩;obtain⟨_,_,r,r1,r2,r3,r4,r5,r6,r7,r8,r9,sr⟩:=k2.obj _ _ _ di hz;have alS:st≠ .busy:=by rintro rfl;simp at h
    have amr:=run_endLoop (P:=P) r1 (by rw[r2];exact alS);obtain⟨s1,s2⟩:=k2.setObj (w:=w') (o':=.loop .exhausted mZ R9 OJ Ps PT Pe) (x:=.loop {r with state:=.exhausted}) di (λ_=>by simp) hz ⟨rfl,rfl⟩ (λc t fr e=>by rw[r1]at e;cases e)
     ⟨rfl,rfl,{r with state:=.exhausted},by simp[(k2.m8 _ _ hz).2],rfl,r3,r4,r5,r6,r7,r8,r9,sr⟩
    obtain⟨t1,t2⟩:=bg.kill (w:={w' with heap:=w'.heap.setIfInBounds w0.heap.size (.loop {r with state:=.exhausted})}) s1 (b:=W.next) (g0:=⟨w0.heap.size,0,1⟩) (λcs=>by rw[AW.aW];simp) hz;have afT:(W2.put W.next (.loop .exhausted mZ R9 OJ Ps PT Pe)).kill W.next=W2.kill W.next:=by simp only[AW.kill,AW.put];congr 1;exact T.set_set _ _ _ _
    rw[afT]at t1 t2;have KU:eF σ W w σ' (W2.kill W.next) {w' with heap:=w'.heap.setIfInBounds w0.heap.size (.loop {r with state:=.exhausted})}:=
     (((p2.trans q2).trans k3).trans s2).trans t2
    have adC:pL n0 σ' {w' with heap:=w'.heap.setIfInBounds w0.heap.size (.loop {r with state:=.exhausted})} ([{target:=.collected w.heap.size,args:=#[]}]++a.defers):=
     ((abv.ext k3).ext s2).ext t2
    refine⟨mZ,{w' with heap:=w'.heap.setIfInBounds w0.heap.size (.loop {r with state:=.exhausted})},by rw[amr,r3];rfl,?_⟩;have pE:∀x',x=x'->R'=R->W'=W2.kill W.next->Q x'.to {a with defers:=[{target:=.collected w.heap.size,args:=#[]}]++a.defers} {w' with heap:=w'.heap.setIfInBounds w0.heap.size (.loop {r with state:=.exhausted})}:=by rintro x' rfl rfl rfl;exact hQ σ' _ _ (hR.mono KU.sub) adC t1 KU
    cases mZ with
    |none=>
     have:x=.normal/\R'=R/\W'=W2.kill W.next:=by cases st<;>simp at h<;>simp_all
     exact pE .normal this.1 this.2.1 this.2.2
    |some cc=>
     cases cc<;>first
      |(exfalso;cases st<;>simp at h;done)
      |skip
     ·rename_i id;have:x=.exit id/\R'=R/\W'=W2.kill W.next:=by cases st<;>simp at h<;>simp_all
      exact wpIn_exit (pE (.exit id) this.1 this.2.1 this.2.2)
     ·have:x=.ret/\R'=R/\W'=W2.kill W.next:=by cases st<;>simp at h<;>simp_all
      exact wpIn_ret (pE .ret this.1 this.2.1 this.2.2)
  ·rename_i fv l fs cs xf;exfalso;obtain⟨FA,tH,ck,k1,_,_,k4⟩:=hfv.jO;cases k1;rw[xf]at k4;cases k4
end
end
section
variable [ah]
def cR:Nat->List ad->ah.Fr->ah.Fr
 |_,[],R=>R
 |k,v::l,R=>cR (k+1) l (Lv R k v)
def kD:List Tmp->List ad->ah.Fr->ah.Fr
 |t::ts,v::l,R=>kD ts l (Lv R t v)
 |_,_,R=>R
def FX(P:ag)(W:AW)(R:ah.Fr):List ResultVar->Option (List ad)
 |[]=>some []
 |.tmp t::l=>match FX P W R l with
  |some vs=>some (cL R t::vs)
  |none=>none
 |.cell a t::l=>match ju P W t (cL R a)with
  |some v=>match FX P W R l with
   |some vs=>some (v::vs)
   |none=>none
  |none=>none
def rf(P:ag)(W:AW)(R:ah.Fr)(rs:Array ResultVar):Option ad:=
 match FX P W R rs.toList with
 |some [v]=>some v
 |some vs=>some (.tuple vs.toArray)
 |none=>none
def GJ(nt:Nat):ResultVar->Bool
 |.tmp t=>Nat.blt t nt
 |.cell a _=>Nat.blt a nt
def Pp(ng:List Nat)(fn:eO):Bool:=
 match fn.body with
 |some c=>iK fn.ntmps ng c&&fn.results.toList.all (GJ fn.ntmps)&& !(fn.name== "runtime.NumGoroutine")
 |none=>true
def km(ng:List Nat)(bad:List Nat):Nat->List eO->Bool
 |_,[]=>true
 |i,fn::l=>(Jw i bad||Pp ng fn)&&km ng bad (i+1) l
def kG(P:ag)(bad:List Nat)(spec call:Callee):Callee:=λf args W=>
 match f with
 |.func (.func i) fs cs=>match Jw i bad with
  |true=>spec (.func (.func i) fs cs) args W
  |false=>match P.funcs[i]? with
   |some fn=>match fn.body with
    |some c=>match Nat.ble (fs.toList.length+(args.length+cs.toList.length)) fn.ntmps with
     |true=>match bQ P call true fn.ntmps c (cR 0 (fs.toList++(args++cs.toList)) ah.blank) W with
      |some (x,R,W')=>match x with
       |.exit _=>none
       |_=>match rf P W' R fn.results with
        |some v=>some (v,W')
        |none=>none
      |none=>none
     |false=>none
    |none=>none
   |none=>none
 |.func (.yield l) fs _=>match W.get l with
  |some (.loop .ready none R nt ps ats bd)=>match Nat.beq (fs.toList.length+args.length) ps.size with
   |true=>match bQ P call false nt ats (kD ps.toList (fs.toList++args) R) W with
    |some (.normal,R1,W1)=>match W1.get l with
     |some (.loop .ready WN R9 OJ Ps PT Pe)=>match bQ P call false nt bd R1 (W1.put l (.loop .busy WN R9 OJ Ps PT Pe))with
      |some (x,_,W2)=>match W2.get l with
       |some (.loop _ _ R8 X7 Y2 Yg XZ)=>match x with
        |.normal=>some (.bool true,W2.put l (.loop .ready none R8 X7 Y2 Yg XZ))
        |x=>some (.bool false,W2.put l (.loop .done x.jump R8 X7 Y2 Yg XZ))
       |_=>none
      |none=>none
     |_=>none
    |_=>none
   |false=>none
  |_=>none
 |_=>none
def Mu(P:ag)(bad:List Nat)(spec:Callee):Nat->Callee
 |0=>λ_ _ _=>none
 |n+1=>kG P bad spec (Mu P bad spec n)
def MA{ng:List Nat}{bad:List Nat}:∀(l:List eO) (k:Nat),km ng bad k l=true->∀(i:Nat) (fn:eO),l[i]? =some fn->Jw (k+i) bad=false->Pp ng fn=true:=by
 intro l;induction l with
 |nil=>intro k _ i fn h;simp at h
 |cons f l ih=>
  intro k h i fn hi hb;simp only[km,a8,mJ]at h;cases i with
  |zero=>
   simp at hi;subst hi;rcases h.1 with h1|h1
   ·simp at hb;rw[h1]at hb;cases hb
   ·exact h1
  |succ i=>simp at hi;exact ih (k+1) h.2 i fn hi (by rw[<-hb];congr 1;omega)
def YO(t:Nat):cL ah.blank t=ak:=ah.Aw t
def Rk:∀(l:List ad) (k:Nat) (R:ah.Fr) (t:Nat),cL (cR k l R) t=if k<=t/\t<k+l.length then l.getD (t-k) ak else cL R t:=by
 intro l;induction l with
 |nil=>intro k R t;simp[cR];intro h1 h2;omega
 |cons v l ih=>
  intro k R t;simp only[cR,ih,cG];by_cases h:k=t
  ·subst h;rw[bK,kE,wx];simp
  ·rw[sT _ _ h];by_cases h2:k+1<=t/\t<k+1+l.length
   ·rw[aq h2,kE];obtain⟨j,hj⟩:∃j,t-k=j+1:=⟨t-k-1,by omega⟩;have:t-(k+1)=j:=by omega
    rw[this,hj];simp
   ·rw[ap h2,bK]
section
variable {P:ag} {σ:cI} {W:AW} {w:am}
def Tr{nt:Nat}{l:List ad}{a:Array ad}(h:LR σ l a.toList)(hn:l.length<=nt):dU nt σ (cR 0 l ah.blank) (a++Array.replicate (nt-a.size) ak):=by
 have eG:l.length=a.size:=by have:=h.1;simpa using this
 refine⟨by simp;omega,λt ht=>?_⟩;rw[Rk];by_cases kW:t<l.length
 ·rw[kE];have h1:l[t]? =some l[t]:=bS kW;obtain⟨v',e,hv⟩:=h.get h1;have e1:l.getD (t-0) ak=l[t]:=by simp[kW]
  have e2:(a++Array.replicate (nt-a.size) ak).getD t ak=v':=by
   rw[rY]at e;have:t<a.size:=by omega
   simp[zJ,this];rw[hZ this]at e;injection e
  rw[e1,e2];exact hv
 ·rw[bK,YO];have e2:(a++Array.replicate (nt-a.size) ak).getD t ak=ak:=by simp only[vt,zJ];rw[bK];simp[Array.getElem?_replicate];split<;>rfl
  rw[e2];exact .undef
def ZR{nt:Nat}:∀(ts:List Tmp) (l l':List ad) (R:ah.Fr) (tm:Array ad),LR σ l l'->ts.all (λt=>Nat.blt t nt)=true->dU nt σ R tm->
 dU nt σ (kD ts l R) ((ts.zip l').foldl (λtmps (x:Tmp×ad)=>tmps.setIfInBounds x.1 x.2) tm):=by
 intro ts;induction ts with
 |nil=>intro l l' R tm h _ hR;cases l<;>exact hR
 |cons t ts ih=>
  intro l l' R tm h ha hR;cases l with
  |nil=>have:=h.of_nil;subst this;exact hR
  |cons v l=>obtain⟨v',Xo,rfl,hv,hl⟩:=h.of_cons;simp only[eK,a8]at ha;exact ih l Xo _ _ hl ha.2 (hR.set t hv)
def Lj(hW:bg σ W w.heap){t:ae}{x x' v:ad}(h:ju P W t x=some v)(hx:VR σ x x'):
 ∃v',(do loadVar t (<-asAddr x'):Sem ad).run P w=.ok v' w/\VR σ v v':=by
 obtain⟨v',h1,h2⟩:=Hb hW h hx;refine⟨v',?_,h2⟩;rw[<-h1];unfold ju at h;split at h
 ·obtain⟨g,hg,hs,rfl⟩:=hx.tn;simp[asAddr,Instr.loadAt,Instr.sureAddr]
 ·cases h
def Jc(tmps:Array ad)(r:ResultVar):Sem ad:=
 match r with
 |.tmp t=>pure (tmps.getD t ak)
 |.cell a t=>do loadVar t (<-asAddr (tmps.getD a ak))
def Ox(fn:eO)(tmps:Array ad):results fn tmps=(do let vs<-fn.results.mapM (Jc tmps);pure (if h:vs.size=1 then vs[0]else .tuple vs)):=rfl
def T2(hW:bg σ W w.heap){nt:Nat}{R:ah.Fr}{tmps:Array ad}(hR:dU nt σ R tmps):∀(rs:List ResultVar) (vs:List ad),rs.all (GJ nt)=true->FX P W R rs=some vs->
 ∃EG,LR σ vs EG/\(rs.mapM (Jc tmps)).run P w=.ok EG w:=by
 intro rs;induction rs with
 |nil=>intro vs _ h;injection h with h;subst h;exact⟨[],.nil,by simp⟩
 |cons r rs ih=>
  intro vs jR h;simp only[eK,a8]at jR;cases r with
  |tmp t=>
   unfold FX at h;split at h
   ·rename_i vs0 h0;injection h with h;subst h;obtain⟨EG,k1,k2⟩:=ih vs0 jR.2 h0;refine⟨_,.cons (hR.2 t (by simpa[GJ,ic]using jR.1)) k1,?_⟩;have h1:(Jc tmps (.tmp t)).run P w=.ok (tmps.getD t ak) w:=rfl;rw[List.mapM_cons,b9,h1,bX,b9,k2,bX];rfl
   ·cases h
  |cell a t=>
   unfold FX at h;split at h
   ·rename_i v hv;split at h
    ·rename_i vs0 h0;injection h with h;subst h;obtain⟨EG,k1,k2⟩:=ih vs0 jR.2 h0;obtain⟨v',k3,k4⟩:=Lj hW hv (hR.2 a (by simpa[GJ,ic]using jR.1));refine⟨_,.cons k4 k1,?_⟩;have h1:(Jc tmps (.cell a t)).run P w=.ok v' w:=k3;rw[List.mapM_cons,b9,h1,bX,b9,k2,bX];rfl
    ·cases h
   ·cases h
def HQ(hW:bg σ W w.heap){fn:eO}{R:ah.Fr}{tmps:Array ad}{v:ad}(jR:fn.results.toList.all (GJ fn.ntmps)=true)(hR:dU fn.ntmps σ R tmps)(h:rf P W R fn.results=some v):
 ∃v',(results fn tmps).run P w=.ok v' w/\VR σ v v':=by
 unfold rf at h;have key:∀vs,FX P W R fn.results.toList=some vs->∃EG,LR σ vs EG/\(results fn tmps).run P w=.ok (if h:EG.toArray.size=1 then EG.toArray[0]else .tuple EG.toArray) w:=by intro vs hvs;obtain⟨EG,k1,k2⟩:=T2 hW hR _ _ jR hvs;refine⟨EG,k1,?_⟩;rw[Ox,b9,Array.mapM_eq_mapM_toList,Sem.run_map,k2];rfl
 split at h
 ·rename_i u hu;injection h with h;subst h;obtain⟨EG,k1,k2⟩:=key _ hu;obtain⟨v',l',rfl,k3,k4⟩:=k1.of_cons;have:=k4.of_nil;subst this;exact⟨v',by rw[k2];simp,k3⟩
 ·rename_i vs ee hvs;injection h with h;subst h;obtain⟨EG,k1,k2⟩:=key _ hvs;refine⟨.tuple EG.toArray,?_,VR.tuple' (by simpa using k1)⟩;rw[k2];have:EG.toArray.size≠1:=by
   intro e;have e2:vs.length=1:=by have:=k1.1;simp at e;omega
   match vs,e2 with
   |[u],_=>exact ee u rfl
  rw[dif_neg this]
 ·cases h
end
section
variable {P:ag} {σ σ0:cI} {W W0:AW} {w w0:am}
def eF.other(he:eF σ0 W0 w0 σ W w){r:Nat}(hr:w0.heap.size<=r){x y:Obj}(hy:w.heap[r]? =some y)(hx:∀c t fr,x≠ .cells c t fr)(hy':∀c t fr,y≠ .cells c t fr):eF σ0 W0 w0 σ W (w.putObj r x):=
 ⟨he.sub,he.ro,by simpa[World.putObj]using he.size,he.os,he.tape,he.output,λB hB hm=>by rw[World.putObj_heap_other (by omega)];exact he.keep B hB hm,he.ghost,he.grow⟩
def ab1{fn:eO}{R:ah.Fr}{tmps:Array ad}{v:ad}(jR:fn.results.toList.all (GJ fn.ntmps)=true)(hR:dU fn.ntmps σ R tmps)(h:rf P W R fn.results=some v):
 ∀(ds:List dv) (w:am),pL w0.heap.size σ w ds->bg σ W w.heap->eF σ0 W0 w0 σ W w->
  LeavesInM (FE none) 0 P fn tmps (λe w'=>∃v',e=.returned v'/\∃σ',VR σ' v v'/\bg σ' W w'.heap/\eF σ0 W0 w0 σ' W w') ds .returning w:=by
 intro ds;induction ds with
 |nil=>intro w _ hW he;obtain⟨v',k1,k2⟩:=HQ hW jR hR h;exact⟨v',k1,v',rfl,σ,k2,hW,he⟩
 |cons d ds ih=>
  rintro w ⟨⟨r,e1,e2,e3,e4,e5⟩,Zr⟩ hW he;refine⟨by simp,.inl ⟨r,w.putObj r (.deferred none),by rw[e1],run_takeDeferred e3,ih _ ?_ (hW.other e4 _) (he.other e2 e3 (λ_ _ _ e=>by cases e) (λ_ _ _ e=>by cases e))⟩⟩;have:∀{ds:List dv},(∀d'∈ds,∀r',d'.target=.collected r'->r'≠r)->pL w0.heap.size σ w ds->pL w0.heap.size σ (w.putObj r (.deferred none)) ds:=by
   intro ds;induction ds with
   |nil=>intro _ _;trivial
   |cons d ds ih=>rintro ee ⟨⟨r',a1,a2,a3,a4,a5⟩,Zr⟩;exact⟨⟨r',a1,a2,by rw[World.putObj_heap_other (ee d (by simp) r' (by rw[a1]))];exact a3,a4,a5⟩,ih (λd' iA=>ee d' (by simp[iA])) Zr⟩
  exact this e5 Zr
end
end
section
variable [ah]
def MH(l:Nat):(FE none).inRound l=FE (some l):=rfl
def dK{P:ag}{f:gE}{fn:eO}{c:bA}(hf:P.funcs[f]? =some fn)(mY:(fn.name== "runtime.NumGoroutine")=false)(hb:fn.body=some c)(args:Array ad)(w:am):
 (callFunc f args).run P w=.ok (.enter f args) w:=by
 have h1:fn.name≠ "runtime.NumGoroutine" :=by simpa using mY
 simp[callFunc,hf,h1,hb]
def BT{P:ag}(hm:P.follows .mixedOrders=true){ng:List Nat}(Pf:ng=ah.ng){bad:List Nat}(hP:km ng bad 0 P.funcs.toList=true){spec:Callee}(hs:bI P ng spec){call:Callee}(ih:bI P ng call):
 bI P ng (kG P bad spec call):=by
 intro f args W v W' h σ w f' cu hW hG hf cq
 unfold kG at h
 split at h
 ·
  rename_i i fs cs;split at h
  ·exact hs _ _ _ _ _ h σ w f' cu hW hG hf cq
  rename_i Gb;split at h;case h_2=>cases h
  rename_i fn Gj;split at h;case h_2=>cases h
  rename_i c SU;split at h;case h_2=>cases h
  rename_i eG;split at h;case h_2=>cases h
  rename_i x R W1 afs;have Zp:Pp ng fn=true:=MA _ _ hP i fn (by rw[rY];exact Gj) (by simpa using Gb);unfold Pp at Zp;rw[SU]at Zp;simp only[a8,sG]at Zp;obtain⟨⟨hco,anb⟩,mY⟩:=Zp;obtain⟨FA,tH,ck,Ap,Rj,pS,rfl⟩:=hf.jO;cases Ap;have hx:(∀id,x≠ .exit id)/\∃v0,rf P W1 R fn.results=some v0/\v0=v/\W1=W':=by
   cases x with
   |exit id=>cases h
   |normal=>
    refine⟨λid e=>X.noConfusion e,?_⟩;simp only at h;split at h
    ·rename_i v0 Q2;injection h with h;injection h with h1 h2;exact⟨v0,Q2,h1,h2⟩
    ·cases h
   |ret=>
    refine⟨λid e=>X.noConfusion e,?_⟩;simp only at h;split at h
    ·rename_i v0 Q2;injection h with h;injection h with h1 h2;exact⟨v0,Q2,h1,h2⟩
    ·cases h
  obtain⟨hxe,v0,Q2,rfl,rfl⟩:=hx;have tY:LR σ (fs.toList++(args++cs.toList)) (tH++cu.toArray++ck).toList:=by have h1:=(Rj.append (cq.append pS));simpa[mA]using h1
  have aih:(fs.toList++(args++cs.toList)).length<=fn.ntmps:=by have:=Nat.le_of_ble_eq_true eG;simpa using this
  refine⟨dK Gj mY SU _ w,?_⟩;refine callsIn_of_wp_marks Gj SU trivial ?_;refine uQ hm Pf ih (n0:=w.heap.size) (λ_=>rfl) c hco x _ _ _ _ afs σ _ w _ hW hG (Tr tY aih) trivial (aM _) λσ' a' w' k1 k2 k3 k4=>?_
  have hl:=ab1 anb k1 Q2 a'.defers w' k2 k3 k4;cases x with
  |exit id=>exact absurd rfl (hxe id)
  |normal=>exact hl
  |ret=>exact hl
 ·
  rename_i l fs cs;split at h;case h_2=>cases h
  rename_i R nt ps ats bd di;split at h;case h_2=>cases h
  rename_i eG;split at h;case h_2=>cases h
  rename_i R1 W1 adF;split at h;case h_2=>cases h
  rename_i WN R9 OJ Ps PT Pe abk;split at h;case h_2=>cases h
  rename_i x R2 W2 abI;split at h;case h_2=>cases h
  rename_i st8 pd8 R8 X7 Y2 Yg XZ aaT;obtain⟨FA,tH,ck,Ap,Rj,pS,rfl⟩:=hf.jO;cases Ap with
  |yield _ g hg=>
  obtain⟨g1,g2,r,r1,r2,r3,r4,r5,r6,r7,⟨hG1,Xs⟩,⟨hG2,RN⟩,hps⟩:=hW.obj _ _ _ di hg;have tY:LR σ (fs.toList++args) (tH++cu.toArray).toList:=by have h1:=Rj.append cq;simpa using h1
  have qY:(tH++cu.toArray).size=r.params.size:=by have h1:=tY.1;have h2:fs.toList.length+args.length=ps.size:=wh eG;rw[cT,h2,Array.length_toList]at h1;rw[r5];exact h1.symm
  refine⟨r.fn,_,r.assign,r.body,run_yield r1 qY,?_⟩;rw[r6,r7];refine roundIn_of_wpIn trivial ?_;have hR0:dU nt σ (kD ps.toList (fs.toList++args) R) ((r.params.zip (tH++cu.toArray)).foldl (λtmps (x:Tmp×ad)=>tmps.setIfInBounds x.1 x.2) r.tmps):=by have:=ZR ps.toList _ _ R r.tmps tY hps r4;rw[r5,<-Array.foldl_toList,Array.toList_zip];exact this
  rw[<-Pf]at Xs RN;rw[MH];refine uQ hm Pf ih (n0:=w.heap.size) (ro:=some g.B) (λe=>by cases e) ats Xs .normal _ _ _ _ adF σ _ w _ hW hG hR0 trivial (aM _) λσ1 a1 w1 k1 k2 k3 k4=>?_
  have hg1:σ1 l=some g:=k4.sub _ _ hg;obtain⟨_,_,rr,q1,q2,q3,q4,q5,q6,q7,q8,q9,Wa⟩:=k3.obj _ _ _ abk hg1;have ag4:g.s=0/\g.e=1:=⟨g1,g2⟩;obtain⟨s1,s2⟩:=k3.setObj (w:=w1) (o':=.loop .busy WN R9 OJ Ps PT Pe) (x:=.loop {rr with state:=.busy}) abk (λ_=>by simp) hg1 ag4 (λc t fr e=>by rw[q1]at e;cases e)
   ⟨g1,g2,{rr with state:=.busy},by simp[(k3.m8 _ _ hg1).2],rfl,q3,q4,q5,q6,q7,q8,q9,Wa⟩
  refine⟨_,run_beginRound q1 q2,?_⟩;refine uQ hm Pf ih (n0:=w.heap.size) (ro:=some g.B) (λe=>by cases e) bd RN x _ _ _ _ abI σ1 a1 (w1.putObj g.B (.loop {rr with state:=.busy})) _ s1 (hG.mono k4.sub) k1 (k2.ext s2) (by have:=k4.size;simpa using this) λσ2 a2 w2 _ _ t3 t4=>?_
  have tL:σ2 l=some g:=t4.sub _ _ hg1;obtain⟨_,_,r8,u1,u2,u3,u4,u5,u6,u7,u8,u9,u10⟩:=t3.obj _ _ _ aaT tL;have pE:∀(jump:Option bA) (st':LoopState),st'=(if jump.isNone then .ready else .done)->v=.bool jump.isNone->W'=W2.put l (.loop st' jump R8 X7 Y2 Yg XZ)->
   ∃v' w',(Instr.endRound g.B jump).run P w2=.ok v' w'/\∃v'',Ending.returned v'=.returned v''/\∃σ',VR σ' v v''/\bg σ' W' w'.heap/\eF σ W w σ' W' w':=by
   intro jump st' uk hv hW';subst uk;subst hv;subst hW';obtain⟨z1,z2⟩:=t3.setObj (w:=w2) (o':=.loop (if jump.isNone then .ready else .done) jump R8 X7 Y2 Yg XZ) (x:=.loop {r8 with state:=if jump.isNone then .ready else .done,pending:=jump}) aaT (λ_=>by simp) tL ag4 (λc t fr e=>by rw[u1]at e;cases e)
    ⟨g1,g2,{r8 with state:=if jump.isNone then .ready else .done,pending:=jump},by simp[(t3.m8 _ _ tL).2],rfl,rfl,u4,u5,u6,u7,u8,u9,u10⟩
   exact⟨_,_,run_endRound jump u1,_,rfl,σ2,.bool _,z1,((k4.trans s2).trans t4).trans z2⟩
  cases x with
  |normal=>simp only at h;injection h with h;injection h with h1 h2;exact pE none .ready rfl h1.symm h2.symm
  |exit id=>simp only at h;injection h with h;injection h with h1 h2;exact pE (some (.exit id)) .done rfl h1.symm h2.symm
  |ret=>simp only at h;injection h with h;injection h with h1 h2;exact pE (some .ret) .done rfl h1.symm h2.symm
 ·cases h
def Hl{P:ag}(hm:P.follows .mixedOrders=true){ng:List Nat}(Pf:ng=ah.ng){bad:List Nat}(hP:km ng bad 0 P.funcs.toList=true){spec:Callee}(hs:bI P ng spec):
 ∀n,bI P ng (Mu P bad spec n)
 |0=>λf args W v W' h=>by cases h
 |n+1=>BT hm Pf hP hs (Hl hm Pf hP hs n)
end
section
variable [ah]
def mo(P:ag)(ok:Bool)(s:Sem Next):Option ad:=
 if ok then match yL (bW P s)with
  |some v=>if bC v then some v else none
  |none=>none
 else none
def gy(v:ad)(W:AW):Option (ad×AW):=some (v,W)
def pj(c a b:ad)(W:AW):Option (ad×AW):=match c with
 |.bool true=>some (a,W)
 |.bool false=>some (b,W)
 |_=>none
def cl(P:ag)(t:ae)(W:AW):Option (ad×AW):=match iM P t with
 |some z=>some (.pointer (some ⟨W.next,0,none⟩),W.add (nC t z.cells.toList))
 |none=>none
def nG(x:ad)(W:AW):Option (ad×AW):=some (.pointer (some ⟨W.next,0,none⟩),W.add (.cells x.cells.toList))
def ac4(P:ag)(t:ae)(vs:List (Nat×ad)):Option ad:=
 match iM P t,P.underlying t with
 |some z,some (.struct fs)=>match rI P fs.toList with
  |some pl=>(BY (pl.toArray[·]?) z.cells vs).map .agg
  |none=>none
 |some z,some (.array _ e)=>match kQ P e with
  |some n=>(BY (λi=>some (i*n,n)) z.cells vs).map .agg
  |none=>none
 |_,_=>none
def dX(P:ag)(t:ae)(vs:List (Nat×ad))(W:AW):Option (ad×AW):=(ac4 P t vs).map λv=>(v,W)
def dA(P:ag)(t:ae)(len:Nat)(vs:List (Nat×ad))(W:AW):Option (ad×AW):=
 match P.underlying t with
 |some (.slice e)=>match kQ P e,iM P e with
  |some n,some z=>
   if len*n<=16777216/\len<dY/\(Nat.beq z.cells.size n&&z.cells.toList.all bZ)=true then
    match BY (λi=>some (i*n,n)) (tZ z.cells.toList len).toArray vs with
    |some c=>some (Value.slice (some ⟨W.next,0,none⟩) len len,W.add (.cells c.toList))
    |none=>none
   else none
  |_,_=>none
 |_=>none
def fR(P:ag)(t:ae)(a:ad)(W:AW):Option (ad×AW):=(ju P W t a).map λv=>(v,W)
def Bq(W:AW)(b off:Nat)(vs:List ad):Option AW:=match W.get b with
 |some (.cells cs)=>(match El cs off vs with
  |some l=>some (W.put b (.cells l))
  |none=>none)
 |_=>none
def Fu(W:AW)(b off:Nat)(vs:List ad):Bq W b off vs=match W.get b with
 |some (.cells cs)=>if off+vs.length<=cs.length/\vs.all one=true then some (W.put b (.cells (fN cs off vs)))else none
 |_=>none:=by
 unfold Bq;split
 ·rename_i cs pS;rw[Ax];by_cases h:off+vs.length<=cs.length/\vs.all one=true
  ·rw[aq h,aq h]
  ·rw[ap h,ap h]
 ·rfl
def Sb{W W':AW}{b off:Nat}{vs:List ad}(h:Bq W b off vs=some W'):nI W b off vs=some W':=by
 unfold Bq at h;unfold nI;split at h
 ·rename_i cs pS;rw[pS];exact h
 ·cases h
def zf(P:ag)(W:AW)(t:ae)(x v:ad):Option AW:=
 match x with
 |.pointer (some a)=>match kQ P t with
  |some n=>if v.cells.size=n then Bq W a.block a.off v.cells.toList else none
  |none=>none
 |_=>none
def MZ{P:ag}{W W':AW}{t:ae}{x v:ad}(h:zf P W t x v=some W'):xI P W t x v=some W':=by
 unfold zf at h;unfold xI;split at h
 ·split at h
  ·rename_i n hn;simp only[hn];split at h
   ·rename_i hc;rw[aq hc];exact Sb h
   ·cases h
  ·cases h
 ·cases h
def acq(P:ag)(t:ae)(a x:ad)(W:AW):Option (ad×AW):=(zf P W t a x).map λW'=>(ak,W')
def rh(x:ad)(W:AW):Option (ad×AW):=match x with
 |.pointer (some a)=>some (.pointer (some a),W)
 |.func (.func f) a b=>some (.func (.func f) a b,W)
 |.func (.yield l) a b=>some (.func (.yield l) a b,W)
 |.iface t v=>some (.iface t v,W)
 |_=>none
def opd:Bool->an
 |true=>.const ak
 |false=>.tmp 0
def kZ:an->Bool:=Operand.rec (λ_=>false) (λ_=>true) (λ_=>false) (λ_=>false)
def FO(op:BinOp)(t:ae)(x y:an)(a b:ad):eqGuard op t x y a b=eqGuard op t (opd (kZ x)) (opd (kZ y)) a b:=by cases x<;>cases y<;>rfl
def bs(P:ag)(op:BinOp)(t:ae)(a b:Bool)(vx vy:ad)(W:AW):Option (ad×AW):=
 match nl P W op t vx vy with
 |some v=>some (v,W)
 |none=>(mo P (bC vx&&(bC vy&&true)) (do pure (.value (<-(do eqGuard op t (opd a) (opd b) vx vy;binOp op t vx vy))))).map λv=>(v,W)
def oUn(P:ag)(op:UnOp)(x:ad)(W:AW):Option (ad×AW):=
 (mo P (bC x&&true) (do pure (.value (<-Op.unary op x)))).map λv=>(v,W)
def o8(P:ag)(s d:ae)(x:ad)(W:AW):Option (ad×AW):=
 (Ey P W s d x (mo P (bC x&&true) (do pure (.value (<-convert s d x))))).map λv=>(v,W)
def Kd(P:ag)(t:ae)(x:ad)(W:AW):Option (ad×AW):=match P.underlying t with
 |some (.interface _)=>none
 |some _=>some (.iface t x,W)
 |none=>none
def pX(fn:Fn)(first jj:Array ad)(W:AW):Option (ad×AW):=match fn with
 |.func f=>some (.func (.func f) first jj,W)
 |_=>none
def qu(P:ag)(t:ae)(r:Option ad)(W:AW):Option (ad×AW):=match r with
 |none=>some (Value.map (some W.next),W.add (.map [] 0))
 |some h=>match P.underlying t,h with
  |some (.map _ _),.int _ _=>some (Value.map (some W.next),W.add (.map [] 0))
  |_,_=>none
def eN(P:ag)(t:ae)(l c:ad)(W:AW):Option (ad×AW):=
 match P.underlying t with
 |some (.slice e)=>match kQ P e,iM P e,(P.info? e).map (·.bytes),l,c with
  |some n,some z,some bytes,.int _ (.ofNat l),.int _ (.ofNat c)=>
   if l<=c/\c<9223372036854775808/\c*bytes<=281474976710656/\(iP z (c*n)).toList.all bZ=true then
    some (Value.slice (some ⟨W.next,0,none⟩) l c,W.add (.cells (iP z (c*n)).toList))
   else none
  |_,_,_,_,_=>none
 |_=>none
def ft(P:ag)(t:ae)(x:ad)(lo hi mx:Option ad)(W:AW):Option (ad×AW):=
 match mH P t x lo hi mx with
 |some v=>some (v,W)
 |none=>(mo P ((x::(lo.toList++(hi.toList++mx.toList))).all bC) (do pure (.value (<-Instr.sliceAt t x lo hi mx)))).map λv=>(v,W)
def MR(P:ag)(s:ae)(x:ad)(f:Nat)(W:AW):Option (ad×AW):=match P.underlying s,x with
 |some (.struct fs),.pointer (some a)=>match fs[f]? with
  |some fl=>match kQ P fl.type with
   |some (_+1)=>some (.pointer (some (a.add fl.offset)),W)
   |_=>none
  |none=>none
 |_,_=>none
def ab2(P:ag)(t:ae)(x:ad)(f:Nat)(W:AW):Option (ad×AW):=match P.underlying t,x with
 |some (.struct fs),.agg cs=>match fs[f]? with
  |some fl=>(Ac P fl.type cs fl.offset).map λv=>(v,W)
  |none=>none
 |_,_=>none
def Ow(P:ag)(t:ae)(x i:ad)(W:AW):Option (ad×AW):=match P.underlying t,x,kK i with
 |some (.slice e),.slice (some a) len _,some n=>match kQ P e with
  |some z=>if n<len then some (.pointer (some (a.add (n*z))),W)else none
  |none=>none
 |some (.array len e),.pointer (some a),some n=>match kQ P e with
  |some z=>if n<len then some (.pointer (some (a.add (n*z))),W)else none
  |none=>none
 |_,_,_=>none
def px(P:ag)(t:ae)(x i:ad)(W:AW):Option (ad×AW):=match P.underlying t,x,kK i with
 |some (.array len e),.agg cs,some n=>match kQ P e with
  |some z=>if n<len then(Ac P e cs (n*z)).map λv=>(v,W)else none
  |none=>none
 |_,_,_=>(mo P (bC x&&(bC i&&true)) (do pure (.value (<-Instr.index t x i)))).map λv=>(v,W)
def pT(P:ag)(t:ae)(m k:ad)(ok:Bool)(W:AW):Option (ad×AW):=(ll P W t m k ok).map λv=>(v,W)
def ii(P:ag)(t:ae)(m k v:ad)(W:AW):Option (ad×AW):=(gJ P W t m k v).map λW'=>(ak,W')
def oZ(x:ad)(i:Nat)(W:AW):Option (ad×AW):=match x with
 |.tuple vs=>(vs[i]?).map λv=>(v,W)
 |_=>none
def YX(P:ag)(x:ad)(t:ae)(ok:Bool)(W:AW):Option (ad×AW):=match P.underlying t,x with
 |some (.interface _),_=>none
 |some _,.iface u v=>if u=t then some (if ok then .tuple #[v,.bool true]else v,W)else none
 |_,_=>none
def Bl(P:ag)(t:ae)(x:ad)(W:AW):Option (ad×AW):=match P.underlying t,x with
 |some .string,.string s=>some (Value.pointer (some ⟨W.next,0,none⟩),W.add (.mW s 0))
 |_,_=>none
def Wp(it:ad)(W:AW):Option (ad×AW):=match it with
 |.pointer (some ⟨b,0,_⟩)=>match W.get b with
  |some (.mW s pos)=>if pos<s.size then some (.tuple #[.bool true,goInt pos,.int .i32 (Utf8.decode s pos).1],W.put b (.mW s (pos+(Utf8.decode s pos).2)))else some (.tuple #[.bool false],W)
  |_=>none
 |_=>none
def aR(P:ag)(b:Builtin)(ts:Array ae)(ty:ae)(cf:Array Bool)(args:List ad)(W:AW):Option (ad×AW):=
 match b,args with
 |.len,[.slice _ n _]=>match(ts[0]?).bind P.underlying with
  |some (.slice _)=>some (goInt n,W)
  |_=>none
 |.len,[.map none]=>match(ts[0]?).bind P.underlying with
  |some (.map _ _)=>some (goInt 0,W)
  |_=>none
 |.len,[.map (some r)]=>match(ts[0]?).bind P.underlying,W.get r with
  |some (.map _ _),some (.map es _)=>some (goInt es.length,W)
  |_,_=>none
 |.append,[s,x]=>zx P W ts s x
 |.copy,[d,x]=>PI P W ts d x
 |.clear,[x]=>(Jp P W ts x).map λW'=>(.tuple #[],W')
 |.delete,[m,k]=>(qc P W ts m k).map λW'=>(.tuple #[],W')
 |.unsafeSliceData,[x]=>(rR x).map λv=>(v,W)
 |.unsafeString,[p,n]=>mK P W ts p n
 |_,_=>(mo P (args.all bC) (builtin b ts ty cf args.toArray)).map λv=>(v,W)
def ZC(P:ag)(call:Callee)(r:ad)(name:String)(args:List ad)(W:AW):Option (ad×AW):=match r with
 |.iface t v=>match rN P t name with
  |some f=>call (.func (.func f) #[] #[]) (v::args) W
  |none=>none
 |_=>none
def aax(x:an)(P:ag)(call:Callee)(o:aj)(R:ah.Fr)(W:AW):Option (ad×AW):=gy (ax R x) W
def aiy(c a b:an)(P:ag)(call:Callee)(o:aj)(R:ah.Fr)(W:AW):Option (ad×AW):=pj (ax R c) (ax R a) (ax R b) W
def aec(t:ae)(P:ag)(call:Callee)(o:aj)(R:ah.Fr)(W:AW):Option (ad×AW):=cl P t W
def amh(t:ae)(x:an)(P:ag)(call:Callee)(o:aj)(R:ah.Fr)(W:AW):Option (ad×AW):=nG (ax R x) W
def aev(t:ae)(ps:Array (Nat×an))(P:ag)(call:Callee)(o:aj)(R:ah.Fr)(W:AW):Option (ad×AW):=dX P t (parts R ps) W
def JU(t:ae)(n:Nat)(ps:Array (Nat×an))(P:ag)(call:Callee)(o:aj)(R:ah.Fr)(W:AW):Option (ad×AW):=dA P t n (parts R ps) W
def ZS(_t:ae)(_m _k _v:an)(P:ag)(call:Callee)(o:aj)(R:ah.Fr)(W:AW):Option (ad×AW):=none
def aiD(t:ae)(a:an)(P:ag)(call:Callee)(o:aj)(R:ah.Fr)(W:AW):Option (ad×AW):=fR P t (ax R a) W
def acR(t:ae)(a x:an)(P:ag)(call:Callee)(o:aj)(R:ah.Fr)(W:AW):Option (ad×AW):=acq P t (ax R a) (ax R x) W
def ah1(_g:Nat)(P:ag)(call:Callee)(o:aj)(R:ah.Fr)(W:AW):Option (ad×AW):=none
def RG(x:an)(P:ag)(call:Callee)(o:aj)(R:ah.Fr)(W:AW):Option (ad×AW):=rh (ax R x) W
def adb(op:BinOp)(t:ae)(x y:an)(yt:ae)(P:ag)(call:Callee)(o:aj)(R:ah.Fr)(W:AW):Option (ad×AW):=bs P op t (kZ x) (kZ y) (ax R x) (ax R y) W
def ahR(op:UnOp)(t:ae)(x:an)(P:ag)(call:Callee)(o:aj)(R:ah.Fr)(W:AW):Option (ad×AW):=oUn P op (ax R x) W
def Vz(s d:ae)(x:an)(P:ag)(call:Callee)(o:aj)(R:ah.Fr)(W:AW):Option (ad×AW):=o8 P s d (ax R x) W
def kTO(_d:ae)(_x:an)(P:ag)(call:Callee)(o:aj)(R:ah.Fr)(W:AW):Option (ad×AW):=none
def DG(t:ae)(x:an)(P:ag)(call:Callee)(o:aj)(R:ah.Fr)(W:AW):Option (ad×AW):=Kd P t (ax R x) W
def P8(fn:Fn)(first jj:Array an)(P:ag)(call:Callee)(o:aj)(R:ah.Fr)(W:AW):Option (ad×AW):=pX fn (first.map (ax R)) (jj.map (ax R)) W
def VV(t:ae)(r:Option an)(P:ag)(call:Callee)(o:aj)(R:ah.Fr)(W:AW):Option (ad×AW):=qu P t (r.map (ax R)) W
def ND(t:ae)(l c:an)(P:ag)(call:Callee)(o:aj)(R:ah.Fr)(W:AW):Option (ad×AW):=eN P t (ax R l) (ax R c) W
def adk(t:ae)(x:an)(lo hi mx:Option an)(P:ag)(call:Callee)(o:aj)(R:ah.Fr)(W:AW):Option (ad×AW):=ft P t (ax R x) (lo.map (ax R)) (hi.map (ax R)) (mx.map (ax R)) W
def NZ(s:ae)(x:an)(f:Nat)(P:ag)(call:Callee)(o:aj)(R:ah.Fr)(W:AW):Option (ad×AW):=MR P s (ax R x) f W
def aea(t:ae)(x:an)(f:Nat)(P:ag)(call:Callee)(o:aj)(R:ah.Fr)(W:AW):Option (ad×AW):=ab2 P t (ax R x) f W
def ME(t:ae)(x i:an)(P:ag)(call:Callee)(o:aj)(R:ah.Fr)(W:AW):Option (ad×AW):=Ow P t (ax R x) (ax R i) W
def ace(t:ae)(x i:an)(P:ag)(call:Callee)(o:aj)(R:ah.Fr)(W:AW):Option (ad×AW):=px P t (ax R x) (ax R i) W
def XX(t:ae)(m k:an)(ok:Bool)(P:ag)(call:Callee)(o:aj)(R:ah.Fr)(W:AW):Option (ad×AW):=pT P t (ax R m) (ax R k) ok W
def NL(t:ae)(m k v:an)(P:ag)(call:Callee)(o:aj)(R:ah.Fr)(W:AW):Option (ad×AW):=ii P t (ax R m) (ax R k) (ax R v) W
def ak0(_t:ae)(_m _k:an)(P:ag)(call:Callee)(o:aj)(R:ah.Fr)(W:AW):Option (ad×AW):=none
def agt(_t:ae)(_m _s _v:an)(P:ag)(call:Callee)(o:aj)(R:ah.Fr)(W:AW):Option (ad×AW):=none
def ab4(t:ae)(x:an)(P:ag)(call:Callee)(o:aj)(R:ah.Fr)(W:AW):Option (ad×AW):=Bl P t (ax R x) W
def agT(it:an)(s:Bool)(P:ag)(call:Callee)(o:aj)(R:ah.Fr)(W:AW):Option (ad×AW):=match s with
 |true=>Wp (ax R it) W
 |false=>none
def kO(_it:an)(P:ag)(call:Callee)(o:aj)(R:ah.Fr)(W:AW):Option (ad×AW):=none
def Ma(x:an)(_t a:ae)(ok:Bool)(P:ag)(call:Callee)(o:aj)(R:ah.Fr)(W:AW):Option (ad×AW):=YX P (ax R x) a ok W
def Vi(x:an)(i:Nat)(P:ag)(call:Callee)(o:aj)(R:ah.Fr)(W:AW):Option (ad×AW):=oZ (ax R x) i W
def agw(c:Call)(P:ag)(call:Callee)(o:aj)(R:ah.Fr)(W:AW):Option (ad×AW):=
 match c.callee with
 |.builtin b=>aR P b c.argTypes o.type (c.args.map kZ) (c.args.toList.map (ax R)) W
 |.value f=>call (ax R f) (c.args.toList.map (ax R)) W
 |.invoke r name=>ZC P call (ax R r) name (c.args.toList.map (ax R)) W
def kC(_c:Call)(P:ag)(call:Callee)(o:aj)(R:ah.Fr)(W:AW):Option (ad×AW):=none
def kOO(_c _x:an)(P:ag)(call:Callee)(o:aj)(R:ah.Fr)(W:AW):Option (ad×AW):=none
def ahN(_t:ae)(_c:an)(_ok:Bool)(P:ag)(call:Callee)(o:aj)(R:ah.Fr)(W:AW):Option (ad×AW):=none
def YH(_cs:Array SelectCase)(_bl:Bool)(P:ag)(call:Callee)(o:aj)(R:ah.Fr)(W:AW):Option (ad×AW):=none
def akT:Op->ag->Callee->aj->ah.Fr->AW->Option (ad×AW):=
 Op.rec (motive:=λ_=>ag->Callee->aj->ah.Fr->AW->Option (ad×AW)) aax aax aiy aec amh aev JU ZS aiD acR ah1 ah1 RG adb ahR Vz kTO DG P8 VV kTO ND adk NZ aea ME ace XX NL ak0 agt ab4 agT kO Ma Vi agw kC kC kO kOO ahN YH
def Ya(P:ag)(call:Callee)(o:aj)(R:ah.Fr)(W:AW):Option (ad×AW):=akT o.op P call o R W
def wo{P:ag}{R:ah.Fr}{o:aj}(hs:wI o.op=true):jh P R o=mo P (o.op.operands.toList.all λx=>bC (ax R x)) (execOp (ax R) o):=by unfold jh mo;rw[hs,np];rfl
def all_map{α β:Type}(f:α->β)(p:β->Bool)(l:List α):(l.map f).all p=l.all λx=>p (f x):=by rw[List.all_map];rfl
def LZ(P:ag)(call:Callee)(dst:Option Tmp)(b:Builtin)(args:Array an)(ts:Array ae)(ty:ae)(pos:String)(after:Array Edge)(guard:Option (Nat×Bool))(R:ah.Fr)(W:AW):
 aR P b ts ty (args.map kZ) (args.toList.map (ax R)) W=jd P ⟨dst,.call ⟨.builtin b,args,ts⟩,ty,pos,after,guard⟩ b ts (args.toList.map (ax R)) R W:=by
 have hf:mo P ((args.toList.map (ax R)).all bC) (builtin b ts ty (args.map kZ) (args.toList.map (ax R)).toArray)=jh P R ⟨dst,.call ⟨.builtin b,args,ts⟩,ty,pos,after,guard⟩:=by
  rw[wo rfl];have h1:((args.toList.map (ax R)).all bC)=((Op.call {callee:=Callee.builtin b,args:=args,argTypes:=ts}).operands.toList.all λx=>bC (ax R x)):=by
   rw[all_map];have:(Op.call {callee:=.builtin b,args:=args,argTypes:=ts}).operands=args:=by simp[Op.operands,Call.operands]
   rw[this]
  have h2:builtin b ts ty (args.map kZ) (args.toList.map (ax R)).toArray=execOp (ax R) ⟨dst,.call ⟨.builtin b,args,ts⟩,ty,pos,after,guard⟩:=by
   have h4:args.map kZ=args.map (λ|.const _=>true|_=>false):=by congr 1;funext x;cases x<;>rfl
   have h3:(args.toList.map (ax R)).toArray=args.map (ax R):=by apply mN.1;simp
   rw[h4,h3];symm;simp[execOp,resolve,invoke];rfl
  rw[h1,h2]
 unfold aR jd;rw[hf];rfl
def PM:Op->Bool
 |.store .. =>true
 |_=>false
def aep(P:ag)(call:Callee)(o:aj)(R:ah.Fr)(W:AW)(hs:PM o.op=false):Ya P call o R W=qF P call o R W:=by
 rw[vX];obtain⟨dst,op,type,pos,after,guard⟩:=o;cases op with
 |store t a x=>cases hs
 |pick c a b=>rfl
 |alloc t=>show cl P t W=_;(simp only[gw,FV,cl,AW.dm];try rfl)
 |box t x=>show nG (ax R x) W=_;simp only[gw,FV,nG,AW.dm]
 |buildSlice t len ps=>show dA P t len (parts R ps) W=_;(simp only[gw,FV,dA,kM,AW.dm];try rfl)
 |binOp op t x y yt=>show bs P op t (kZ x) (kZ y) (ax R x) (ax R y) W=_;simp only[gw,FV,bs];rw[wo rfl,<-FO];rfl
 |unOp op t x=>show oUn P op (ax R x) W=_;simp only[gw,FV,oUn];rw[wo rfl];rfl
 |convert s d x=>show o8 P s d (ax R x) W=_;simp only[gw,FV,o8];rw[wo rfl];rfl
 |makeFunc fn a b=>cases fn<;>rfl
 |makeMap t r=>
  cases r with
  |none=>show qu P t none W=_;(simp only[gw,FV,qu,AW.dm];try rfl)
  |some r=>show qu P t (some (ax R r)) W=_;(simp only[gw,FV,qu,AW.dm];try rfl)
 |makeSlice t l c=>show eN P t (ax R l) (ax R c) W=_;(simp only[gw,FV,eN,mw,AW.dm];try rfl)
 |slice t x lo hi mx=>
  show ft P t (ax R x) (lo.map (ax R)) (hi.map (ax R)) (mx.map (ax R)) W=_;simp only[gw,FV,ft];rw[wo rfl];have:(ax R x::((lo.map (ax R)).toList++((hi.map (ax R)).toList++(mx.map (ax R)).toList))).all bC=((Op.slice t x lo hi mx).operands.toList.all λx=>bC (ax R x)):=by cases lo<;>cases hi<;>cases mx<;>simp[Op.operands]
  rw[this];rfl
 |index t x i=>show px P t (ax R x) (ax R i) W=_;simp only[gw,FV,px];rw[wo rfl];rfl
 |range t x=>show Bl P t (ax R x) W=_;(simp only[gw,FV,Bl,AW.dm];try rfl)
 |next it s=>cases s<;>rfl
 |call c=>
  obtain⟨callee,args,ts⟩:=c;cases callee with
  |builtin b=>exact LZ P call dst b args ts type pos after guard R W
  |value f=>rfl
  |invoke r name=>rfl
 |_=>rfl
def Om{P:ag}{call:Callee}{o:aj}{R:ah.Fr}{W:AW}{r:ad×AW}(h:Ya P call o R W=some r):qF P call o R W=some r:=by
 cases hs:PM o.op with
 |false=>rw[<-aep P call o R W hs];exact h
 |true=>
  rw[vX];obtain⟨dst,op,type,pos,after,guard⟩:=o;cases op<;>(try cases hs);rename_i t a x;have h':(zf P W t (ax R a) (ax R x)).map (λW'=>(ak,W'))=some r:=h;simp only[gw,FV];cases hc:zf P W t (ax R a) (ax R x)with
  |none=>rw[hc]at h';cases h'
  |some W'=>rw[hc]at h';rw[MZ hc];exact h'
def bG(x:ad)(W:AW):Option (ad×AW):=(match x with
 |.pointer (some a)=>(match aC W a.block with
  |some cs=>YZ cs a.off
  |none=>none)
 |_=>none).map λv=>(v,W)
def fd(n:Nat)(x:ad)(W:AW):Option (ad×AW):=(match x with
 |.pointer (some a)=>(mm W a.block a.off n).map λ(l:List ad)=>Value.agg l.toArray
 |_=>none).map λv=>(v,W)
def gv(n:Nat)(x v:ad)(W:AW):Option (ad×AW):=(match x with
 |.pointer (some a)=>if v.cells.size=n then Bq W a.block a.off v.cells.toList else none
 |_=>none).map λW'=>(ak,W')
def mL(off:Nat)(x:ad)(W:AW):Option (ad×AW):=match x with
 |.pointer (some a)=>some (.pointer (some (a.add off)),W)
 |_=>none
def nR(z:Nat)(x i:ad)(W:AW):Option (ad×AW):=match x,kK i with
 |.slice (some a) len _,some n=>if n<len then some (.pointer (some (a.add (n*z))),W)else none
 |_,_=>none
def ixA(len z:Nat)(x i:ad)(W:AW):Option (ad×AW):=match x,kK i with
 |.pointer (some a),some n=>if n<len then some (.pointer (some (a.add (n*z))),W)else none
 |_,_=>none
end
section
variable [ah]
def afY:∃f:(∀(α ρ:Type),Option α->(α->Option ρ)->Option ρ),f=λ_ _ x g=>x.bind g:=⟨_,rfl⟩
def dN{α ρ:Type}(x:Option α)(g:α->Option ρ):Option ρ:=Classical.choose afY α ρ x g
def E4{α ρ:Type}(x:Option α)(g:α->Option ρ):dN x g=x.bind g:=by unfold dN;rw[sQ afY]
abbrev KT(ρ:Type):=X->ah.Fr->AW->Option ρ
abbrev LT:=X×ah.Fr×AW
def qk(v:ad)(w:Bool):Bool:=match v with|.bool b=>b==w|_=>false
def KJ(ops:Array aj)(R:ah.Fr)(o:aj):Bool:=match o.guard with
 |none=>true
 |some (j,w)=>match(ops[j]?).bind (·.dst)with
  |some t=>qk (cL R t) w
  |none=>false
def JL(ops:Array aj)(R:ah.Fr)(o:aj):KJ ops R o=gS ops R o:=by
 unfold KJ gS;cases o.guard with
 |none=>rfl
 |some p=>obtain⟨j,w⟩:=p;simp only;cases(ops[j]?).bind (·.dst)<;>rfl
def nj{ρ:Type}(c:Bool)(a b:ρ):ρ:=Bool.rec (motive:=λ_=>ρ) b a c
def tS(P:ag)(call:Callee)(ops:Array aj)(o:aj)(R:ah.Fr)(W:AW):Option (ad×AW):=
 nj (KJ ops R o) (Ya P call o R W) (some (ak,W))
def mvO:Op->Option an:=Op.rec (motive:=λ_=>Option an) some some (λ_ _ _=>none) (λ_=>none) (λ_ _=>none) (λ_ _=>none) (λ_ _ _=>none) (λ_ _ _ _=>none) (λ_ _=>none) (λ_ _ _=>none) (λ_=>none) (λ_=>none) (λ_=>none) (λ_ _ _ _ _=>none) (λ_ _ _=>none) (λ_ _ _=>none) (λ_ _=>none) (λ_ _=>none) (λ_ _ _=>none) (λ_ _=>none) (λ_ _=>none) (λ_ _ _=>none) (λ_ _ _ _ _=>none) (λ_ _ _=>none) (λ_ _ _=>none) (λ_ _ _=>none) (λ_ _ _=>none) (λ_ _ _ _=>none) (λ_ _ _ _=>none) (λ_ _ _=>none) (λ_ _ _ _=>none) (λ_ _=>none) (λ_ _=>none) (λ_=>none) (λ_ _ _ _=>none) (λ_ _=>none) (λ_=>none) (λ_=>none) (λ_=>none) (λ_=>none) (λ_ _=>none) (λ_ _ _=>none) (λ_ _=>none)
def mvG(o:aj):Option an:=Option.rec (motive:=λ_=>Option an) (mvO o.op) (λ_=>none) o.guard
def Lx(P:ag)(call:Callee)(ops:Array aj){ρ:Type}(K:ah.Fr->AW->Option ρ)(l:List aj):ah.Fr->AW->Option ρ:=
 List.rec (motive:=λ_=>ah.Fr->AW->Option ρ) (λR W=>K R W) (λo _ ih R W=>Option.rec (motive:=λ_=>Option ρ) (dN (tS P call ops o R W) λr=>ih (fM R o.dst r.1) r.2) (λx=>ih (fM R o.dst (ax R x)) W) (mvG o)) l
def ur(w:Bool)(r:Option (ad×AW))(v:ad):Bool:=nj w (match r with|some (u,_)=>ff u v|none=>false) true
def agN(w:Bool)(r:Option (ad×AW)):Bool:=nj w r.isSome true
def AD(P:ag)(call:Callee)(ops:Array aj)(R:ah.Fr)(W:AW)(j:Nat):Bool:=match ops[j]? with
 |none=>false
 |some o=>match o.dst with
  |some t=>ur (KJ ops R o) (Ya P call o R W) (cL R t)
  |none=>agN (KJ ops R o) (Ya P call o R W)
def L5(P:ag)(call:Callee)(ops:Array aj){ρ:Type}(K:ah.Fr->AW->Option ρ)(l:List (Nat×List Nat)):ah.Fr->AW->Option ρ:=
 List.rec (motive:=λ_=>ah.Fr->AW->Option ρ) (λR W=>K R W) (λp _ ih R W=>match ops[p.1]? with
  |none=>none
  |some o=>Option.rec (motive:=λ_=>Option ρ) (dN (tS P call ops o R W) λr=>nj (p.2.all (AD P call ops (fM R o.dst r.1) r.2)) (ih (fM R o.dst r.1) r.2) none) (λx=>ih (fM R o.dst (ax R x)) W) (List.rec (motive:=λ_=>Option an) (mvG o) (λ_ _ _=>none) p.2)) l
def tP{ρ:Type}(x:X)(a b:Option ρ):Option ρ:=X.rec (motive:=λ_=>Option ρ) a (λ_=>b) b x
def xv{ρ:Type}(id:Nat)(x:X)(a b:Option ρ):Option ρ:=X.rec (motive:=λ_=>Option ρ) b (λi=>nj (Nat.beq i id) a b) b x
def ael{ρ:Type}(x:X)(a:Option ρ):Option ρ:=X.rec (motive:=λ_=>Option ρ) a (λ_=>none) a x
def Jy{ρ:Type}(v:ad)(a b:Option ρ):Option ρ:=match v with|.bool c=>nj c a b|_=>none
abbrev CT:=∀ρ:Type,ah.Fr->AW->KT ρ->Option ρ
def ke:KT LT:=λx R W=>some (x,R,W)
def adG:CT:=λ_ R W K=>K .normal R W
def Et(P:ag)(call:Callee)(id:Nat)(ops:Array aj)(Ar:Bool):CT:=λ_ R W K=>match Ar with
 |false=>Lx P call ops (K .normal) ops.toList R W
 |true=>match ah.D id ops with
  |none=>Lx P call ops (K .normal) ops.toList R W
  |some pl=>L5 P call ops (K .normal) pl R W
def ag8(_ _:bA)(ia ib:CT):CT:=λρ R W K=>ia ρ R W λx R' W'=>X.rec (motive:=λ_=>Option ρ) (ib ρ R' W' K) (λ_=>K x R' W') (K x R' W') x
def acn(c:an)(_ _:bA)(ia ib:CT):CT:=λρ R W K=>Jy (ax R c) (ia ρ R W K) (ib ρ R W K)
def XR(id:Nat)(_:bA)(ib:CT):CT:=λρ R W K=>ib ρ R W λx R' W'=>X.rec (motive:=λ_=>Option ρ) (K x R' W') (λi=>Bool.rec (motive:=λ_=>Option ρ) (K x R' W') (K .normal R' W') (Nat.beq i id)) (K x R' W') x
def afD(i:Nat):List Nat->List Nat:=List.rec [i] λx l ih=>Bool.rec (x::ih) (x::l) (Nat.beq x i)
def Oq(a b:List Nat):List Nat:=List.rec b (λx _ ih=>afD x ih) a
def ag3(i:Nat)(a:List Nat):List Nat:=List.rec [] (λx _ ih=>Bool.rec (x::ih) ih (Nat.beq x i)) a
def Sp:bA->List Nat×Bool:=
 Code.rec (motive:=λ_=>List Nat×Bool) ([],false) (λ_ _ _=>([],false)) (λ_ _ a b=>(Oq a.1 b.1,a.2||b.2)) (λ_ _ _ a b=>(Oq a.1 b.1,a.2||b.2)) (λi _ b=>(ag3 i b.1,b.2)) (λ_ b=>b)
  (λ_ _ _ _ a b=>(Oq a.1 b.1,a.2||b.2)) (λi=>([i],false)) (λ_ b=>b) (λ_=>([],false)) (λ_=>([],false)) ([],true) (λ_=>([],false))
def DN{ρ:Type}(x:X)(a:Option ρ):Option ρ:=X.rec (motive:=λ_=>Option ρ) none (λ_=>none) a x
def vg{ρ:Type}(x:X)(k:X->Option ρ)(ret:Bool)(l:List Nat):Option ρ:=
 List.rec (motive:=λ_=>Option ρ) (nj ret (DN x (k .ret)) none) (λi _ ih=>xv i x (k (.exit i)) ih) l
def mI{ρ:Type}{x:X}{k:X->Option ρ}{ret:Bool}{r:ρ}:∀{l:List Nat},vg x k ret l=some r->k x=some r
 |[],h=>by
  cases ret with
  |false=>cases h
  |true=>cases x<;>first|exact h|cases h
 |i::l,h=>by
  cases x with
  |normal=>exact mI (l:=l) h
  |ret=>exact mI (l:=l) h
  |exit j=>
   have h':nj (Nat.beq j i) (k (.exit i)) (vg (.exit j) k ret l)=some r:=h;cases hb:Nat.beq j i with
   |true=>rw[hb]at h';have:=wh hb;subst this;exact h'
   |false=>rw[hb]at h';exact mI (l:=l) h'
def aaj:∃f:(ah.Fr->AW->Option LT)->Nat->ah.Fr->AW->Option LT,f=jP:=⟨jP,rfl⟩
def ge:(ah.Fr->AW->Option LT)->ah.Fr->AW->Option LT:=λf=>Classical.choose aaj f 1000000
def Lu(f:ah.Fr->AW->Option LT):ge f=jP f 1000000:=by unfold ge;rw[sQ aaj]
def acY(b:bA)(ib:CT):CT:=λ_ R W K=>dN (ge (λR W=>ib LT R W ke) R W) λr=>vg r.1 (λx=>K x r.2.1 r.2.2) (Sp b).2 (Sp b).1
def i8(call:Callee)(f:ad)(obj:db)(W:AW):Option (X×AW):=match f with
 |.func (.func i) fs cs=>match call (.func (.func i) fs cs) [.func (.yield W.next) #[] #[]] (W.add obj)with
  |some (_,W2)=>match W2.get W.next with
   |some (.loop st mZ _ _ _ _ _)=>(match st with
    |.busy=>none
    |_=>match mZ with
     |none=>some (.normal,W2.kill W.next)
     |some (.exit i)=>some (.exit i,W2.kill W.next)
     |some .ret=>some (.ret,W2.kill W.next)
     |_=>none)
   |_=>none
  |none=>none
 |_=>none
def Hn(call:Callee)(top:Bool)(nt:Nat)(f:an)(ps:Array Tmp)(ats bd:bA)(_ _:CT):CT:=λ_ R W K=>match top with
 |false=>none
 |true=>dN (i8 call (ax R f) (.loop .ready none R nt ps ats bd) W) λr=>tP r.1 (K .normal R r.2) (vg r.1 (λx=>K x R r.2) (Sp bd).2 (Sp bd).1)
def ac9(id:Nat):CT:=λ_ R W K=>K (.exit id) R W
def afN:CT:=λ_ R W K=>K .ret R W
def XO(_:Nat):CT:=λ_ R W K=>K .normal R W
def adq(_:Nat):CT:=λ_ _ _ _=>none
def YR(_:bA)(_:CT):CT:=λ_ _ _ _=>none
def TV(_:String):CT:=λ_ _ _ _=>none
def eH(P:ag)(call:Callee)(top:Bool)(nt:Nat):bA->CT:=
 Code.rec (motive:=λ_=>CT) adG (Et P call) ag8 acn XR acY (Hn call top nt) ac9 YR XO adq afN TV
section
variable {P:ag} {call:Callee}
def DY{ops:Array aj}{o:aj}{R:ah.Fr}{W:AW}{r:ad×AW}(h:tS P call ops o R W=some r):kw P call ops o R W=some (fM R o.dst r.1,r.2):=by
 unfold tS at h;unfold kw;rw[JL]at h;cases hw:gS ops R o with
 |true=>rw[hw]at h;rw[aq rfl];have h':Ya P call o R W=some r:=h;rw[Om h']
 |false=>rw[hw]at h;rw[ap (by simp)];have h':some (ak,W)=some r:=h;injection h' with h';subst h';rfl
def T6{op:Op}{x:an}(h:mvO op=some x):op=.move x\/op=.assign x:=by cases op<;>first|(injection h with h;subst h;first|exact .inl rfl|exact .inr rfl)|cases h
def OU{ops:Array aj}{o:aj}{R:ah.Fr}{W:AW}{x:an}(h:mvG o=some x):kw P call ops o R W=some (fM R o.dst (ax R x),W):=by
 have hk:tS P call ops o R W=some (ax R x,W):=by
  obtain⟨dst,op,type,pos,after,guard⟩:=o;cases guard with
  |some g=>cases h
  |none=>rcases T6 h with rfl|rfl<;>rfl
 rw[DY hk]
def OH{ops:Array aj}{ρ:Type}{K:ah.Fr->AW->Option ρ}{r:ρ}:∀(l:List aj) (R:ah.Fr) (W:AW),Lx P call ops K l R W=some r->(oW P call ops l R W).bind (λq=>K q.1 q.2)=some r:=by
 intro l;induction l with
 |nil=>intro R W h;exact h
 |cons o l ih=>
  intro R W h;cases hm:mvG o with
  |some x=>have h':Option.rec (motive:=λ_=>Option ρ) (dN (tS P call ops o R W) λr=>Lx P call ops K l (fM R o.dst r.1) r.2) (λx=>Lx P call ops K l (fM R o.dst (ax R x)) W) (mvG o)=some r:=h;rw[hm]at h';rw[oW,OU hm];exact ih _ _ h'
  |none=>
  have h0:Option.rec (motive:=λ_=>Option ρ) (dN (tS P call ops o R W) λr=>Lx P call ops K l (fM R o.dst r.1) r.2) (λx=>Lx P call ops K l (fM R o.dst (ax R x)) W) (mvG o)=some r:=h;rw[hm]at h0;have h':dN (tS P call ops o R W) (λr=>Lx P call ops K l (fM R o.dst r.1) r.2)=some r:=h0;rw[E4]at h';cases hk:tS P call ops o R W with
  |none=>rw[hk]at h';cases h'
  |some q=>rw[hk]at h';rw[oW,DY hk];exact ih _ _ h'
def Qg{ops:Array aj}{R:ah.Fr}{W:AW}(j:Nat)(h:AD P call ops R W j=true):pV P call ops R W j=true:=by
 unfold AD at h;unfold pV;cases ho:ops[j]? with
 |none=>rw[ho]at h;cases h
 |some o=>
  rw[ho]at h;simp only at h|-;rw[JL]at h;cases hd:o.dst with
  |none=>
   rw[hd]at h;simp only[agN]at h;simp only;cases hw:gS ops R o with
   |false=>rfl
   |true=>rw[hw]at h;have h':(Ya P call o R W).isSome=true:=h;obtain⟨q,hq⟩:=Option.isSome_iff_exists.1 h';rw[Om hq];rfl
  |some t=>
   rw[hd]at h;simp only[ur]at h;simp only;cases hw:gS ops R o with
   |false=>rfl
   |true=>
    rw[hw]at h;have h':(match Ya P call o R W with|some (u,_)=>ff u (cL R t)|none=>false)=true:=h;cases hq:Ya P call o R W with
    |none=>rw[hq]at h';cases h'
    |some q=>rw[hq]at h';rw[Om hq];exact h'
def UC{ops:Array aj}{ρ:Type}{K:ah.Fr->AW->Option ρ}{r:ρ}:∀(l:List (Nat×List Nat)) (R:ah.Fr) (W:AW),L5 P call ops K l R W=some r->(jU P call ops l R W).bind (λq=>K q.1 q.2)=some r:=by
 intro l;induction l with
 |nil=>intro R W h;exact h
 |cons p l ih=>
  intro R W h;obtain⟨i,re⟩:=p
  have h0:(match ops[i]? with
   |none=>none
   |some o=>Option.rec (motive:=λ_=>Option ρ) (dN (tS P call ops o R W) λr=>nj (re.all (AD P call ops (fM R o.dst r.1) r.2)) (L5 P call ops K l (fM R o.dst r.1) r.2) none) (λx=>L5 P call ops K l (fM R o.dst (ax R x)) W) (List.rec (motive:=λ_=>Option an) (mvG o) (λ_ _ _=>none) re))=some r:=h;rw[jU];cases ho:ops[i]? with
  |none=>rw[ho]at h0;cases h0
  |some o=>
   rw[ho]at h0;simp only at h0|-;cases hm:(List.rec (motive:=λ_=>Option an) (mvG o) (λ_ _ _=>none) re:Option an)with
   |some x=>
    rw[hm]at h0;cases re with
    |cons _ _=>cases hm
    |nil=>rw[OU hm];exact ih _ _ h0
   |none=>
   rw[hm]at h0;have h':dN (tS P call ops o R W) (λr=>nj (re.all (AD P call ops (fM R o.dst r.1) r.2)) (L5 P call ops K l (fM R o.dst r.1) r.2) none)=some r:=h0;rw[E4]at h';cases hk:tS P call ops o R W with
   |none=>rw[hk]at h';cases h'
   |some q=>
    rw[hk]at h';rw[DY hk];simp only[bL]at h'|-;cases ha:re.all (AD P call ops (fM R o.dst q.1) q.2)with
    |false=>rw[ha]at h';cases h'
    |true=>
     rw[ha]at h';have:re.all (pV P call ops (fM R o.dst q.1) q.2)=true:=by rw[cw]at ha|-;exactλj hj=>Qg j (ha j hj)
     rw[aq this];exact ih _ _ h'
def DV{f g:ah.Fr->AW->Option LT}(h:∀R W r,f R W=some r->g R W=some r):∀(n:Nat) (R:ah.Fr) (W:AW) (r:LT),jP f n R W=some r->jP g n R W=some r:=by
 intro n;induction n with
 |zero=>intro R W r hr;cases hr
 |succ n ih=>
  intro R W r hr;unfold jP at hr|-;cases hf:f R W with
  |none=>rw[hf]at hr;cases hr
  |some q=>
   rw[h _ _ _ hf];rw[hf]at hr;obtain⟨x,R',W'⟩:=q;cases x with
   |normal=>exact ih _ _ _ hr
   |exit i=>exact hr
   |ret=>exact hr
def Ka{top:Bool}{nt:Nat}:∀(c:bA) (ρ:Type) (R:ah.Fr) (W:AW) (K:KT ρ) (r:ρ),eH P call top nt c ρ R W K=some r->(bQ P call top nt c R W).bind (λr=>K r.1 r.2.1 r.2.2)=some r:=by
 intro c;induction c with
 |skip=>intro ρ R W K r h;exact h
 |label l=>intro ρ R W K r h;exact h
 |exit id=>intro ρ R W K r h;exact h
 |ret=>intro ρ R W K r h;exact h
 |goto l=>intro ρ R W K r h;exact h
 |scope b _=>intro ρ R W K r h;cases h
 |refuse s=>intro ρ R W K r h;cases h
 |region id ops Ar=>
  intro ρ R W K r h;have h:Et P call id ops Ar ρ R W K=some r:=h;unfold Et at h;unfold bQ;cases Ar with
  |false=>
   simp only at h|-;have:=OH _ _ _ h;cases ha:oW P call ops ops.toList R W with
   |none=>rw[ha]at this;cases this
   |some q=>rw[ha]at this;exact this
  |true=>
   simp only at h|-;cases hd:ah.D id ops with
   |none=>
    rw[hd]at h;simp only at h|-;have:=OH _ _ _ h;cases ha:oW P call ops ops.toList R W with
    |none=>rw[ha]at this;cases this
    |some q=>rw[ha]at this;exact this
   |some pl=>
    rw[hd]at h;simp only at h|-;have:=UC _ _ _ h;cases ha:jU P call ops pl R W with
    |none=>rw[ha]at this;cases this
    |some q=>rw[ha]at this;exact this
 |seq a b Wv Ml=>
  intro ρ R W K r h;have h1:=Wv ρ R W _ r h;rw[bQ];cases ha:bQ P call top nt a R W with
  |none=>rw[ha]at h1;cases h1
  |some q=>
   rw[ha]at h1;obtain⟨x,R',W'⟩:=q;cases x with
   |normal=>exact Ml _ _ _ _ _ h1
   |exit i=>exact h1
   |ret=>exact h1
 |cond c a b Wv Ml=>
  intro ρ R W K r h;have h':Jy (ax R c) (eH P call top nt a ρ R W K) (eH P call top nt b ρ R W K)=some r:=h;rw[bQ];cases hc:ax R c with
  |bool d=>
   rw[hc]at h';cases d with
   |true=>exact Wv _ _ _ _ _ h'
   |false=>exact Ml _ _ _ _ _ h'
  |_=>rw[hc]at h';cases h'
 |block id b ih=>
  intro ρ R W K r h;have h1:=ih ρ R W _ r h;rw[bQ];cases ha:bQ P call top nt b R W with
  |none=>rw[ha]at h1;cases h1
  |some q=>
   rw[ha]at h1;obtain⟨x,R',W'⟩:=q;cases x with
   |normal=>exact h1
   |ret=>exact h1
   |exit i=>
    have h2:nj (Nat.beq i id) (K .normal R' W') (K (.exit i) R' W')=some r:=h1;by_cases hi:i=id
    ·subst hi;rw[qi]at h2;simp only[ba,bL];exact h2
    ·have:Nat.beq i id=false:=by
      cases hb:Nat.beq i id with
      |true=>exact absurd (wh hb) hi
      |false=>rfl
     rw[this]at h2;simp only[ap hi,bL];exact h2
 |loop b ih=>
  intro ρ R W K r h;have h':dN (ge (λR W=>eH P call top nt b LT R W ke) R W) (λq=>vg q.1 (λx=>K x q.2.1 q.2.2) (Sp b).2 (Sp b).1)=some r:=h;rw[E4,Lu]at h';cases hl:jP (λR W=>eH P call top nt b LT R W ke) 1000000 R W with
  |none=>rw[hl]at h';cases h'
  |some q=>
   rw[hl]at h';have:=DV (g:=bQ P call top nt b) (λR W q hq=>by
    have:=ih LT R W ke q hq;cases ha:bQ P call top nt b R W with
    |none=>rw[ha]at this;cases this
    |some q'=>rw[ha]at this;exact this) _ _ _ _ hl;rw[bQ,this];exact mI (show vg q.1 (λx=>K x q.2.1 q.2.2) (Sp b).2 (Sp b).1=some r from h')
 |rangeFunc f ps ats bd _ _=>
  intro ρ R W K r h;have h':Hn call top nt f ps ats bd (eH P call top nt ats) (eH P call top nt bd) ρ R W K=some r:=h;unfold Hn at h';cases top with
  |false=>cases h'
  |true=>
   simp only[E4]at h';have h2:(i8 call (ax R f) (.loop .ready none R nt ps ats bd) W).bind (λq=>K q.1 R q.2)=some r:=by
    cases ho:i8 call (ax R f) (.loop .ready none R nt ps ats bd) W with
    |none=>rw[ho]at h';cases h'
    |some q=>
     rw[ho]at h';obtain⟨x,W'⟩:=q;cases x with
     |normal=>exact h'
     |exit i=>exact mI (show vg (.exit i) (λx=>K x R W') (Sp bd).2 (Sp bd).1=some r from h')
     |ret=>exact mI (show vg .ret (λx=>K x R W') (Sp bd).2 (Sp bd).1=some r from h')
   rw[<-h2];unfold bQ i8;simp only;cases ax R f with
   |func fn fs cs=>
    cases fn with
    |func i=>
     simp only[AW.dm];cases call (.func (.func i) fs cs) [.func (.yield W.next) #[] #[]] (W.add (.loop .ready none R nt ps ats bd))with
     |none=>rfl
     |some r=>
      obtain⟨v,W2⟩:=r;simp only;cases W2.get W.next with
      |none=>rfl
      |some obj=>
       cases obj with
       |loop st mZ tm n p a b=>
        cases st<;>simp only<;>(cases mZ with
         |none=>rfl
         |some c=>cases c<;>rfl)
       |_=>rfl
    |_=>rfl
   |_=>rfl
def Hf{top:Bool}{nt:Nat}{c:bA}{R:ah.Fr}{W:AW}{r:LT}(h:eH P call top nt c LT R W ke=some r):bQ P call top nt c R W=some r:=by
 have:=Ka c LT R W ke r h;cases ha:bQ P call top nt c R W with
 |none=>rw[ha]at this;cases this
 |some q=>rw[ha]at this;exact this
end
def rO(P:ag)(W:AW):List (ad×Option ae)->Option (List ad)
 |[]=>some []
 |(v,none)::l=>match rO P W l with
  |some vs=>some (v::vs)
  |none=>none
 |(a,some t)::l=>match ju P W t a with
  |some v=>match rO P W l with
   |some vs=>some (v::vs)
   |none=>none
  |none=>none
def iS(P:ag)(l:List (ad×Option ae))(W:AW):Option (ad×AW):=match rO P W l with
 |some [v]=>some (v,W)
 |some vs=>some (.tuple vs.toArray,W)
 |none=>none
def rv(R:ah.Fr):ResultVar->ad×Option ae:=ResultVar.rec (λt=>(cL R t,none)) (λa t=>(cL R a,some t))
def EO(P:ag)(W:AW)(R:ah.Fr):∀l:List ResultVar,FX P W R l=rO P W (l.map (rv R))
 |[]=>rfl
 |.tmp t::l=>by show(match FX P W R l with|some vs=>some (cL R t::vs)|none=>none)=(match rO P W (l.map (rv R))with|some vs=>some (cL R t::vs)|none=>none);rw[EO P W R l]
 |.cell a t::l=>by show(match ju P W t (cL R a)with|some v=>(match FX P W R l with|some vs=>some (v::vs)|none=>none)|none=>none)=(match ju P W t (cL R a)with|some v=>(match rO P W (l.map (rv R))with|some vs=>some (v::vs)|none=>none)|none=>none);rw[EO P W R l]
def Wy(P:ag)(call:Callee)(nt:Nat)(c:bA)(rs:Array ResultVar)(amc:List ad)(W:AW):Option (ad×AW):=
 eH P call true nt c (ad×AW) (cR 0 amc ah.blank) W λx R W'=>X.rec (motive:=λ_=>Option (ad×AW)) (iS P (rs.toList.map (rv R)) W') (λ_=>none) (iS P (rs.toList.map (rv R)) W') x
def Sj{P:ag}{bad:List Nat}{spec call:Callee}{i:Nat}{fn:eO}{c:bA}(hb:Jw i bad=false)(hf:P.funcs[i]? =some fn)(hc:fn.body=some c){fs cs:Array ad}{args:List ad}
 (hn:Nat.ble (fs.toList.length+(args.length+cs.toList.length)) fn.ntmps=true){W:AW}{r:ad×AW}(h:Wy P call fn.ntmps c fn.results (fs.toList++(args++cs.toList)) W=some r):
 kG P bad spec call (.func (.func i) fs cs) args W=some r:=by
 unfold Wy at h;have h1:=Ka _ _ _ _ _ _ h;unfold kG;simp only[hb,hf,hc,hn];cases ha:bQ P call true fn.ntmps c (cR 0 (fs.toList++(args++cs.toList)) ah.blank) W with
 |none=>rw[ha]at h1;cases h1
 |some q=>
  rw[ha]at h1;obtain⟨x,R,W'⟩:=q;simp only[bL]at h1;rw[<-h1];unfold rf iS;simp only[EO];cases x with
  |exit id=>rfl
  |normal=>simp only[];rcases rO P W' (fn.results.toList.map (rv R))with _|_|⟨v,_|⟨u,l⟩⟩<;>rfl
  |ret=>simp only[];rcases rO P W' (fn.results.toList.map (rv R))with _|_|⟨v,_|⟨u,l⟩⟩<;>rfl
def Jf(P:ag)(call:Callee)(l:Nat)(nt:Nat)(ats bd:bA)(R:ah.Fr)(W:AW):Option (ad×AW):=
 (eH P call false nt ats LT R W ke).bind λr1=>tP r1.1 (match r1.2.2.get l with
  |some (.loop .ready WN R9 OJ Ps PT Pe)=>(eH P call false nt bd LT r1.2.1 (r1.2.2.put l (.loop .busy WN R9 OJ Ps PT Pe)) ke).bind λr2=>(match r2.2.2.get l with
   |some (.loop _ _ R8 X7 Y2 Yg XZ)=>(match r2.1 with
    |.normal=>some (.bool true,r2.2.2.put l (.loop .ready none R8 X7 Y2 Yg XZ))
    |x=>some (.bool false,r2.2.2.put l (.loop .done x.jump R8 X7 Y2 Yg XZ)))
   |_=>none)
  |_=>none) none
def Lw{P:ag}{bad:List Nat}{spec call:Callee}{l nt:Nat}{R:ah.Fr}{ps:Array Tmp}{ats bd:bA}{W:AW}(hl:W.get l=some (.loop .ready none R nt ps ats bd)){fs cs:Array ad}{args:List ad}(hn:fs.toList.length+args.length=ps.size)
 {r:ad×AW}(h:Jf P call l nt ats bd (kD ps.toList (fs.toList++args) R) W=some r):
 kG P bad spec call (.func (.yield l) fs cs) args W=some r:=by
 unfold Jf at h;have hb:Nat.beq (fs.toList.length+args.length) ps.size=true:=by rw[hn];exact qi _
 unfold kG;simp only[hl,hb];cases h1:eH P call false nt ats LT (kD ps.toList (fs.toList++args) R) W ke with
 |none=>rw[h1]at h;cases h
 |some q=>
  rw[h1]at h;rw[Hf h1];obtain⟨x,R1,W1⟩:=q;simp only[bL]at h;cases x with
  |exit id=>cases h
  |ret=>cases h
  |normal=>
   simp only[tP]at h|-;cases hg:W1.get l with
   |none=>rw[hg]at h;cases h
   |some obj=>
    rw[hg]at h;cases obj with
    |loop st WN R9 OJ Ps PT Pe=>
     cases st with
     |ready=>
      simp only at h|-;cases h2:eH P call false nt bd LT R1 (W1.put l (.loop .busy WN R9 OJ Ps PT Pe)) ke with
      |none=>rw[h2]at h;cases h
      |some q2=>
       rw[h2]at h;rw[Hf h2];obtain⟨x2,R2,W2⟩:=q2;simp only[bL]at h|-;cases tL:W2.get l with
       |none=>rw[tL]at h;cases h
       |some aj7=>
        rw[tL]at h;cases aj7 with
        |loop st8 pd8 R8 X7 Y2 Yg XZ=>cases x2<;>exact h
        |_=>cases h
     |_=>cases h
    |_=>cases h
end
def Tx(R:Nat->ad)(t:Nat)(v:ad):Nat->ad:=λu=>Bool.rec (motive:=λ_=>ad) (R u) v (Nat.beq u t)
def adN:Nat->ad:=λ_=>ak
def QJ(R:Nat->ad)(t:Nat)(v:ad):Tx R t v t=v:=by unfold Tx;rw[qi]
def ZY(R:Nat->ad)(t u:Nat)(v:ad)(h:t≠u):Tx R t v u=R u:=by
 unfold Tx;have:Nat.beq u t=false:=by
  cases hb:Nat.beq u t with
  |true=>exact absurd (wh hb).symm h
  |false=>rfl
 rw[this]
@[reducible] noncomputable def acX (D:Nat->Array aj->Option (List (Nat×List Nat))) (ng:List Nat) (ex:ae->Bool:=λ_=>false):ah where
 D:=D
 ex:=ex
 ng:=ng
 Fr:=Nat->ad
 En:=λR t=>R t
 VM:=Tx
 blank:=adN
 lz:=QJ
 fJ:=ZY
 Aw:=λ_=>rfl
def ahJ(g:Nat):ad:=.pointer (some ⟨g,0,none⟩)
def rB(f:gE):ad:=.func (.func f) #[] #[]
def ac8(l:List Nat):ByteArray:=⟨(l.map UInt8.ofNat).toArray⟩
def Co(l:List Nat):ad:=.string (ac8 l)
def IY(P:ag)(i:Nat):bA:=match P.funcs[i]? with
 |some fn=>(match fn.body with
  |some c=>c
  |none=>.skip)
 |none=>.skip
def Vq(P:ag)(i:Nat):Array ResultVar:=match P.funcs[i]? with
 |some fn=>fn.results
 |none=>#[]
def wR:List Nat->bA->bA
 |[],c=>c
 |n::p,c=>match c with
  |.seq a b=>wR p (if n=0 then a else b)
  |.cond _ a b=>wR p (if n=0 then a else b)
  |.rangeFunc _ _ a b=>wR p (if n=0 then a else b)
  |.block _ b=>wR p b
  |.loop b=>wR p b
  |.scope b=>wR p b
  |_=>.skip
section
variable [ah]
def Kh(c d:Callee):Prop:=∀f a W r,c f a W=some r->d f a W=some r
def Kh.refl(c:Callee):Kh c c:=λ_ _ _ _ h=>h
def Kh.trans{a b c:Callee}(h:Kh a b)(k:Kh b c):Kh a c:=λf x W r e=>k _ _ _ _ (h _ _ _ _ e)
section
variable {P:ag}
def KV(P:ag)(o:aj)(R:ah.Fr)(W:AW):(∀c d:Callee,qF P c o R W=qF P d o R W)\/∃f a,∀c:Callee,qF P c o R W=c f a W:=by
 simp only[vX];obtain⟨dst,op,type,pos,after,guard⟩:=o;cases op with
 |call k=>
  obtain⟨callee,args,ts⟩:=k;cases callee with
  |builtin b=>exact .inl λ_ _=>rfl
  |value f=>exact .inr ⟨_,_,λ_=>rfl⟩
  |invoke r name=>
   simp only[gw];cases ax R r with
   |iface t v=>
    simp only;cases rN P t name with
    |none=>exact .inl λ_ _=>rfl
    |some f=>exact .inr ⟨_,_,λ_=>rfl⟩
   |_=>exact .inl λ_ _=>rfl
 |_=>exact .inl λ_ _=>rfl
def OD{c d:Callee}(h:Kh c d){o:aj}{R:ah.Fr}{W:AW}{r:ad×AW}(e:qF P c o R W=some r):qF P d o R W=some r:=by
 rcases KV P o R W with hd|⟨f,a,hd⟩
 ·rw[<-e];exact hd _ _
 ·rw[hd]at e|-;exact h _ _ _ _ e
def yx{c d:Callee}(h:Kh c d){ops:Array aj}{o:aj}{R:ah.Fr}{W:AW}{r:ah.Fr×AW}(e:kw P c ops o R W=some r):kw P d ops o R W=some r:=by
 unfold kw at e|-;split
 ·rename_i hw;rw[aq hw]at e;cases ho:qF P c o R W with
  |none=>rw[ho]at e;cases e
  |some q=>rw[ho]at e;rw[OD h ho];exact e
 ·rename_i hw;rw[ap hw]at e;exact e
def Il{c d:Callee}(h:Kh c d){ops:Array aj}:∀{l:List aj} {R:ah.Fr} {W:AW} {r:ah.Fr×AW},oW P c ops l R W=some r->oW P d ops l R W=some r:=by
 intro l;induction l with
 |nil=>intro R W r e;exact e
 |cons o l ih=>
  intro R W r e;rw[oW]at e|-;cases hs:kw P c ops o R W with
  |none=>rw[hs]at e;cases e
  |some q=>rw[hs]at e;rw[yx h hs];exact ih e
def zT{c d:Callee}(h:Kh c d){ops:Array aj}{R:ah.Fr}{W:AW}{j:Nat}(e:pV P c ops R W j=true):pV P d ops R W j=true:=by
 unfold pV at e|-;cases hj:ops[j]? with
 |none=>rw[hj]at e;cases e
 |some o=>
  rw[hj]at e;simp only at e|-;split
  ·rename_i hw;rw[aq hw]at e;cases ho:qF P c o R W with
   |none=>rw[ho]at e;cases e
   |some q=>rw[ho]at e;rw[OD h ho];exact e
  ·rfl
def LI{c d:Callee}(h:Kh c d){ops:Array aj}:∀{l:List (Nat×List Nat)} {R:ah.Fr} {W:AW} {r:ah.Fr×AW},jU P c ops l R W=some r->jU P d ops l R W=some r:=by
 intro l;induction l with
 |nil=>intro R W r e;exact e
 |cons p l ih=>
  intro R W r e;obtain⟨i,re⟩:=p;rw[jU]at e|-;cases hi:ops[i]? with
  |none=>rw[hi]at e;cases e
  |some o=>
   rw[hi]at e;simp only at e|-;cases hs:kw P c ops o R W with
   |none=>rw[hs]at e;cases e
   |some q=>
    rw[hs]at e;rw[yx h hs];simp only at e|-;split at e
    ·rename_i hr;rw[aq (cw.2 λj hj=>zT h (cw.1 hr j hj))];exact ih e
    ·cases e
def lg{c d:Callee}(h:Kh c d){top:Bool}{nt:Nat}:∀(k:bA) {R:ah.Fr} {W:AW} {r:LT},bQ P c top nt k R W=some r->bQ P d top nt k R W=some r:=by
 intro k;induction k with
 |skip=>intro R W r e;exact e
 |label l=>intro R W r e;exact e
 |exit id=>intro R W r e;exact e
 |ret=>intro R W r e;exact e
 |goto l=>intro R W r e;exact e
 |scope b _=>intro R W r e;exact e
 |refuse s=>intro R W r e;exact e
 |region id ops Ar=>
  intro R W r e;unfold bQ at e|-;cases Ar with
  |false=>
   simp only at e|-;cases hs:oW P c ops ops.toList R W with
   |none=>rw[hs]at e;cases e
   |some q=>rw[hs]at e;rw[Il h hs];exact e
  |true=>
   simp only at e|-;cases hD:ah.D id ops with
   |none=>
    rw[hD]at e;simp only at e|-;cases hs:oW P c ops ops.toList R W with
    |none=>rw[hs]at e;cases e
    |some q=>rw[hs]at e;rw[Il h hs];exact e
   |some pl=>
    rw[hD]at e;simp only at e|-;cases hs:jU P c ops pl R W with
    |none=>rw[hs]at e;cases e
    |some q=>rw[hs]at e;rw[LI h hs];exact e
 |seq a b Wv Ml=>
  intro R W r e;rw[bQ]at e|-;cases ha:bQ P c top nt a R W with
  |none=>rw[ha]at e;cases e
  |some q=>
   rw[ha]at e;rw[Wv ha];obtain⟨x,R',W'⟩:=q;cases x with
   |normal=>exact Ml e
   |exit i=>exact e
   |ret=>exact e
 |cond o a b Wv Ml=>
  intro R W r e;rw[bQ]at e|-;cases ho:ax R o with
  |bool t=>rw[ho]at e;cases t with
   |true=>exact Wv e
   |false=>exact Ml e
  |_=>rw[ho]at e;cases e
 |block id b ih=>
  intro R W r e;rw[bQ]at e|-;cases hb:bQ P c top nt b R W with
  |none=>rw[hb]at e;cases e
  |some q=>rw[hb]at e;rw[ih hb];exact e
 |loop b ih=>intro R W r e;rw[bQ]at e|-;exact DV (λR W q hq=>ih hq) _ _ _ _ e
 |rangeFunc f ps ats bd _ _=>
  intro R W r e;unfold bQ at e|-;cases top with
  |false=>cases e
  |true=>
   simp only at e|-;cases hf:ax R f with
   |func fn fs cs=>
    rw[hf]at e;cases fn with
    |func i=>
     simp only[AW.dm]at e|-;cases hc:c (.func (.func i) fs cs) [.func (.yield W.next) #[] #[]] (W.add (.loop .ready none R nt ps ats bd))with
     |none=>rw[hc]at e;cases e
     |some q=>rw[hc]at e;rw[h _ _ _ _ hc];exact e
    |_=>cases e
   |_=>rw[hf]at e;cases e
def U7{bad:List Nat}{spec c d:Callee}(h:Kh c d):Kh (kG P bad spec c) (kG P bad spec d):=by
 intro f a W r e;unfold kG at e|-;cases f with
 |func fn fs cs=>
  cases fn with
  |func i=>
   simp only at e|-;cases hb:Jw i bad with
   |true=>rw[hb]at e;exact e
   |false=>
    rw[hb]at e;simp only at e|-;cases hf:P.funcs[i]? with
    |none=>rw[hf]at e;cases e
    |some fn=>
     rw[hf]at e;simp only at e|-;cases hc:fn.body with
     |none=>rw[hc]at e;cases e
     |some k=>
      rw[hc]at e;simp only at e|-;cases hl:Nat.ble (fs.toList.length+(a.length+cs.toList.length)) fn.ntmps with
      |false=>rw[hl]at e;cases e
      |true=>
       rw[hl]at e;simp only at e|-;cases hk:bQ P c true fn.ntmps k (cR 0 (fs.toList++(a++cs.toList)) ah.blank) W with
       |none=>rw[hk]at e;cases e
       |some q=>rw[hk]at e;rw[lg h k hk];exact e
  |yield l=>
   simp only at e|-;split at e;case h_2=>cases e
   rename_i R nt ps ats bd hl;cases hn:Nat.beq (fs.toList.length+a.length) ps.size with
   |false=>rw[hn]at e;cases e
   |true=>
    rw[hn]at e;simp only at e|-;cases h1:bQ P c false nt ats (kD ps.toList (fs.toList++a) R) W with
    |none=>rw[h1]at e;cases e
    |some q=>
     rw[h1]at e;rw[lg h ats h1];obtain⟨x,R1,W1⟩:=q;cases x with
     |normal=>
      simp only at e|-;split at e;case h_2=>cases e
      rename_i WN R9 OJ Ps PT Pe hg;cases h2:bQ P c false nt bd R1 (W1.put l (.loop .busy WN R9 OJ Ps PT Pe))with
      |none=>rw[h2]at e;cases e
      |some q2=>rw[h2]at e;rw[lg h bd h2];exact e
     |exit i=>cases e
     |ret=>cases e
  |_=>cases e
 |_=>cases e
section
variable {c:Nat->Callee} {o:Callee}
structure SA (c:Nat->Callee) (o:Callee):Prop where
 up:∀n,Kh (c n) (c (n+1))
 of:∀f a W r,o f a W=some r->∃n,c n f a W=some r
def SA.le(h:SA c o){m n:Nat}(hmn:m<=n):Kh (c m) (c n):=by
 induction hmn with
 |refl=>exact .refl _
 |step _ ih=>exact ih.trans (h.up _)
def Ll(h:SA c o){op:aj}{R:ah.Fr}{W:AW}{r:ad×AW}(e:qF P o op R W=some r):∃n,qF P (c n) op R W=some r:=by
 rcases KV P op R W with hd|⟨f,a,hd⟩
 ·exact⟨0,by rw[<-e];exact hd _ _⟩
 ·rw[hd]at e;obtain⟨n,hn⟩:=h.of _ _ _ _ e;exact⟨n,by rw[hd];exact hn⟩
def GK(h:SA c o){ops:Array aj}{op:aj}{R:ah.Fr}{W:AW}{r:ah.Fr×AW}(e:kw P o ops op R W=some r):∃n,kw P (c n) ops op R W=some r:=by
 unfold kw at e|-;split at e
 ·rename_i hw;cases ho:qF P o op R W with
  |none=>rw[ho]at e;cases e
  |some q=>rw[ho]at e;obtain⟨n,hn⟩:=Ll h ho;exact⟨n,by rw[aq hw,hn];exact e⟩
 ·rename_i hw;exact⟨0,by rw[ap hw];exact e⟩
def J3(h:SA c o){ops:Array aj}:∀{l:List aj} {R:ah.Fr} {W:AW} {r:ah.Fr×AW},oW P o ops l R W=some r->∃n,oW P (c n) ops l R W=some r:=by
 intro l;induction l with
 |nil=>intro R W r e;exact⟨0,e⟩
 |cons op l ih=>
  intro R W r e;rw[oW]at e;cases hs:kw P o ops op R W with
  |none=>rw[hs]at e;cases e
  |some q=>rw[hs]at e;obtain⟨n,hn⟩:=GK h hs;obtain⟨m,hm⟩:=ih e;refine⟨max n m,?_⟩;rw[oW,yx (h.le (sd n m)) hn];exact Il (h.le (wQ n m)) hm
def RX(h:SA c o){ops:Array aj}{R:ah.Fr}{W:AW}{j:Nat}(e:pV P o ops R W j=true):∃n,pV P (c n) ops R W j=true:=by
 unfold pV at e|-;cases hj:ops[j]? with
 |none=>rw[hj]at e;cases e
 |some op=>
  rw[hj]at e;simp only at e|-;split at e
  ·rename_i hw;cases ho:qF P o op R W with
   |none=>rw[ho]at e;cases e
   |some q=>rw[ho]at e;obtain⟨n,hn⟩:=Ll h ho;exact⟨n,by rw[aq hw,hn];exact e⟩
  ·rename_i hw;exact⟨0,by rw[ap hw]⟩
def FQ(h:SA c o){ops:Array aj}{R:ah.Fr}{W:AW}:∀{l:List Nat},l.all (pV P o ops R W)=true->∃n,l.all (pV P (c n) ops R W)=true:=by
 intro l;induction l with
 |nil=>intro _;exact⟨0,rfl⟩
 |cons j l ih=>intro e;simp only[eK,a8]at e;obtain⟨n,hn⟩:=RX h e.1;obtain⟨m,hm⟩:=ih e.2;refine⟨max n m,?_⟩;simp only[eK,a8];exact⟨zT (h.le (sd n m)) hn,cw.2 λj hj=>zT (h.le (wQ n m)) (cw.1 hm j hj)⟩
def QN(h:SA c o){ops:Array aj}:∀{l:List (Nat×List Nat)} {R:ah.Fr} {W:AW} {r:ah.Fr×AW},jU P o ops l R W=some r->∃n,jU P (c n) ops l R W=some r:=by
 intro l;induction l with
 |nil=>intro R W r e;exact⟨0,e⟩
 |cons p l ih=>
  intro R W r e;obtain⟨i,re⟩:=p;rw[jU]at e;cases hi:ops[i]? with
  |none=>rw[hi]at e;cases e
  |some op=>
   rw[hi]at e;simp only at e;cases hs:kw P o ops op R W with
   |none=>rw[hs]at e;cases e
   |some q=>
    rw[hs]at e;simp only at e;split at e
    ·rename_i hr;obtain⟨n,hn⟩:=GK h hs;obtain⟨m,hm⟩:=FQ h hr;obtain⟨k,hk⟩:=ih e;refine⟨max n (max m k),?_⟩;rw[jU,hi];simp only;rw[yx (h.le (sd n _)) hn];simp only;rw[aq (cw.2 λj hj=>zT (h.le (by omega)) (cw.1 hm j hj))];exact LI (h.le (by omega)) hk
    ·cases e
def Rb(h:SA c o){top:Bool}{nt:Nat}{k:bA}(ih:∀{R:ah.Fr} {W:AW} {r:LT},bQ P o top nt k R W=some r->∃n,bQ P (c n) top nt k R W=some r):
 ∀(m:Nat) {R:ah.Fr} {W:AW} {r:LT},jP (bQ P o top nt k) m R W=some r->∃n,jP (bQ P (c n) top nt k) m R W=some r:=by
 intro m;induction m with
 |zero=>intro R W r e;cases e
 |succ m ihm=>
  intro R W r e;unfold jP at e;cases hb:bQ P o top nt k R W with
  |none=>rw[hb]at e;cases e
  |some q=>
   rw[hb]at e;obtain⟨n,hn⟩:=ih hb;obtain⟨x,R',W'⟩:=q;cases x with
   |normal=>obtain⟨j,hj⟩:=ihm e;refine⟨max n j,?_⟩;unfold jP;rw[lg (h.le (sd n j)) k hn];exact DV (λR W q hq=>lg (h.le (wQ n j)) k hq) _ _ _ _ hj
   |exit i=>exact⟨n,by unfold jP;rw[hn];exact e⟩
   |ret=>exact⟨n,by unfold jP;rw[hn];exact e⟩
def AL(h:SA c o){top:Bool}{nt:Nat}:∀(k:bA) {R:ah.Fr} {W:AW} {r:LT},bQ P o top nt k R W=some r->∃n,bQ P (c n) top nt k R W=some r:=by
 intro k;induction k with
 |skip=>intro R W r e;exact⟨0,e⟩
 |label l=>intro R W r e;exact⟨0,e⟩
 |exit id=>intro R W r e;exact⟨0,e⟩
 |ret=>intro R W r e;exact⟨0,e⟩
 |goto l=>intro R W r e;exact⟨0,e⟩
 |scope b _=>intro R W r e;exact⟨0,e⟩
 |refuse s=>intro R W r e;exact⟨0,e⟩
 |region id ops Ar=>
  intro R W r e;unfold bQ at e|-;cases Ar with
  |false=>
   simp only at e|-;cases hs:oW P o ops ops.toList R W with
   |none=>rw[hs]at e;cases e
   |some q=>rw[hs]at e;obtain⟨n,hn⟩:=J3 h hs;exact⟨n,by rw[hn];exact e⟩
  |true=>
   simp only at e|-;cases hD:ah.D id ops with
   |none=>
    rw[hD]at e;simp only at e|-;cases hs:oW P o ops ops.toList R W with
    |none=>rw[hs]at e;cases e
    |some q=>rw[hs]at e;obtain⟨n,hn⟩:=J3 h hs;exact⟨n,by rw[hn];exact e⟩
   |some pl=>
    rw[hD]at e;simp only at e|-;cases hs:jU P o ops pl R W with
    |none=>rw[hs]at e;cases e
    |some q=>rw[hs]at e;obtain⟨n,hn⟩:=QN h hs;exact⟨n,by rw[hn];exact e⟩
 |seq a b Wv Ml=>
  intro R W r e;rw[bQ]at e;cases ha:bQ P o top nt a R W with
  |none=>rw[ha]at e;cases e
  |some q=>
   rw[ha]at e;obtain⟨n,hn⟩:=Wv ha;obtain⟨x,R',W'⟩:=q;cases x with
   |normal=>obtain⟨m,hm⟩:=Ml e;refine⟨max n m,?_⟩;rw[bQ,lg (h.le (sd n m)) a hn];exact lg (h.le (wQ n m)) b hm
   |exit i=>exact⟨n,by rw[bQ,hn];exact e⟩
   |ret=>exact⟨n,by rw[bQ,hn];exact e⟩
 |cond q a b Wv Ml=>
  intro R W r e;rw[bQ]at e;cases ho:ax R q with
  |bool t=>rw[ho]at e;cases t with
   |true=>obtain⟨n,hn⟩:=Wv e;exact⟨n,by rw[bQ,ho];exact hn⟩
   |false=>obtain⟨n,hn⟩:=Ml e;exact⟨n,by rw[bQ,ho];exact hn⟩
  |_=>rw[ho]at e;cases e
 |block id b ih=>
  intro R W r e;rw[bQ]at e;cases hb:bQ P o top nt b R W with
  |none=>rw[hb]at e;cases e
  |some q=>rw[hb]at e;obtain⟨n,hn⟩:=ih hb;exact⟨n,by rw[bQ,hn];exact e⟩
 |loop b ih=>intro R W r e;rw[bQ]at e;obtain⟨n,hn⟩:=Rb h (λe=>ih e) _ e;exact⟨n,by rw[bQ];exact hn⟩
 |rangeFunc f ps ats bd _ _=>
  intro R W r e;unfold bQ at e|-;cases top with
  |false=>cases e
  |true=>
   simp only at e|-;cases hf:ax R f with
   |func fn fs cs=>
    rw[hf]at e;cases fn with
    |func i=>
     simp only[AW.dm]at e|-;cases hc:o (.func (.func i) fs cs) [.func (.yield W.next) #[] #[]] (W.add (.loop .ready none R nt ps ats bd))with
     |none=>rw[hc]at e;cases e
     |some q=>rw[hc]at e;obtain⟨n,hn⟩:=h.of _ _ _ _ hc;exact⟨n,by rw[hn];exact e⟩
    |_=>cases e
   |_=>rw[hf]at e;cases e
def QI(h:SA c o){bad:List Nat}{spec:Callee}{f:ad}{a:List ad}{W:AW}{r:ad×AW}(e:kG P bad spec o f a W=some r):∃n,kG P bad spec (c n) f a W=some r:=by
 unfold kG at e|-;cases f with
 |func fn fs cs=>
  cases fn with
  |func i=>
   simp only at e|-;cases hb:Jw i bad with
   |true=>rw[hb]at e;exact⟨0,e⟩
   |false=>
    rw[hb]at e;simp only at e|-;cases hf:P.funcs[i]? with
    |none=>rw[hf]at e;cases e
    |some fn=>
     rw[hf]at e;simp only at e|-;cases hc:fn.body with
     |none=>rw[hc]at e;cases e
     |some k=>
      rw[hc]at e;simp only at e|-;cases hl:Nat.ble (fs.toList.length+(a.length+cs.toList.length)) fn.ntmps with
      |false=>rw[hl]at e;cases e
      |true=>
       rw[hl]at e;simp only at e|-;cases hk:bQ P o true fn.ntmps k (cR 0 (fs.toList++(a++cs.toList)) ah.blank) W with
       |none=>rw[hk]at e;cases e
       |some q=>rw[hk]at e;obtain⟨n,hn⟩:=AL h k hk;exact⟨n,by rw[hn];exact e⟩
  |yield l=>
   simp only at e|-;split at e;case h_2=>cases e
   rename_i R nt ps ats bd hl;cases hn:Nat.beq (fs.toList.length+a.length) ps.size with
   |false=>rw[hn]at e;cases e
   |true=>
    rw[hn]at e;simp only at e|-;cases h1:bQ P o false nt ats (kD ps.toList (fs.toList++a) R) W with
    |none=>rw[h1]at e;cases e
    |some q=>
     rw[h1]at e;obtain⟨n,hn1⟩:=AL h ats h1;obtain⟨x,R1,W1⟩:=q;cases x with
     |normal=>
      simp only at e;split at e;case h_2=>cases e
      rename_i WN R9 OJ Ps PT Pe hg;cases h2:bQ P o false nt bd R1 (W1.put l (.loop .busy WN R9 OJ Ps PT Pe))with
      |none=>rw[h2]at e;cases e
      |some q2=>rw[h2]at e;obtain⟨m,hm⟩:=AL h bd h2;refine⟨max n m,?_⟩;rw[lg (h.le (sd n m)) ats hn1];simp only;rw[hg];simp only;rw[lg (h.le (wQ n m)) bd hm];exact e
     |exit i=>cases e
     |ret=>cases e
  |_=>cases e
 |_=>cases e
end
end
end
section
variable [ah]
def WL.back{σ σ':cI}(hs:Sub σ σ'){f u u':Fn}(h:WL σ f u)(k:WL σ' f u'):WL σ f u':=by
 cases h with
 |func f=>cases k;exact .func f
 |yield l g hg=>
  cases k with
  |yield _ g' Bo=>have:=(hs _ _ hg).symm.trans Bo;injection this with this;subst this;exact .yield l g hg
def VR.back{σ σ':cI}(hs:Sub σ σ'){v u:ad}(h:VR σ v u):∀{u':ad},VR σ' v u'->VR σ v u':=by
 induction h with
 |bool b=>intro u' k;cases k;exact .bool b
 |int k n=>intro u' k;cases k;exact .int _ _
 |float k n=>intro u' k;cases k;exact .float _ _
 |string s=>intro u' k;cases k;exact .string s
 |J0=>intro u' k;cases k;exact .J0
 |ptr a g hg tI=>
  intro u' k;cases k with
  |ptr _ g' Bo EP=>have:=(hs _ _ hg).symm.trans Bo;injection this with this;subst this;exact .ptr a g hg tI
 |DO l c=>intro u' k;cases k;exact .DO _ _
 |slice a l c c' g hg tI hc=>
  intro u' k;cases k with
  |slice _ _ _ c2 g' Bo EP xC=>have:=(hs _ _ hg).symm.trans Bo;injection this with this;subst this;exact .slice a l c c2 g hg tI xC
  |cX _ a' _ g' Bo xC=>have:=(hs _ _ hg).symm.trans Bo;injection this with this;subst this;exact .cX a a' c g hg xC
 |cX a a' c g hg hc=>
  intro u' k;cases k with
  |slice _ _ _ c2 g' Bo EP xC=>have:=(hs _ _ hg).symm.trans Bo;injection this with this;subst this;exact .slice a 0 c c2 g hg EP xC
  |cX _ a2 _ g' Bo xC=>exact .cX a a2 c g hg xC
 |Ni=>intro u' k;cases k;exact .Ni
 |map r g hg=>
  intro u' k;cases k with
  |map _ g' Bo=>have:=(hs _ _ hg).symm.trans Bo;injection this with this;subst this;exact .map r g hg
 |nilFunc=>intro u' k;cases k;exact .nilFunc
 |func fn FA fs tH cs ck hf h1 _ h3 _ ih1 ih2=>
  intro u' k;cases k with
  |func _ fn2 _ fs2 _ DK kf k1 k2 k3 k4=>
   refine .func _ _ _ _ _ _ (hf.back hs kf) k1 (λi v v' a b=>?_) k3 (λi v v' a b=>?_)
   ·have hi:i<tH.size:=by rw[<-h1];exact(dC.1 a).1
    exact ih1 i v _ a (hZ hi) (k2 i v v' a b)
   ·have hi:i<ck.size:=by rw[<-h3];exact(dC.1 a).1
    exact ih2 i v _ a (hZ hi) (k4 i v v' a b)
 |nilIface=>intro u' k;cases k;exact .nilIface
 |iface t v v' _ ih=>
  intro u' k;cases k with
  |iface _ _ v2 k=>exact .iface t v v2 (ih k)
 |agg cs ck h1 _ ih=>
  intro u' k;cases k with
  |agg _ DK k1 k2=>
   refine .agg _ _ k1 λi v v' a b=>?_
   have hi:i<ck.size:=by rw[<-h1];exact(dC.1 a).1
   exact ih i v _ a (hZ hi) (k2 i v v' a b)
 |tuple cs ck h1 _ ih=>
  intro u' k;cases k with
  |tuple _ DK k1 k2=>
   refine .tuple _ _ k1 λi v v' a b=>?_
   have hi:i<ck.size:=by rw[<-h1];exact(dC.1 a).1
   exact ih i v _ a (hZ hi) (k2 i v v' a b)
def mf.back{σ σ':cI}(hs:Sub σ σ'){h h':Array Obj}{g:vC}{o:db}(a:mf σ h g o)(b:mf σ' h' g o):mf σ h' g o:=by
 cases o with
 |cells cs=>obtain⟨c1,t1,_,_,_,_,_,e4⟩:=a;obtain⟨c2,t2,fr2,f1,f0,f2,f3,f4⟩:=b;refine⟨c2,t2,fr2,f1,f0,f2,f3,λi v hv=>?_⟩;obtain⟨v1,_,x⟩:=e4 i v hv;obtain⟨v2,y1,y2⟩:=f4 i v hv;exact⟨v2,y1,x.back hs y2⟩
 |ro cs=>obtain⟨c1,t1,fr1,_,_,e4⟩:=a;obtain⟨c2,t2,fr2,f1,f2,f4⟩:=b;refine⟨c2,t2,fr2,f1,f2,λi v hv=>?_⟩;obtain⟨v1,_,x⟩:=e4 i v hv;obtain⟨v2,y1,y2⟩:=f4 i v hv;exact⟨v2,y1,x.back hs y2⟩
 |map es kH=>
  obtain⟨e1,e2,es1,_,⟨e3,e4⟩⟩:=a;obtain⟨f1,f2,Yc,f3,⟨f4,f5⟩⟩:=b;refine⟨f1,f2,Yc,f3,f4,λi e e' x y=>?_⟩;have hi:i<es1.toList.length:=by rw[<-e3];exact(cn.1 x).1
  obtain⟨p1,p2,_⟩:=e4 i e _ x (bS hi);obtain⟨q1,q2,q3⟩:=f5 i e e' x y;exact⟨p1.back hs q1,p2.back hs q2,q3⟩
 |loop st mZ R nt ps ats bd=>obtain⟨_,_,r1,_,_,_,⟨_,e4⟩,_,_,_,e8,e9,e10⟩:=a;obtain⟨f1,f2,r2,f3,f4,f5,⟨f6,f7⟩,f8,f9,f10,_,_,_⟩:=b;exact⟨f1,f2,r2,f3,f4,f5,⟨f6,λt ht=>(e4 t ht).back hs (f7 t ht)⟩,f8,f9,f10,e8,e9,e10⟩
 |mW s pos=>exact b
 |tc t cs=>obtain⟨_,_,_,c1,_,_,_,e4⟩:=a;obtain⟨b1,b2,b3,c2,f1,f2,f3,f4⟩:=b;refine⟨b1,b2,b3,c2,f1,f2,f3,λi v hv=>?_⟩;obtain⟨v1,_,x⟩:=e4 i v hv;obtain⟨v2,y1,y2⟩:=f4 i v hv;exact⟨v2,y1,x.back hs y2⟩
structure Le (W W':AW):Prop where
 next:W.next<=W'.next
 get:∀b,b<W.next->W'.get b=W.get b
def Le.refl(W:AW):Le W W:=⟨aM _,λ_ _=>rfl⟩
def Le.trans{A B C:AW}(h:Le A B)(k:Le B C):Le A C:=⟨eW h.next k.next,λb hb=>(k.get b (eE hb h.next)).trans (h.get b hb)⟩
def Le.add{W W':AW}(h:Le W W')(o:db):Le W (W'.add o):=
 ⟨eW h.next (by rw[AW.ar];omega),λb hb=>by rw[AW.aD _ _ (by have:=h.next;omega)];exact h.get b hb⟩
def Le.put{W W':AW}(h:Le W W'){b:Nat}(hb:W.next<=b)(o:db):Le W (W'.put b o):=
 ⟨h.next,λc hc=>by rw[AW.ay _ _ (by omega)];exact h.get c hc⟩
def Le.kill{W W':AW}(h:Le W W'){b:Nat}(hb:W.next<=b):Le W (W'.kill b):=
 ⟨h.next,λc hc=>by rw[AW.cE _ (by omega)];exact h.get c hc⟩
def XN{σ σ':cI}{W W':AW}{w w':am}(hW:bg σ W w.heap)(aS:Le W W')(h1:bg σ' W' w'.heap)(he:eF σ W w σ' W' w'):bg σ W w'.heap/\eF σ W w σ W w':=by
 have kW:∀b o,W.get b=some o->b<W.next:=λb o hb=>by
  rcases zE b W.next with h|h
  ·exact h
  ·rw[hW.free b h]at hb;cases hb
 refine⟨⟨hW.free,λb g hg=>⟨(hW.m8 b g hg).1,eE (hW.m8 b g hg).2 he.size⟩,λb o g hb hg=>?_,λb1 b2 o1 o2 g1 g2 ee a1 a2 k1 k2 hr=>?_⟩,
  ⟨.refl _,λ_ _ h=>h,he.size,he.os,he.tape,he.output,he.keep,λ_ _ h k=>⟨h,k⟩,λb g hg _=>.inl hg⟩⟩
 ·exact(hW.obj b o g hb hg).back he.sub (h1.obj b o g (by rw[aS.get b (kW b o hb)];exact hb) (he.sub _ _ hg))
 ·exact hW.qK b1 b2 o1 o2 g1 g2 ee a1 a2 k1 k2 hr
def XE:ad->Bool
 |.tuple vs=>vs.isEmpty
 |_=>false
def gc(W:AW)(r:ad×AW):ad×AW:=
 open Classical in if(bC r.1&& !XE r.1)=true/\Le W r.2 then(r.1,W)else r
def E3{W W':AW}{v:ad}(hv:(bC v&& !XE v)=true)(h:Le W W'):gc W (v,W')=(v,W):=by unfold gc;rw[aq ⟨hv,h⟩]
def pC{W W':AW}{v:ad}(hv:(bC v&& !XE v)=false):gc W (v,W')=(v,W'):=by unfold gc;rw[ap (by simp only[hv];simp)]
def gcF(f:ad)(W:AW)(r:ad×AW):ad×AW:=match f with
 |.func (.func _) _ _=>gc W r
 |_=>r
def af2{P:ag}{ng:List Nat}{c:Callee}(hc:bI P ng c):bI P ng λf a W=>(c f a W).map (gcF f W):=by
 intro f args W v W' h σ w f' cu hW hG hf cq;simp only at h;cases hr:c f args W with
 |none=>rw[hr]at h;cases h
 |some q=>
  rw[hr]at h;obtain⟨v1,W1⟩:=q;have hk:=hc f args W v1 W1 hr σ w f' cu hW hG hf cq;simp only[cF,gK]at h;unfold gcF at h;split at h;case h_2=>injection h with e1 e2;subst e1;subst e2;exact hk
  unfold gc at h;split at h
  ·rename_i hp;injection h with e1 e2;subst e1;subst e2;have nQ:bC v1=true:=(a8 _ _▸hp.1).1;have key:∀(R R':ad->am->Prop),(∀v' w',R v' w'->R' v' w')->xD P f' cu w R->xD P f' cu w R':=by
    intro R R' hRR hC;unfold xD at hC|-;split at hC
    ·exact⟨hC.1,lL hC.2 λe w' ⟨u,hu,hr⟩=>⟨u,hu,hRR _ _ hr⟩⟩
    ·obtain⟨f,tmps,ats,bd,k1,k2⟩:=hC;exact⟨f,tmps,ats,bd,k1,RoundIn.mono k2 λe w' ⟨u,hu,hr⟩=>⟨u,hu,hRR _ _ hr⟩⟩
    ·exact hC.elim
   refine key _ _ (λv' w' ⟨σ',k1,k2,k3⟩=>?_) hk;obtain⟨d1,d2⟩:=XN hW hp.2 k2 k3;have:v'=v1:=fe nQ k1;subst this;exact⟨σ,g8 nQ,d1,d2⟩
  ·injection h with e1 e2;subst e1;subst e2;exact hk
section
variable (P:ag) (bad:List Nat) (spec:Callee)
def gC:Nat->Callee
 |0=>λ_ _ _=>none
 |n+1=>λf a W=>(kG P bad spec (gC n) f a W).map (gcF f W)
def agU:∀n,Kh (gC P bad spec n) (gC P bad spec (n+1)):=by
 intro n;induction n with
 |zero=>intro f a W r h;cases h
 |succ n ih=>
  intro f a W r h;have h':(kG P bad spec (gC P bad spec n) f a W).map (gcF f W)=some r:=h;show(kG P bad spec (gC P bad spec (n+1)) f a W).map (gcF f W)=some r;cases hb:kG P bad spec (gC P bad spec n) f a W with
  |none=>rw[hb]at h';cases h'
  |some q=>rw[hb]at h';rw[U7 ih _ _ _ _ hb];exact h'
def om:Callee:=λf a W=>open Classical in if h:∃r n,gC P bad spec n f a W=some r then some (Classical.choose h)else none
def HL:SA (gC P bad spec) (om P bad spec):=by
 refine⟨agU P bad spec,λf a W r h=>?_⟩;unfold om at h;split at h
 ·rename_i hx;injection h with h;subst h;exact sQ hx
 ·cases h
def agS{n:Nat}{f:ad}{a:List ad}{W:AW}{r:ad×AW}(h:gC P bad spec n f a W=some r):om P bad spec f a W=some r:=by have hx:∃r n,gC P bad spec n f a W=some r:=⟨r,n,h⟩;unfold om;rw[dif_pos hx];obtain⟨m,hm⟩:=sQ hx;have h1:=(HL P bad spec).le (sd n m) _ _ _ _ h;have h2:=(HL P bad spec).le (wQ n m) _ _ _ _ hm;rw[h1]at h2;exact h2.symm
def Iy{f:ad}{a:List ad}{W:AW}{r:ad×AW}(h:kG P bad spec (om P bad spec) f a W=some r):om P bad spec f a W=some (gcF f W r):=by obtain⟨n,hn⟩:=QI (HL P bad spec) h;refine agS P bad spec (n:=n+1) ?_;show(kG P bad spec (gC P bad spec n) f a W).map (gcF f W)=_;rw[hn];rfl
variable {P bad spec}
def abf(hm:P.follows .mixedOrders=true)(hP:km ah.ng bad 0 P.funcs.toList=true)(hs:bI P ah.ng spec):∀n,bI P ah.ng (gC P bad spec n)
 |0=>λf args W v W' h=>by cases h
 |n+1=>af2 (BT hm rfl hP hs (abf hm hP hs n))
def aiU(hm:P.follows .mixedOrders=true)(hP:km ah.ng bad 0 P.funcs.toList=true)(hs:bI P ah.ng spec):bI P ah.ng (om P bad spec):=by intro f args W v W' h;obtain⟨n,hn⟩:=(HL P bad spec).of _ _ _ _ h;exact abf hm hP hs n f args W v W' hn
def abT{i:Nat}{fn:eO}{c:bA}(hb:Jw i bad=false)(hf:P.funcs[i]? =some fn)(hc:fn.body=some c){fs cs:Array ad}{args:List ad}
 (hn:Nat.ble (fs.toList.length+(args.length+cs.toList.length)) fn.ntmps=true){W:AW}{r:ad×AW}(h:Wy P (om P bad spec) fn.ntmps c fn.results (fs.toList++(args++cs.toList)) W=some r):
 om P bad spec (.func (.func i) fs cs) args W=some (gc W r):=Iy P bad spec (Sj hb hf hc hn h)
def W7{l nt:Nat}{R:ah.Fr}{ps:Array Tmp}{ats bd:bA}{W:AW}(hl:W.get l=some (.loop .ready none R nt ps ats bd)){fs cs:Array ad}{args:List ad}(hn:fs.toList.length+args.length=ps.size)
 {r:ad×AW}(h:Jf P (om P bad spec) l nt ats bd (kD ps.toList (fs.toList++args) R) W=some r):om P bad spec (.func (.yield l) fs cs) args W=some r:=Iy P bad spec (Lw hl hn h)
def Jh{i:Nat}(hb:Jw i bad=true){fs cs:Array ad}{args:List ad}{W:AW}{r:ad×AW}(h:spec (.func (.func i) fs cs) args W=some r):
 om P bad spec (.func (.func i) fs cs) args W=some (gc W r):=by
 refine Iy P bad spec ?_;unfold kG;simp only[hb];exact h
end
end
section
variable [ah]
def Ai{α ρ:Type}(a:α)(g:α->Option ρ):dN (some a) g=g a:=by rw[E4];rfl
section
variable {P:ag} {W:AW}
def ad6(v:ad):gy v W=some (v,W):=aL rfl rfl
def jf(cs:Array ad):nG (.agg cs) W=some (.pointer (some ⟨W.next,0,none⟩),W.add (.cells cs.toList)):=aL rfl rfl
def LU(k:aO)(n:Int):nG (.int k n) W=some (.pointer (some ⟨W.next,0,none⟩),W.add (.cells [.int k n])):=aL rfl rfl
def Qh(b:Bool):nG (.bool b) W=some (.pointer (some ⟨W.next,0,none⟩),W.add (.cells [.bool b])):=aL rfl rfl
def K0(s:ByteArray):nG (.string s) W=some (.pointer (some ⟨W.next,0,none⟩),W.add (.cells [.string s])):=aL rfl rfl
def Oy(a:Option aP)(l c:Nat):nG (.slice a l c) W=some (.pointer (some ⟨W.next,0,none⟩),W.add (.cells [.slice a l c])):=aL rfl rfl
def RE(f:Fn)(a b:Array ad):nG (.func f a b) W=some (.pointer (some ⟨W.next,0,none⟩),W.add (.cells [.func f a b])):=aL rfl rfl
def Mr(f:gE)(a b:Array ad):pX (.func f) a b W=some (.func (.func f) a b,W):=aL rfl rfl
def IL(a b:ad):oZ (.tuple #[a,b]) 0 W=some (a,W):=aL rfl rfl
def HP(a b:ad):oZ (.tuple #[a,b]) 1 W=some (b,W):=aL rfl rfl
def Hw(a b c:ad):oZ (.tuple #[a,b,c]) 0 W=some (a,W):=aL rfl rfl
def H4(a b c:ad):oZ (.tuple #[a,b,c]) 1 W=some (b,W):=aL rfl rfl
def H7(a b c:ad):oZ (.tuple #[a,b,c]) 2 W=some (c,W):=aL rfl rfl
def WQ(b:Bool):qk (.bool b) true=b:=by cases b<;>exact aL rfl rfl
def QD(b:Bool):qk (.bool b) false= !b:=by cases b<;>exact aL rfl rfl
def SQ{ρ:Type}(a b:ρ):nj true a b=a:=aL rfl rfl
def QW{ρ:Type}(a b:ρ):nj false a b=b:=aL rfl rfl
def WO{ρ:Type}(c:Bool)(a b:Option ρ):Jy (.bool c) a b=nj c a b:=aL rfl rfl
def Ob(c:Bool)(a b:ad):pj (.bool c) a b W=some (nj c a b,W):=by cases c<;>exact aL rfl rfl
def Ja{ρ:Type}(a b:Option ρ):tP X.normal a b=a:=aL rfl rfl
def Nh{ρ:Type}(i:Nat)(a b:Option ρ):tP (X.exit i) a b=b:=aL rfl rfl
def P7{ρ:Type}(a b:Option ρ):tP X.ret a b=b:=aL rfl rfl
def Nv{ρ:Type}(i:Nat)(a b:Option ρ):xv i (X.exit i) a b=a:=by show Bool.rec b a (Nat.beq i i)=a;rw[qi]
def QR{ρ:Type}(i:Nat)(a b:Option ρ):xv i X.ret a b=b:=aL rfl rfl
def Ic{ρ:Type}(i:Nat)(a b:Option ρ):xv i X.normal a b=b:=aL rfl rfl
def Q6{ρ:Type}(a:Option ρ):DN X.ret a=a:=aL rfl rfl
def YE(b:Bool):oUn P .not (.bool b) W=some (.bool (!b),W):=aL rfl rfl
def UR(f:gE):rB f=.func (.func f) #[] #[]:=aL rfl rfl
def jK{op:BinOp}{t:ae}{c d:Bool}{k:aO}{a b:Int}{v:ad}(h:Bc op k a b=some v):bs P op t c d (.int k a) (.int k b) W=some (v,W):=by unfold bs nl;simp only[aq,h]
def rC{n:Int}(h1: -9223372036854775808<=n)(h2:n<9223372036854775808):IntKind.i64.wrap n=n:=by unfold IntKind.wrap;simp only[IntKind.bits,IntKind.signed,np];split<;>rename_i h<;>simp at h<;>omega
def oU{t:ae}{c d:Bool}{a b:Int}(h1: -9223372036854775808<=a+b)(h2:a+b<9223372036854775808):bs P .add t c d (.af a) (.af b) W=some (.af (a+b),W):=
 jK (by simp only[Bc,oL,vT,rC h1 h2])
def vl{t:ae}{c d:Bool}{a b:Int}(h1: -9223372036854775808<=a-b)(h2:a-b<9223372036854775808):bs P .sub t c d (.af a) (.af b) W=some (.af (a-b),W):=
 jK (by simp only[Bc,oL,vT,rC h1 h2])
def SE{t:ae}{c d:Bool}{a b:Int}(h1: -9223372036854775808<=a*b)(h2:a*b<9223372036854775808):bs P .mul t c d (.af a) (.af b) W=some (.af (a*b),W):=
 jK (by simp only[Bc,oL,vT,rC h1 h2])
def Ws{t:ae}{c d:Bool}{k:aO}{a b:Int}:bs P .lss t c d (.int k a) (.int k b) W=some (.bool (decide (a<b)),W):=jK rfl
def Wu{t:ae}{c d:Bool}{k:aO}{a b:Int}:bs P .leq t c d (.int k a) (.int k b) W=some (.bool (decide (a<=b)),W):=jK rfl
def UY{t:ae}{c d:Bool}{k:aO}{a b:Int}:bs P .gtr t c d (.int k a) (.int k b) W=some (.bool (decide (b<a)),W):=jK rfl
def Wo{t:ae}{c d:Bool}{k:aO}{a b:Int}:bs P .geq t c d (.int k a) (.int k b) W=some (.bool (decide (b<=a)),W):=jK rfl
def Xg{t:ae}{c d:Bool}{k:aO}{a b:Int}:bs P .eql t c d (.int k a) (.int k b) W=some (.bool (decide (a=b)),W):=jK rfl
def SF{t:ae}{c d:Bool}{k:aO}{a b:Int}:bs P .neq t c d (.int k a) (.int k b) W=some (.bool (!decide (a=b)),W):=jK rfl
def JB{s:Sem ad}{v:ad}(h:bW P s=some v):yL (bW P (do pure (.value (<-s))))=some v:=by
 induction s with
 |pure a=>simp only[bW]at h;injection h with h;subst h;rfl
 |program k ih=>exact ih P h
 |_=>simp[bW]at h
def oG{op:BinOp}{t:ae}{c d:Bool}{x y v:ad}(h0:nl P W op t x y=none)(hx:bC x=true)(hy:bC y=true)(hv:bC v=true)
 (hp:bW P (do eqGuard op t (opd c) (opd d) x y;binOp op t x y:Sem ad)=some v):bs P op t c d x y W=some (v,W):=by
 unfold bs;rw[h0];simp only[mo,hx,hy,ki,ba,JB hp,hv,cF]
def TD{t:ae}{c d:Bool}{k:aO}{a b:Int}(hb:b≠0):bs P .rem t c d (.int k a) (.int k b) W=some (.int k (a.tmod b),W):=by refine oG (by simp[nl,Bc]) rfl rfl rfl ?_;simp[eqGuard,binOp,Op.intDiv,hb];rfl
def QK{op:BinOp}(ho:op=.and\/op=.or\/op=.xor\/op=.andNot){t:ae}{c d:Bool}{k:aO}{a b n:Int}(h:bW P (Op.intBits op k a b)=some (.int k n)):bs P op t c d (.int k a) (.int k b) W=some (.int k n,W):=by refine oG (by rcases ho with rfl|rfl|rfl|rfl<;>simp[nl,Bc]) rfl rfl rfl ?_;rcases ho with rfl|rfl|rfl|rfl<;>simpa[eqGuard,binOp]using h
def SO{t:ae}{c d:Bool}{k:aO}{a b:Int}:bs P .and t c d (.int k a) (.int k b) W=some (.int k (k.wrap (BitVec.ofInt k.bits a&&&BitVec.ofInt k.bits b).toNat),W):=QK (.inl rfl) rfl
def eT{α β:Type}(s:Sem α)(f:α->Sem β):bW P (s>>=f)=(bW P s).bind λa=>bW P (f a):=by
 induction s with
 |pure a=>rfl
 |program k ih=>exact ih P
 |_=>rfl
def gY{α:Type}(a:α):bW P (pure a:Sem α)=some a:=aL rfl rfl
def CC:bW P (program:Sem ag)=some P:=aL rfl rfl
def dV{t:ae}{d:TypeDesc}(h:P.underlying t=some d):bW P (underlying t)=some d:=by unfold underlying;simp only[eT,CC,bL,h,gY]
def AE{t:ae}{c d:Bool}{a b:ByteArray}:bs P .eql t c d (.string a) (.string b) W=some (.bool (a.toList==b.toList),W):=by
 refine oG ?_ rfl rfl rfl ?_
 ·simp only[nl];have h1:mh P W t (.string a) (.string b)=none:=by unfold mh;split<;>first|rfl|simp_all
  rw[h1];rfl
 ·rfl
def A0{t:ae}{c d:Bool}{a b:ByteArray}:bs P .neq t c d (.string a) (.string b) W=some (.bool (!(a.toList==b.toList)),W):=by
 refine oG ?_ rfl rfl rfl ?_
 ·simp only[nl];have h1:mh P W t (.string a) (.string b)=none:=by unfold mh;split<;>first|rfl|simp_all
  rw[h1];rfl
 ·rfl
def fZ{ts:Array ae}{ty:ae}{cf:Array Bool}{e:ae}(h:(ts[0]?).bind P.underlying=some (.slice e))(a:Option aP)(n c:Nat):aR P .len ts ty cf [.slice a n c] W=some (.af n,W):=by unfold aR;simp only[h];rfl
def MY(v:ad):iS P [(v,none)] W=some (v,W):=aL rfl rfl
def Oa(v u:ad):iS P [(v,none),(u,none)] W=some (.tuple #[v,u],W):=aL rfl rfl
def N1(v u x:ad):iS P [(v,none),(u,none),(x,none)] W=some (.tuple #[v,u,x],W):=aL rfl rfl
def WU:iS P [] W=some (.tuple #[],W):=aL rfl rfl
def aZ{b o:Nat}{cs:List ad}{v:ad}(h:aC W b=some cs)(hv:cs[o]? =some v):bG (.pointer (some ⟨b,o,none⟩)) W=some (v,W):=by unfold bG;simp only[h,Ie,hv,cF]
def bV{n b o:Nat}{cs:List ad}(h:aC W b=some cs)(hv:((cs.drop o).take n).length=n):fd n (.pointer (some ⟨b,o,none⟩)) W=some (.agg ((cs.drop o).take n).toArray,W):=by unfold fd;simp only[iw,h,hv,ba,cF]
def az{b:Nat}{cs:List ad}(h:W.get b=some (.cells cs)):aC W b=some cs:=by unfold aC;rw[h]
def Fm{b:Nat}{cs:List ad}(h:W.get b=some (.ro cs)):aC W b=some cs:=by unfold aC;rw[h]
def bU{cs:List ad}:aC (W.add (.cells cs)) W.next=some cs:=az (W.aH _)
def Lo{b:Nat}(o:db)(h:b<W.next):aC (W.add o) b=aC W b:=by unfold aC;rw[W.aD o (by omega)]
def p8{b:Nat}(cs:List ad):aC (W.put b (.cells cs)) b=some cs:=az (W.aW _ _)
def vE{b c:Nat}(o:db)(h:b≠c):aC (W.put b o) c=aC W c:=by unfold aC;rw[W.ay o h]
def Le.aC{W W':AW}(h:Le W W'){b:Nat}(hb:b<W.next):aC W' b=aC W b:=by unfold Eng.aC;rw[h.get b hb]
def AV{n b o:Nat}{cs:List ad}{v:ad}(h:W.get b=some (.cells cs))(hn:v.cells.size=n)(hl:o+v.cells.toList.length<=cs.length)(h1:v.cells.toList.all one=true):
 gv n (.pointer (some ⟨b,o,none⟩)) v W=some (ak,W.put b (.cells (fN cs o v.cells.toList))):=by
 unfold gv;simp only[hn,ba,Fu,h,aq (show o+v.cells.toList.length<=cs.length/\v.cells.toList.all one=true from⟨hl,h1⟩),cF]
def acO{b o off:Nat}:mL off (.pointer (some ⟨b,o,none⟩)) W=some (.pointer (some ⟨b,o+off,none⟩),W):=by unfold mL;simp only[cP]
def rT{z b o l c i:Nat}{k:aO}(h:i<l):nR z (.slice (some ⟨b,o,none⟩) l c) (.int k (i:Int)) W=some (.pointer (some ⟨b,o+i*z,none⟩),W):=by unfold nR;simp only[kK,aq h,cP]
def VQ{len z b o i:Nat}{k:aO}(h:i<len):ixA len z (.pointer (some ⟨b,o,none⟩)) (.int k (i:Int)) W=some (.pointer (some ⟨b,o+i*z,none⟩),W):=by unfold ixA;simp only[kK,aq h,cP]
end
section
variable {P:ag} {W:AW}
def Vw{b o:Nat}:bG (.pointer (some ⟨b,o,none⟩)) W=(aC W b).bind λcs=>(cs[o]?).map λv=>(v,W):=by
 unfold bG;simp only;cases aC W b with
 |none=>rfl
 |some cs=>simp only[bL,Ie]
def In{n b o:Nat}:fd n (.pointer (some ⟨b,o,none⟩)) W=(aC W b).bind λcs=>if((cs.drop o).take n).length=n then some (.agg ((cs.drop o).take n).toArray,W)else none:=by
 unfold fd;simp only[iw];cases aC W b with
 |none=>rfl
 |some cs=>
  simp only[bL];by_cases h:((cs.drop o).take n).length=n
  ·rw[aq h,aq h];rfl
  ·rw[ap h,ap h];rfl
def aK(W:AW)(b:Nat):Option (List ad):=match W.get b with|some (.cells cs)=>some cs|_=>none
def iq{b:Nat}{cs:List ad}(h:aK W b=some cs):aC W b=some cs:=by
 unfold aK at h;split at h
 ·rename_i ck hg;injection h with h;subst h;exact az hg
 ·cases h
def dJ{b:Nat}{cs:List ad}(h:W.get b=some (.cells cs)):aK W b=some cs:=by unfold aK;rw[h]
def cC{cs:List ad}:aK (W.add (.cells cs)) W.next=some cs:=dJ (W.aH _)
def eC{b:Nat}(o:db)(h:b<W.next):aK (W.add o) b=aK W b:=by unfold aK;rw[W.aD o (by omega)]
def bT{b:Nat}(cs:List ad):aK (W.put b (.cells cs)) b=some cs:=dJ (W.aW _ _)
def bB{b c:Nat}(o:db)(h:b≠c):aK (W.put b o) c=aK W c:=by unfold aK;rw[W.ay o h]
def Le.aK{W W':AW}(h:Le W W'){b:Nat}(hb:b<W.next):aK W' b=aK W b:=by unfold Eng.aK;rw[h.get b hb]
def Na{n b o:Nat}{v:ad}:gv n (.pointer (some ⟨b,o,none⟩)) v W=(aK W b).bind λcs=>if v.cells.size=n/\o+v.cells.toList.length<=cs.length/\v.cells.toList.all one=true then some (ak,W.put b (.cells (fN cs o v.cells.toList)))else none:=by
 unfold gv aK;simp only[Fu];by_cases h:v.cells.size=n
 ·rw[aq h];cases hg:W.get b with
  |none=>rfl
  |some obj=>
   cases obj with
   |cells cs=>
    simp only[bL];by_cases h2:o+v.cells.toList.length<=cs.length/\v.cells.toList.all one=true
    ·rw[aq h2,aq ⟨h,h2⟩];rfl
    ·rw[ap h2,ap (λx=>h2 x.2)];rfl
   |_=>rfl
 ·rw[ap h];cases hg:W.get b with
  |none=>rfl
  |some obj=>
   cases obj with
   |cells cs=>simp only[bL];rw[ap (λx=>h x.1)];rfl
   |_=>rfl
def Dt(P:ag)(t:ae):Option Nat:=match P.underlying t with
 |some (.slice e)=>kQ P e
 |_=>none
def EI{t:ae}{z:Nat}(h:Dt P t=some z):∃e,P.underlying t=some (.slice e)/\kQ P e=some z:=by
 unfold Dt at h;split at h
 ·rename_i e hu;exact⟨e,hu,h⟩
 ·cases h
def Sh{t:ae}{z:Nat}(hz:Dt P t=some z){b o l c h:Nat}{k:aO}(h1:h<=c)(h2:c<dY):
 ft P t (.slice (some ⟨b,o,none⟩) l c) none (some (.int k (h:Int))) none W=some (.slice (some ⟨b,o,none⟩) h c,W):=by
 obtain⟨e,he,hz⟩:=EI hz;have hb:¬(c=dY+z/\0<z):=λx=>by omega
 have h0:((⟨b,o,none⟩:aP).add (0*z))=⟨b,o,none⟩:=by rw[cP];simp
 unfold ft mH;simp only[he,hz,fm,kK,mP,ba,ap hb,aq (au h2 h1),zK,h0,ite_self]
def mq(P:ag)(ts:Array ae)(z bytes:Nat):Bool:=match ts.toList with
 |[t0,t1]=>Nat.beq t0 t1&&(match kN P t0 with
  |some e=>(match kQ P e,(P.info? e).map (λi=>(i.zero,i.bytes))with
   |some z',some (some zv,adQ)=>Nat.beq z' z&&Nat.beq adQ bytes&&Nat.blt 0 z&&Nat.beq zv.cells.size z
   |_,_=>false)
  |none=>false)
 |_=>false
def oC{ts:Array ae}{z bytes:Nat}(h:mq P ts z bytes=true):∃t e zv,ts.toList=[t,t]/\kN P t=some e/\kQ P e=some z/\(P.info? e).map (λi=>(i.zero,i.bytes))=some (some zv,bytes)/\0<z/\zv.cells.size=z:=by
 unfold mq at h;split at h;case h_2=>cases h
 rename_i t0 t1 hl;simp only[a8,dM]at h;obtain⟨h0,h⟩:=h;subst h0;split at h;case h_2=>cases h
 rename_i e he;split at h;case h_2=>cases h
 rename_i z' zv b' h1 h2;simp only[a8,dM,ic]at h;obtain⟨⟨⟨h3,h4⟩,h5⟩,h6⟩:=h;subst h3;subst h4;exact⟨t0,e,zv,hl,he,h1,h2,h5,h6⟩
def Ht{ts:Array ae}{z bytes:Nat}(hk:mq P ts z bytes=true){b o n c:Nat}{cs new:List ad}(hc:aC W b=some cs)(hn:new=(cs.drop o).take (n*z))(hl:new.length=n*z)(h0:0<n)(h1:new.all one=true)
 (hb:n<1099511627776)(nD:(2*n+192)*bytes<=281474976710656):
 dB P W ts (.slice none 0 0) (.slice (some ⟨b,o,none⟩) n c)=some (.slice (some ⟨W.next,0,none⟩) n (dY+z),W.add (.cells new)):=by
 obtain⟨t,e,zv,k1,k2,k3,k4,k5,k6⟩:=oC hk;have hr:mm W b o (n*z)=some new:=by rw[iw,hc];simp only;rw[aq (by rw[<-hn];exact hl),hn]
 have hB:(0:Nat)<dY:=by unfold dY;omega
 have Sl:¬(0:Nat)=dY+z:=by unfold dY;omega
 have Xq:bM W (.slice (some ⟨b,o,none⟩) n c) (n*z)=some new:=by unfold bM;simp only;rw[ap (by have:=mO h0 k5;omega),bK];exact hr
 have M8:bM W (.slice none 0 0) (0*z)=some []:=by unfold bM;simp
 unfold dB;simp only[k1,k2,k3,k4,ba,aN,aq (au k5 (au k6 (au hb nD))),ap (show¬n=0 by omega),Xq,M8,h1,ap Sl,aq hB,lF,lM,AW.dm]
def Ot{ts:Array ae}{z bytes:Nat}(hk:mq P ts z bytes=true){b o n c:Nat}{cs new:List ad}(hc:aC W b=some cs)(hn:new=(cs.drop o).take (n*z))(hl:new.length=n*z)(h0:0<n)(h1:new.all one=true)
 {B m:Nat}{um:List ad}(ho:W.get B=some (.cells um))(Nb:um.length=m*z)
 (hb:m+n<1099511627776)(nD:(2*(m+n)+192)*bytes<=281474976710656)(hm:0<m):
 dB P W ts (.slice (some ⟨B,0,none⟩) m (dY+z)) (.slice (some ⟨b,o,none⟩) n c)=some (.slice (some ⟨W.next,0,none⟩) (m+n) (dY+z),(W.kill B).add (.cells (um++new))):=by
 obtain⟨t,e,zv,k1,k2,k3,k4,k5,k6⟩:=oC hk;have hr:mm W b o (n*z)=some new:=by rw[iw,hc];simp only;rw[aq (by rw[<-hn];exact hl),hn]
 have Xq:bM W (.slice (some ⟨b,o,none⟩) n c) (n*z)=some new:=by unfold bM;simp only;rw[ap (by have:=mO h0 k5;omega),bK];exact hr
 have qg:mm W B 0 (m*z)=some um:=by rw[iw,az ho];simp only[jF];rw[ve (by omega),aq Nb]
 have M8:bM W (.slice (some ⟨B,0,none⟩) m (dY+z)) (m*z)=some um:=by unfold bM;simp only;rw[ap (by have:=mO hm k5;omega),bK];exact qg
 unfold dB;simp only[k1,k2,k3,k4,ba,aq (au k5 (au k6 (au hb nD))),ap (show¬n=0 by omega),Xq,M8,h1,ho,AW.dm,AW.dz]
end
def Nr{body:ah.Fr->AW->Option LT}:∀(n m:Nat) (I:Nat->ah.Fr->AW->Prop) (Q:LT->Prop) (R:ah.Fr) (W:AW),n<m->I 0 R W->
 (∀k R W,k<n->I k R W->∃r,body R W=some r/\((r.1=.normal/\I (k+1) r.2.1 r.2.2)\/(r.1≠ .normal/\Q r)))->
 (∀R W,I n R W->∃r,body R W=some r/\r.1≠ .normal/\Q r)->∃r,jP body m R W=some r/\r.1≠ .normal/\Q r:=by
 intro n;induction n with
 |zero=>
  intro m I Q R W hm h0 _ he;obtain⟨m,rfl⟩:∃k,m=k+1:=⟨m-1,by omega⟩;obtain⟨⟨x,R',W'⟩,h1,h2,h3⟩:=he R W h0;refine⟨_,?_,h2,h3⟩;unfold jP;rw[h1];cases x with
  |normal=>exact absurd rfl h2
  |exit i=>rfl
  |ret=>rfl
 |succ n ih=>
  intro m I Q R W hm h0 hs he;obtain⟨m,rfl⟩:∃k,m=k+1:=⟨m-1,by omega⟩;obtain⟨⟨x,R',W'⟩,h1,h2⟩:=hs 0 R W (by omega) h0;rcases h2 with⟨h2,h3⟩|⟨h2,h3⟩
  ·simp only at h2 h3;subst h2;obtain⟨r,k1,k2,k3⟩:=ih m (λk=>I (k+1)) Q R' W' (by omega) h3 (λk R W hk hI=>hs (k+1) R W (by omega) hI) he;refine⟨r,?_,k2,k3⟩;unfold jP;rw[h1];exact k1
  ·refine⟨_,?_,h2,h3⟩;unfold jP;rw[h1];cases x with
   |normal=>exact absurd rfl h2
   |exit i=>rfl
   |ret=>rfl
def Qv{body:ah.Fr->AW->Option LT}(n:Nat)(hn:n<1000000)(I:Nat->ah.Fr->AW->Prop)(Q:LT->Prop){R:ah.Fr}{W:AW}(h0:I 0 R W)
 (hs:∀k R W,k<n->I k R W->∃r,body R W=some r/\((r.1=.normal/\I (k+1) r.2.1 r.2.2)\/(r.1≠ .normal/\Q r)))
 (he:∀R W,I n R W->∃r,body R W=some r/\r.1≠ .normal/\Q r):∃r,ge body R W=some r/\Q r:=by
 rw[Lu];obtain⟨r,h1,_,h2⟩:=Nr n 1000000 I Q R W hn h0 hs he;exact⟨r,h1,h2⟩
end
section
variable [ah]
def acu(P:ag)(i nt n:Nat):Bool:=match P.funcs[i]? with
 |some fn=>fn.body.isSome&&(Nat.beq fn.ntmps nt&&Nat.ble n nt)
 |none=>false
def afu{P:ag}{bad:List Nat}{spec:Callee}{i nt n:Nat}(hb:Jw i bad=false)(hk:acu P i nt n=true){fs cs:Array ad}{args:List ad}(hn:fs.toList.length+(args.length+cs.toList.length)=n){W:AW}{r:ad×AW}
 (h:Wy P (om P bad spec) nt (IY P i) (Vq P i) (fs.toList++(args++cs.toList)) W=some r):om P bad spec (.func (.func i) fs cs) args W=some (gc W r):=by
 unfold acu at hk;unfold IY Vq at h;cases hf:P.funcs[i]? with
 |none=>rw[hf]at hk;cases hk
 |some fn=>
  rw[hf]at hk h;simp only[a8,dM]at hk h;obtain⟨h1,h2,h3⟩:=hk;cases hc:fn.body with
  |none=>rw[hc]at h1;cases h1
  |some c=>rw[hc]at h;simp only at h;subst h2;exact abT hb hf hc (by rw[hn];exact h3) h
end
section
variable [ah]
@[congr] theorem aeB {α ρ:Type} {x y:Option α} {g:α->Option ρ} (h:x=y):dN x g=dN y g:=by rw[h]
@[congr] theorem ae1 {ρ:Type} {c d:Bool} {a b:ρ} (h:c=d):nj c a b=nj d a b:=by rw[h]
@[congr] theorem ae8 {ρ:Type} {c d:ad} {a b:Option ρ} (h:c=d):Jy c a b=Jy d a b:=by rw[h]
@[congr] theorem aat {ρ:Type} {i:Nat} {x y:X} {a b:Option ρ} (h:x=y):xv i x a b=xv i y a b:=by rw[h]
@[congr] theorem aaB {ρ:Type} {x y:X} {a b:Option ρ} (h:x=y):tP x a b=tP y a b:=by rw[h]
@[congr] theorem aao {ρ:Type} {x y:X} {a:Option ρ} (h:x=y):DN x a=DN y a:=by rw[h]
theorem acr{W W':AW}{k:aO}{n:Int}(h:Le W W'):gc W (.int k n,W')=(.int k n,W):=E3 rfl h
def HE{W W':AW}{b:Bool}(h:Le W W'):gc W (.bool b,W')=(.bool b,W):=E3 rfl h
section
variable {P:ag} {W:AW}
def P3{k:aO}{n:Int}(h:0<=n):kK (.int k n)=some n.toNat:=by obtain⟨m,rfl⟩:∃m:Nat,n=(m:Int):=⟨n.toNat,by omega⟩;exact aL rfl rfl
def OS{len z b o:Nat}{k:aO}{n:Int}(h0:0<=n)(h:n.toNat<len):ixA len z (.pointer (some ⟨b,o,none⟩)) (.int k n) W=some (.pointer (some ⟨b,o+n.toNat*z,none⟩),W):=by unfold ixA;simp only[P3 h0,aq h,cP]
def YB(g:Nat):ahJ g=.pointer (some ⟨g,0,none⟩):=aL rfl rfl
def jl(W:AW)(o o':db):(W.add o).put W.next o'=W.add o':=by unfold AW.add AW.put;simp only[T.set_set]
def XH(W:AW)(b:Nat)(o o':db):(W.put b o).put b o'=W.put b o':=by unfold AW.put;simp only[T.set_set]
def Qc(cs:Array ad):(Value.agg cs).cells=cs:=aL rfl rfl
def Uc(cs:List ad)(o:Nat)(v:ad)(h:o<cs.length):fN cs o [v]=cs.set o v:=by unfold fN;rw[CZ];simp[h]
def nY{b o:Nat}{v:ad}(h:v.cells=#[v])(h1:one v=true):gv 1 (.pointer (some ⟨b,o,none⟩)) v W=(aK W b).bind λcs=>if o<cs.length then some (ak,W.put b (.cells (cs.set o v)))else none:=by
 rw[Na,h];congr 1;funext cs;by_cases hl:o<cs.length
 ·rw[aq hl,aq ⟨rfl,by simp;omega,by simp[h1]⟩,Uc _ _ _ hl]
 ·rw[ap hl,ap (λx=>hl (by have:=x.2.1;simp at this;omega))]
def zl{b o:Nat}{k:aO}{n:Int}:gv 1 (.pointer (some ⟨b,o,none⟩)) (.int k n) W=(aK W b).bind λcs=>if o<cs.length then some (ak,W.put b (.cells (cs.set o (.int k n))))else none:=nY rfl rfl
def zy{b o:Nat}{x:Bool}:gv 1 (.pointer (some ⟨b,o,none⟩)) (.bool x) W=(aK W b).bind λcs=>if o<cs.length then some (ak,W.put b (.cells (cs.set o (.bool x))))else none:=nY rfl rfl
def NF{b o:Nat}{x:ByteArray}:gv 1 (.pointer (some ⟨b,o,none⟩)) (.string x) W=(aK W b).bind λcs=>if o<cs.length then some (ak,W.put b (.cells (cs.set o (.string x))))else none:=nY rfl rfl
def mD{b o:Nat}{x:Option aP}{l c:Nat}:gv 1 (.pointer (some ⟨b,o,none⟩)) (.slice x l c) W=(aK W b).bind λcs=>if o<cs.length then some (ak,W.put b (.cells (cs.set o (.slice x l c))))else none:=nY rfl rfl
def zq{n b o:Nat}{vs:Array ad}:gv n (.pointer (some ⟨b,o,none⟩)) (.agg vs) W=(aK W b).bind λcs=>if vs.size=n/\o+vs.toList.length<=cs.length/\vs.toList.all one=true then some (ak,W.put b (.cells (fN cs o vs.toList)))else none:=Na
def gH(k:aO)(n:Int):one (.int k n)=true:=aL rfl rfl
def pr(s:ByteArray):one (.string s)=true:=aL rfl rfl
def WP(s:Bool):one (.bool s)=true:=aL rfl rfl
def Ha(a:Option aP)(l c:Nat):one (.slice a l c)=true:=aL rfl rfl
def WF{r:Option (ad×AW)}{u v:ad}{W':AW}(h:r=some (u,W'))(h2:ff u v=true):ur true r v=true:=by subst h;exact h2
def wA(k:aO)(n:Int):ff (.int k n) (.int k n)=true:=by simp[ff,tT]
def Em(b:Bool):ff (.bool b) (.bool b)=true:=by simp[ff,tT]
def It(s:ByteArray):ff (.string s) (.string s)=true:=by simp[ff,tT,zZ]
def od{t:ae}{c d:Bool}{x y:Array ad}{r:Bool}(hg:P.eqGuardType P.depth t=false)(h:I7 P 8 t (.agg x) (.agg y)=some r):bs P .neq t c d (.agg x) (.agg y) W=some (.bool (!r),W):=by
 have h0:mh P W t (.agg x) (.agg y)=none:=by unfold mh;split<;>first|rfl|simp_all
 unfold bs nl;simp only[h0,Fi,hg,nH,cV,h,cF]
def tQ:List (Int×Int)->Option Bool
 |[]=>some true
 |p::l=>match some (p.1==p.2)with
  |some true=>tQ l
  |some false=>some false
  |none=>none
def pf:∀l:List (Int×Int),tQ l=some (l.all λp=>p.1==p.2)
 |[]=>rfl
 |p::l=>by
  unfold tQ;cases h:p.1==p.2 with
  |true=>simp only[eK,h,np];exact pf l
  |false=>simp only[eK,h,uC]
def II(k:aO)(n:Int):tT (.int k n) (.int k n)=true:=by simp[tT]
def E1(s:ByteArray):tT (.string s) (.string s)=true:=by simp[tT,zZ]
def Tm(s:Bool):tT (.bool s) (.bool s)=true:=by simp[tT]
def wd(b o l c:Nat):tT (.slice (some ⟨b,o,none⟩) l c) (.slice (some ⟨b,o,none⟩) l c)=true:=by simp[tT,Be]
def LD(l c:Nat):tT (.slice none l c) (.slice none l c)=true:=by simp[tT]
def Pb(b o:Nat):tT (.pointer (some ⟨b,o,none⟩)) (.pointer (some ⟨b,o,none⟩))=true:=by simp[tT,Be]
def ky{cs:Array ad}(h:OV cs.toList cs.toList=true):ff (.agg cs) (.agg cs)=true:=h
def M1(a b c d:ad)(h1:tT a a=true)(h2:tT b b=true)(h3:tT c c=true)(h4:tT d d=true):ff (.agg #[a,b,c,d]) (.agg #[a,b,c,d])=true:=ky (by simp[OV,h1,h2,h3,h4])
def kB(b o l c:Nat):ff (.slice (some ⟨b,o,none⟩) l c) (.slice (some ⟨b,o,none⟩) l c)=true:=wd b o l c
def MJ(l c:Nat):ff (.slice none l c) (.slice none l c)=true:=LD l c
def QS(b o:Nat):ff (.pointer (some ⟨b,o,none⟩)) (.pointer (some ⟨b,o,none⟩))=true:=Pb b o
def dP{u v:ad}{W':AW}:ur true (some (u,W')) v=ff u v:=aL rfl rfl
end
def Ok{ρ:Type}(t:Option ρ)(G:ρ->Prop):Prop:=∃x,t=some x/\G x
def ai{ρ:Type}{x:ρ}{G:ρ->Prop}:Ok (some x) G<->G x:=⟨λ⟨y,h,g⟩=>by injection h with h;subst h;exact g,λg=>⟨x,rfl,g⟩⟩
def Ok.mono{ρ:Type}{t:Option ρ}{G H:ρ->Prop}(h:Ok t G)(hg:∀x,G x->H x):Ok t H:=let⟨x,a,b⟩:=h;⟨x,a,hg x b⟩
def bz{ρ:Type}{body:ah.Fr->AW->Option LT}{R:ah.Fr}{W:AW}{K:LT->Option ρ}{G:ρ->Prop}(n:Nat)(hn:n<1000000)(I:Nat->ah.Fr->AW->Prop)(Q:LT->Prop)(h0:I 0 R W)
 (hs:∀k R W,k<n->I k R W->Ok (body R W) λr=>(r.1=.normal/\I (k+1) r.2.1 r.2.2)\/(r.1≠ .normal/\Q r))
 (he:∀R W,I n R W->Ok (body R W) λr=>r.1≠ .normal/\Q r)(hk:∀r,Q r->Ok (K r) G):Ok (dN (ge body R W) K) G:=by
 obtain⟨r,h1,h2⟩:=Qv n hn I Q h0 hs he;rw[h1,Ai];exact hk r h2
def aX{o t:Option (ad×AW)}{v:ad}{W:AW}(hv:(bC v&& !XE v)=true)(h:Ok t λr=>r.1=v/\Le W r.2)(Mi:∀{r},t=some r->o=some (gc W r)):o=some (v,W):=by obtain⟨⟨u,W'⟩,h1,h2,h3⟩:=h;simp only at h2;subst h2;rw[Mi h1,E3 hv h3]
def Row{α:Type}(W:AW)(z:Nat)(at_:List ad->Nat->α->Prop)(v:ad)(l:List α):Prop:=
 ∃a c,v=.slice a l.length c/\(l=[]\/∃b o cs,a=some ⟨b,o,none⟩/\b<W.next/\aC W b=some cs/\∀i (h:i<l.length),at_ cs (o+i*z) l[i])
def oQ(k:aO)(cs:List ad)(p:Nat)(n:Int):Prop:=cs[p]? =some (.int k n)
abbrev gg(W:AW)(v:ad)(l:List Int):Prop:=Row W 1 (oQ .i64) v l
def Row.mono{α:Type}{W W':AW}{z:Nat}{at_:List ad->Nat->α->Prop}{v:ad}{l:List α}(h:Row W z at_ v l)(aS:Le W W'):Row W' z at_ v l:=by
 obtain⟨a,c,rfl,h⟩:=h;refine⟨a,c,rfl,?_⟩;rcases h with h|⟨b,o,cs,h1,h2,h3,h4⟩
 ·exact .inl h
 ·exact .inr ⟨b,o,cs,h1,eE h2 aS.next,by rw[aS.aC h2];exact h3,h4⟩
def Row.len{α:Type}{W:AW}{z:Nat}{at_:List ad->Nat->α->Prop}{v:ad}{l:List α}(h:Row W z at_ v l){P:ag}{ts:Array ae}{e:ae}(ht:(ts[0]?).bind P.underlying=some (.slice e))(W':AW)(ty:ae)(cf:Array Bool):
 aR P .len ts ty cf [v] W'=some (.af l.length,W'):=by
 obtain⟨a,c,rfl,_⟩:=h;exact fZ ht _ _ _
def Row.elem{α:Type}{W:AW}{z:Nat}{at_:List ad->Nat->α->Prop}{v:ad}{l:List α}(h:Row W z at_ v l){i:Nat}(hi:i<l.length):
 ∃b o cs,(∀W' k,nR z v (.int k (i:Int)) W'=some (.pointer (some ⟨b,o,none⟩),W'))/\b<W.next/\aC W b=some cs/\at_ cs o l[i]:=by
 obtain⟨a,c,rfl,h⟩:=h;rcases h with rfl|⟨b,o,cs,rfl,h2,h3,h4⟩
 ·simp at hi
 ·exact⟨b,o+i*z,cs,λW' k=>rT hi,h2,h3,h4 i hi⟩
def gg.get{W:AW}{v:ad}{l:List Int}(h:gg W v l){i:Nat}(hi:i<l.length):
 ∃p,(∀W' k,nR 1 v (.int k (i:Int)) W'=some (p,W'))/\∀W',Le W W'->bG p W'=some (.af l[i],W'):=by
 obtain⟨b,o,cs,h1,h2,h3,h4⟩:=h.elem hi;exact⟨_,h1,λW' aS=>aZ (by rw[aS.aC h2];exact h3) h4⟩
end
end Go.Eng
namespace Go.Eng
open Go Go.RowKit
section
variable [ah]
def Oo:Option (ad×AW)->Bool
 |some (v,_)=>match v with
  |.bool b=>b
  |_=>false
 |none=>false
def Qi{r:Option (ad×AW)}(h:Oo r=true):∃W,r=some (.bool true,W):=by
 unfold Oo at h;split at h
 ·rename_i v W;split at h
  ·subst h;exact⟨W,rfl⟩
  ·cases h
 ·cases h
def Oi{P:ag}{ng:List Nat}:bI P ng (λ_ _ _=>none):=λf args W v W' h=>by cases h
def N0(W w':am):Prop:=W.keptBut w' (λ_=>False)/\(∀a:aP,a.block<W.heap.size->w'.frozen? a=W.frozen? a)/\W.heap.size<=w'.heap.size
def N0.frame{W w':am}(h:N0 W w')(may:cx->Prop):W.keptBut w' may:=World.keptBut_mono (λ_ f=>f.elim) h.1
def M5{σ:cI}:∀{args:List ad},args.all bC=true->LR σ args args:=by intro args h;exact LR.mM (λv=>g8) h
end
section
variable [ah]
def σG(gs:List (Nat×List ad)):cI:=λb=>(gs.find? (λx=>x.1==b)).map λx=>⟨x.1,0,x.2.length⟩
def Ed(gs:List (Nat×List ad)):T db:=gs.foldr (λx t=>T.set (some (.ro x.2)) (path x.1) t) .lf
def WG(gs:List (Nat×List ad))(N:Nat):AW:=⟨Ed gs,N⟩
def wy(b:Nat):∀gs:List (Nat×List ad),T.get (path b) (Ed gs)=(gs.find? (λx=>x.1==b)).map λx=>db.ro x.2
 |[]=>T.Au _
 |x::gs=>by
  show T.get (path b) (T.set (some (.ro x.2)) (path x.1) (Ed gs))=_;by_cases h:x.1=b
  ·subst h;rw[T.lz];simp
  ·rw[T.fJ _ _ _ _ (wg h),wy b gs];have hb:(x.1==b)=false:=by simpa using h
   rw[List.find?_cons,hb]
def BC(gs:List (Nat×List ad))(h:Array Obj):Prop:=
 ∀x∈gs,∃c t fr,h[x.1]? =some (.cells c t fr)/\∀(i:Nat) (v:ad),x.2[i]? =some v->c[i]? =some v/\bZ v=true
def rE{gs:List (Nat×List ad)}{b:Nat}{g:vC}(h:σG gs b=some g):∃x∈gs,x.1=b/\g=⟨b,0,x.2.length⟩/\T.get (path b) (Ed gs)=some (db.ro x.2):=by
 unfold σG at h;cases hf:gs.find? (λx=>x.1==b)with
 |none=>rw[hf]at h;cases h
 |some x=>
  rw[hf]at h;have hb:x.1=b:=by simpa using List.find?_some hf
  refine⟨x,Ir hf,hb,?_,?_⟩
  ·cases h;subst hb;rfl
  ·show T.get (path b) (Ed gs)=_;rw[wy,hf];rfl
def aaU{gs:List (Nat×List ad)}{N:Nat}(hN:gs.all (λx=>Nat.blt x.1 N)=true){h:Array Obj}(hl:BC gs h):bg (σG gs) (WG gs N) h where
 free b hb:=by
  show T.get (path b) (Ed gs)=none;rw[wy];cases hf:gs.find? (λx=>x.1==b)with
  |none=>rfl
  |some x=>
   have Sz:x.1=b:=by simpa using List.find?_some hf
   have:=cw.1 hN x (Ir hf);have:x.1<N:=by simpa[ic]using this
   exact absurd hb (by show¬N<=b;omega)
 m8 b g hb:=by
  obtain⟨x,hx,rfl,rfl,_⟩:=rE hb;obtain⟨c,t,fr,h1,_⟩:=hl x hx;have:=cw.1 hN x hx;have h3:x.1<N:=by simpa[ic]using this
  exact⟨h3,(dC.1 h1).1⟩
 obj b o g hb hg:=by obtain⟨x,hx,rfl,rfl,ht⟩:=rE hg;obtain⟨c,t,fr,h1,h2⟩:=hl x hx;obtain rfl:o=.ro x.2:=y8 (hb.symm.trans ht);exact⟨c,t,fr,h1,by simp,λi v hv=>⟨v,by simpa using(h2 i v hv).1,eu (h2 i v hv).2⟩⟩
 qK b1 b2 o1 o2 g1 g2 ee _ _ h1 h2 _:=by obtain⟨x1,_,rfl,rfl,_⟩:=rE h1;obtain⟨x2,_,rfl,rfl,_⟩:=rE h2;exact .inl ee
def SM{gs:List (Nat×List ad)}{ng:List Nat}(h:ng.all (λg=>(gs.find? (λx=>x.1==g)).isSome)=true):wV (σG gs) ng:=by
 intro g hg;have:=cw.1 h g hg;cases hf:gs.find? (λx=>x.1==g)with
 |none=>rw[hf]at this;cases this
 |some x=>
  have Sz:x.1=g:=by simpa using List.find?_some hf
  exact⟨x.2.length,by unfold σG;rw[hf];subst Sz;rfl⟩
def aid{gs:List (Nat×List ad)}{N:Nat}{B:Nat}:¬Mut (σG gs) (WG gs N) B:=by rintro⟨b,g,hg,_,qg⟩;obtain⟨x,_,_,_,ht⟩:=rE hg;exact qg x.2 ht
end
end Go.Eng
namespace Go.Eng
open Go Go.RowKit Go.ChangeShapes
section
variable {H:Type} {enc:ae×ad->H} {P:ag} {w:am} {base:Nat} {VX:Nat->Bool} {held:Bool}
end
end Go.Eng
namespace Go.Eng
open Go Go.RowKit
open Go.Maps (Keyed)
section
variable [ah]
section
variable {H:Type}
def Z3(j:Nat)(g b:Bool):List (Lit×bN H):=match g with|true=>[(.af ((2^ j:Nat):Int),.lit (.bool b))]|false=>[]
def IK(g0 g1 g2 g3 g4 g5 g6 g7 b0 b1 b2 b3 b4 b5 b6 b7:Bool):bN H:=
 .map (Z3 0 g0 b0++(Z3 1 g1 b1++(Z3 2 g2 b2++(Z3 3 g3 b3++(Z3 4 g4 b4++(Z3 5 g5 b5++(Z3 6 g6 b6++Z3 7 g7 b7)))))))
variable (g0 g1 g2 g3 g4 g5 g6 g7 b0 b1 b2 b3 b4 b5 b6 b7:Bool)
def amm:(IK (H:=H) g0 g1 g2 g3 g4 g5 g6 g7 b0 b1 b2 b3 b4 b5 b6 b7).put (.af 1) (.lit (.bool b0))=IK true g1 g2 g3 g4 g5 g6 g7 b0 b1 b2 b3 b4 b5 b6 b7:=by cases g0<;>cases g1<;>cases g2<;>cases g3<;>cases g4<;>cases g5<;>cases g6<;>cases g7<;>rfl
def akW:(IK (H:=H) g0 g1 g2 g3 g4 g5 g6 g7 b0 b1 b2 b3 b4 b5 b6 b7).put (.af 2) (.lit (.bool b1))=IK g0 true g2 g3 g4 g5 g6 g7 b0 b1 b2 b3 b4 b5 b6 b7:=by cases g0<;>cases g1<;>cases g2<;>cases g3<;>cases g4<;>cases g5<;>cases g6<;>cases g7<;>rfl
def ald:(IK (H:=H) g0 g1 g2 g3 g4 g5 g6 g7 b0 b1 b2 b3 b4 b5 b6 b7).put (.af 4) (.lit (.bool b2))=IK g0 g1 true g3 g4 g5 g6 g7 b0 b1 b2 b3 b4 b5 b6 b7:=by cases g0<;>cases g1<;>cases g2<;>cases g3<;>cases g4<;>cases g5<;>cases g6<;>cases g7<;>rfl
def amW:(IK (H:=H) g0 g1 g2 g3 g4 g5 g6 g7 b0 b1 b2 b3 b4 b5 b6 b7).put (.af 8) (.lit (.bool b3))=IK g0 g1 g2 true g4 g5 g6 g7 b0 b1 b2 b3 b4 b5 b6 b7:=by cases g0<;>cases g1<;>cases g2<;>cases g3<;>cases g4<;>cases g5<;>cases g6<;>cases g7<;>rfl
def amP:(IK (H:=H) g0 g1 g2 g3 g4 g5 g6 g7 b0 b1 b2 b3 b4 b5 b6 b7).put (.af 16) (.lit (.bool b4))=IK g0 g1 g2 g3 true g5 g6 g7 b0 b1 b2 b3 b4 b5 b6 b7:=by cases g0<;>cases g1<;>cases g2<;>cases g3<;>cases g4<;>cases g5<;>cases g6<;>cases g7<;>rfl
def anw:(IK (H:=H) g0 g1 g2 g3 g4 g5 g6 g7 b0 b1 b2 b3 b4 b5 b6 b7).put (.af 32) (.lit (.bool b5))=IK g0 g1 g2 g3 g4 true g6 g7 b0 b1 b2 b3 b4 b5 b6 b7:=by cases g0<;>cases g1<;>cases g2<;>cases g3<;>cases g4<;>cases g5<;>cases g6<;>cases g7<;>rfl
def anr:(IK (H:=H) g0 g1 g2 g3 g4 g5 g6 g7 b0 b1 b2 b3 b4 b5 b6 b7).put (.af 64) (.lit (.bool b6))=IK g0 g1 g2 g3 g4 g5 true g7 b0 b1 b2 b3 b4 b5 b6 b7:=by cases g0<;>cases g1<;>cases g2<;>cases g3<;>cases g4<;>cases g5<;>cases g6<;>cases g7<;>rfl
def anX:(IK (H:=H) g0 g1 g2 g3 g4 g5 g6 g7 b0 b1 b2 b3 b4 b5 b6 b7).put (.af 128) (.lit (.bool b7))=IK g0 g1 g2 g3 g4 g5 g6 true b0 b1 b2 b3 b4 b5 b6 b7:=by cases g0<;>cases g1<;>cases g2<;>cases g3<;>cases g4<;>cases g5<;>cases g6<;>cases g7<;>rfl
end
def Ng{H:Type}{P:ag}{k e t:ae}{w:am}{R:ad->Option (bN H×List cx)}{b n:Nat}{D:bN H}(h:w.ownsMap P k R b n D)(K:Keyed P k)(ht:P.underlying t=some (.map k e))(hn:n<maxLen){key val:ad}{kl:Lit}{d:bN H}{ps:List cx}
 (JJ:keyOf P k key=some kl)(hv:R val=some (d,ps)):∃w',(Instr.mapUpdate t (.map (some b)) key val).run P w=.ok () w'/\w'.ownsMap P k R b (n+1) (D.put kl d)/\w.grownBy w' (some b)/\w'.heap.size=w.heap.size:=by
 obtain⟨w',h1,h2,h3⟩:=h.update K ht hn JJ hv;obtain⟨es,kH,hb,F,hs,rfl⟩:=h;obtain⟨fP,am7,jC,_⟩:=Maps.fit_store (R':=R) K ht hb F (Nat.lt_of_le_of_lt hs hn) (λ_ _ _ _ hz=>hz) JJ hv;refine⟨w',h1,h2,h3,?_⟩;rw[jC]at h1;injection h1 with _ h1;rw[<-h1];simp[Go.ChangeMaps.setBlock]
def KF{H:Type}{P:ag}{k:ae}{w:am}{R:ad->Option (bN H×List cx)}{b n:Nat}{D:bN H}(h:w.ownsMap P k R b n D){a:aP}(ha:a.block=b):w.frozen? a=false:=by obtain⟨es,kH,hb,_⟩:=h;unfold World.frozen?;rw[ha,hb]
def oN{w:am}{a:aP}(h:w.heap.size<=a.block):w.frozen? a=false:=by unfold World.frozen?;rw[vH h]
def Aq{σ0 σ:cI}{W0 W:AW}{w0 w w':am}(h:eF σ0 W0 w0 σ W w){m:Nat}(hm:w0.heap.size<=m)(hg:w.grownBy w' (some m))(Ap:∀a,w'.frozen? a=w.frozen? a):eF σ0 W0 w0 σ W w':=
 ⟨h.sub,h.ro,eW h.size hg.size,hg.os.trans h.os,hg.tape.trans h.tape,hg.output.trans h.output,
  λB hB hn=>(hg.block B (eE hB h.size) (λe=>by injection e with e;omega)).trans (h.keep B hB hn),h.ghost,h.grow⟩
def AH{σ:cI}{W:AW}{w w':am}(h:bg σ W w.heap){m:Nat}(hm:∀b g,σ b=some g->g.B≠m)(hg:w.grownBy w' (some m)):bg σ W w'.heap where
 free:=h.free
 m8 b g hb:=⟨(h.m8 b g hb).1,eE (h.m8 b g hb).2 hg.size⟩
 obj b o g hb hσ:=(h.obj b o g hb hσ).same (hg.block _ (h.m8 b g hσ).2 (λe=>by injection e with e;exact hm b g hσ e))
 qK:=h.qK
def xR(e:Nat)(o:aj):Bool:=o.after.any λx=>Region.binds .any x&&Nat.beq x.on e
def fG{e:Nat}{o:aj}{listed:Array Bool}(h:xR e o=true)(hr:∀x∈o.after,Region.binds .any x=true->listed.getD x.on false=true):listed.getD e false=true:=by unfold xR at h;rw[Array.any_eq_true']at h;obtain⟨x,hx,hb⟩:=h;rw[a8,dM]at hb;obtain⟨hb,rfl⟩:=hb;exact hr x hx hb
def TF(ops:Array aj)(o:aj)(x:an):Bool:=match x with
 |.const v=>bC v
 |.tmp t=>Nat.beq t 1||o.after.any λe=>Region.binds .any e&&(match ops[e.on]? with|some o'=>(match o'.dst with|some d=>Nat.beq d t&&(Nat.blt 14 d&&Nat.blt d 40)|none=>false)|none=>false)
 |_=>false
def Nl(ops:Array aj)(o:aj):Bool:=o.guard.isNone&&(match o.dst with|some d=>Nat.blt 14 d&&Nat.blt d 40|none=>false)&&o.op.operands.toList.all (TF ops o)
def pO(ops:Array aj)(TM key s k:Nat)(o:aj):Bool:=o.guard.isNone&&o.dst.isNone&&xR 0 o&&xR k o&&
 (match o.op with|.insert t (.tmp m) (.const (.int .i64 (.ofNat n))) (.tmp v)=>Nat.beq t TM&&Nat.beq m 14&&Nat.beq n key&&Nat.beq v s&&Nat.blt 14 s&&Nat.blt s 40|_=>false)&&
 (match ops[k]? with|some o'=>(match o'.dst with|some d=>Nat.beq d s|none=>false)|none=>false)
def jq(ops:Array aj)(TM:Nat)(i:Nat)(o:aj):Bool:=match i with
 |0=>o.guard.isNone&&(match o.op,o.dst with|.makeMap t none,some d=>Nat.beq t TM&&Nat.beq d 14|_,_=>false)
 |4=>pO ops TM 1 17 3 o
 |8=>pO ops TM 2 20 7 o
 |12=>pO ops TM 4 23 11 o
 |16=>pO ops TM 8 26 15 o
 |20=>pO ops TM 16 29 19 o
 |24=>pO ops TM 32 32 23 o
 |29=>pO ops TM 64 36 28 o
 |33=>pO ops TM 128 39 32 o
 |34=>o.guard.isNone&&(match o.op,o.dst with|.move (.tmp x),some d=>Nat.beq x 14&&Nat.beq d 40|_,_=>false)&&(List.range 34).all λe=>xR e o
 |35=>o.guard.isNone&&(match o.op,o.dst with|.range t (.tmp x),some d=>Nat.beq t TM&&Nat.beq x 40&&Nat.beq d 41|_,_=>false)&&xR 34 o
 |_=>Nl ops o
def iL(i:Nat):Bool:=match i with|0|4|8|12|16|20|24|29|33|34|35=>false|_=>true
def Ii(i:Nat)(o:aj):Bool:=o.after.all λe=>Nat.blt e.on i
def Hv(ops:Array aj)(TM:Nat):Bool:=Nat.beq ops.size 36&&(List.range 36).all λi=>match ops[i]? with|some o=>jq ops TM i o&&Ii i o|none=>false
def sD{P:ag}{ops:Array aj}{Q:cJ->aU->am->Prop}{i:Nat}{K:aU->am->Prop}{a:aU}{w w':am}{o:aj}{v:ad}(ho:ops[i]? =some o)(hg:o.guard=none)
 (h:(execOp a.eval o).run P w=.ok (.value v) w')(hk:K (a.put o.dst v) w'):wpOp P ops Q i K a w:=by
 unfold wpOp;rw[ho];have:Region.wanted o (yielded ops a.tmps)=true:=by unfold Region.wanted;rw[hg]
 simp only[this,ba];refine .inl ?_;unfold Oper.wp;rw[h];exact hk
def G5{P:ag}{ops:Array aj}{Q:cJ->aU->am->Prop}{i:Nat}{K:aU->am->Prop}{a:aU}{w w':am}{o:aj}(ho:ops[i]? =some o)(hg:o.guard=none)
 (h:(execOp a.eval o).run P w=.ok .skip w')(hk:K (a.put o.dst ak) w'):wpOp P ops Q i K a w:=by
 unfold wpOp;rw[ho];have:Region.wanted o (yielded ops a.tmps)=true:=by unfold Region.wanted;rw[hg]
 simp only[this,ba];refine .inl ?_;unfold Oper.wp;rw[h];exact hk
section
variable {P:ag} {ops:Array aj} {nt TM TK TE:Nat} {σ0:cI} {W:AW} {R:ah.Fr} {w0:am} {ny:Array ad} {ds:List dv} {b0 b1 b2 b3 b4 b5 b6 b7:Bool} {l:Array Bool} {a:aU} {w:am}
def Dl(l:Array Bool)(b0 b1 b2 b3 b4 b5 b6 b7:Bool):bN Unit:=
 IK (l.getD 4 false) (l.getD 8 false) (l.getD 12 false) (l.getD 16 false) (l.getD 20 false) (l.getD 24 false) (l.getD 29 false) (l.getD 33 false) b0 b1 b2 b3 b4 b5 b6 b7
structure RB (ops:Array aj) (nt:Nat) (ny:Array ad) (ds:List dv) (l:Array Bool) (a:aU):Prop where
 xp:l.size=36
 Mf:a.tmps.size=nt
 Xk:a.defers=ds
 down:∀i,l.getD i false=true->∀o,ops[i]? =some o->∀e∈o.after,Region.binds .any e=true->l.getD e.on false=true
 um:∀t,(t<14\/41<t)->a.tmps[t]? =ny[t]?
def RM(P:ag)(TK TE:Nat)(w0:am)(b0 b1 b2 b3 b4 b5 b6 b7:Bool)(l:Array Bool)(a:aU)(w:am)(σ:cI)(m n:Nat):Prop:=
 (∀b g,σ b=some g->g.B≠m)/\w0.heap.size<=m/\a.tmps.getD 14 ak=.map (some m)/\n<=(List.range 36).countP (λi=>l.getD i false)/\(l.getD 34 false=true->a.tmps.getD 40 ak=.map (some m))/\
  (l.getD 35 false=false->w.ownsMap P TK (plainElem P TE) m n (Dl l b0 b1 b2 b3 b4 b5 b6 b7))/\
  (l.getD 35 false=true->∃r,a.tmps.getD 41 ak=.pointer (some ⟨r,0,none⟩)/\(∀b g,σ b=some g->g.B≠r)/\w0.heap.size<=r/\
    w.ranges P TK (plainElem P TE) m r n (Dl l b0 b1 b2 b3 b4 b5 b6 b7) (Maps.has (Dl l b0 b1 b2 b3 b4 b5 b6 b7)) (Maps.size (Dl l b0 b1 b2 b3 b4 b5 b6 b7)))
structure RI (P:ag) (ops:Array aj) (nt TK TE:Nat) (σ0:cI) (W:AW) (R:ah.Fr) (w0:am) (ny:Array ad) (ds:List dv) (b0 b1 b2 b3 b4 b5 b6 b7:Bool)
 (l:Array Bool) (a:aU) (w:am):Prop where
 base:RB ops nt ny ds l a
 aoa:∃σ,bg σ W w.heap/\eF σ0 W w0 σ W w/\(∀i o d,ops[i]? =some o->iL i=true->l.getD i false=true->o.dst=some d->VR σ (cL R d) (a.tmps.getD d ak))/\
  (l.getD 0 false=true->∃m n,RM P TK TE w0 b0 b1 b2 b3 b4 b5 b6 b7 l a w σ m n)
structure RF (P:ag) (ops:Array aj) (nt TM TK TE:Nat) (σ0:cI) (W:AW) (R:ah.Fr) (ny:Array ad) (b0 b1 b2 b3 b4 b5 b6 b7:Bool):Prop where
 size:ops.size=36
 shape:∀i o,ops[i]? =some o->jq ops TM i o=true
 back:∀i o,ops[i]? =some o->Ii i o=true
 akK:∀i o d,ops[i]? =some o->iL i=true->o.dst=some d->∀(σ:cI) (w:am) (ρ:an->ad),bg σ W w.heap->(∀x∈o.op.operands,VR σ (ax R x) (ρ x))->jr P σ W w (execOp ρ o) (cL R d) W
 v0:cL R 17=.bool b0
 v1:cL R 20=.bool b1
 v2:cL R 23=.bool b2
 v3:cL R 26=.bool b3
 v4:cL R 29=.bool b4
 v5:cL R 32=.bool b5
 v6:cL R 36=.bool b6
 v7:cL R 39=.bool b7
 ptr:VR σ0 (cL R 1) (ny.getD 1 ak)
 nt:42<=nt
 TM:P.underlying TM=some (.map TK TE)
 TK:P.underlying TK=some (.int .i64)
 TE:P.underlying TE=some .bool
def wj{l:Array Bool}{i:Nat}(hi:i<36)(hs:l.size=36)(h:l.getD i false=false):(List.range 36).countP (λk=>l.getD k false)+1<=(List.range 36).countP (λk=>(l.setIfInBounds i true).getD k false):=by
 refine Gx (x:=i) (by simpa using hi) (cW (by omega) false) h λy hy=>?_
 by_cases e:i=y
 ·subst e;exact cW (by omega) false
 ·rw[aT e];exact hy
def WD{l:Array Bool}:(List.range 36).countP (λk=>l.getD k false)<=36:=by have:=List.countP_le_length (p:=λk=>l.getD k false) (l:=List.range 36);simpa using this
def mC{l:Array Bool}{i:Nat}(h:l.getD i true=false)(hi:i<l.size):l.getD i false=false:=by simp only[vt]at h|-;rw[hZ hi]at h|-;exact h
def Bw(hF:RF P ops nt TM TK TE σ0 W R ny b0 b1 b2 b3 b4 b5 b6 b7){i:Nat}{o:aj}(ho:ops[i]? =some o):o.guard=none/\(iL i=true->(∃d,o.dst=some d/\14<d/\d<40)/\o.op.operands.toList.all (TF ops o)=true)/\
 (∀d,o.dst=some d->14<=d/\d<=41)/\(∀d,o.dst=some d->14<d->d<40->iL i=true):=by
 have hs:=hF.shape i o ho;by_cases hp:iL i=true
 ·have hq:Nl ops o=true:=by unfold jq at hs;unfold iL at hp;split at hs<;>first|exact hs|(simp at hp;done)
  unfold Nl at hq;simp only[a8,zP]at hq;obtain⟨⟨h1,h2⟩,h3⟩:=hq;cases hd:o.dst with
  |none=>rw[hd]at h2;cases h2
  |some d=>rw[hd]at h2;simp only[a8,ic]at h2;refine⟨h1,λ_=>⟨⟨d,rfl,h2⟩,h3⟩,λd' e=>?_,λ_ _ _ _=>hp⟩;injection e with e;subst e;exact⟨Nat.le_of_lt h2.1,Nat.le_of_lt (Nat.lt_trans h2.2 (by decide))⟩
 ·refine⟨?_,λh=>absurd h hp,?_,?_⟩
  ·unfold jq at hs;unfold iL at hp;split at hs<;>simp_all[pO]
  ·intro d hd;unfold jq at hs;unfold iL at hp;split at hs<;>simp_all[pO];all_goals(first|(split at hs<;>simp_all)|skip)
   all_goals omega
  ·intro d hd h1 h2;exfalso;unfold jq at hs;unfold iL at hp;split at hs<;>simp_all[pO];all_goals(first|(split at hs<;>simp_all)|skip)
   all_goals omega
def RB.step(hB:RB ops nt ny ds l a)(hF:RF P ops nt TM TK TE σ0 W R ny b0 b1 b2 b3 b4 b5 b6 b7){i:Nat}{o:aj}(ho:ops[i]? =some o)
 (hr:∀e∈o.after,Region.binds .any e=true->l.getD e.on false=true)(v:ad):RB ops nt ny ds (l.setIfInBounds i true) (a.put o.dst v):=by
 obtain⟨_,_,hd,_⟩:=Bw hF ho;have hi:i<l.size:=by rw[hB.xp,<-hF.size];exact(dC.1 ho).1
 have xl:∀k,l.getD k false=true->(l.setIfInBounds i true).getD k false=true:=λk hk=>by
  by_cases e:i=k
  ·subst e;exact cW hi _
  ·rw[aT e];exact hk
 refine⟨by simp[hB.xp],by rw[EB];exact hB.Mf,by rw[pz];exact hB.Xk,?_,?_⟩
 ·intro k hk o' JF e he hb;by_cases e1:i=k
  ·subst e1;rw[ho]at JF;injection JF with JF;subst JF;exact xl _ (hr e he hb)
  ·rw[aT e1]at hk;exact xl _ (hB.down k hk o' JF e he hb)
 ·intro t ht;rw[<-hB.um t ht];cases hq:o.dst with
  |none=>rfl
  |some d=>
   have:=hd d hq;show(a.tmps.setIfInBounds d v)[t]? =a.tmps[t]?;rw[A8];rintro rfl;rcases ht with h|h
   ·exact absurd (eE h this.1) (Nat.lt_irrefl _)
   ·exact absurd (eE h this.2) (Nat.lt_irrefl _)
def PC{σ σ':cI}{W W':AW}{w w':am}(he:eF σ W w σ' W' w'){m:Nat}(hm:m<w.heap.size)(hn:∀b g,σ b=some g->g.B≠m):(∀b g,σ' b=some g->g.B≠m)/\w'.heap[m]? =w.heap[m]? :=by
 have hnm:¬Mut σ W m:=by rintro⟨b,g,h1,h2,_⟩;exact hn b g h1 h2
 refine⟨λb g hb e=>?_,he.keep m hm hnm⟩;subst e;rcases he.grow b g hb hm with h1|h1
 ·exact hn b g h1 rfl
 ·exact hnm h1
def UO{H:Type}{k:ae}{w w':am}{Re:ad->Option (bN H×List cx)}{b n:Nat}{D:bN H}(h:w.ownsMap P k Re b n D)(e:w'.heap[b]? =w.heap[b]?):w'.ownsMap P k Re b n D:=by obtain⟨es,kH,hb,r⟩:=h;exact⟨es,kH,e.trans hb,r⟩
def Rh(hF:RF P ops nt TM TK TE σ0 W R ny b0 b1 b2 b3 b4 b5 b6 b7)(hI:RI P ops nt TK TE σ0 W R w0 ny ds b0 b1 b2 b3 b4 b5 b6 b7 l a w){i:Nat}{o:aj}(ho:ops[i]? =some o)(hl:l.getD i true=false)
 (hr:∀e∈o.after,Region.binds .any e=true->l.getD e.on false=true)(hp:iL i=true){Q:cJ->aU->am->Prop}{K:aU->am->Prop}
 (hK:∀a' w',RI P ops nt TK TE σ0 W R w0 ny ds b0 b1 b2 b3 b4 b5 b6 b7 (l.setIfInBounds i true) a' w'->K a' w'):wpOp P ops Q i K a w:=by
 obtain⟨hg,hpd,_,BV⟩:=Bw hF ho;obtain⟨⟨d,hd,hd1,hd2⟩,cq⟩:=hpd hp;obtain⟨hB,σ,hW,hE,tJ,gQ⟩:=hI;have hi:i<l.size:=by rw[hB.xp,<-hF.size];exact(dC.1 ho).1
 have IQ:=mC hl hi;have hρ:∀x∈o.op.operands,VR σ (ax R x) (a.eval x):=by
  intro x hx;have hx1:=cw.1 cq x (by simpa using hx);unfold TF at hx1;split at hx1
  ·exact g8 hx1
  ·rename_i t;rw[mJ]at hx1;show VR σ (cL R t) (a.tmps.getD t ak);rcases hx1 with h1|h1
   ·obtain rfl:t=1:=by simpa using h1
    have:a.tmps.getD 1 ak=ny.getD 1 ak:=by simp only[vt];rw[hB.um 1 (.inl (by decide))]
    rw[this];exact hF.ptr.mono hE.sub
   ·rw[Array.any_eq_true']at h1;obtain⟨e,he,hb⟩:=h1;rw[a8]at hb;obtain⟨Nx,nD⟩:=hb;split at nD
    ·rename_i o' JF;split at nD
     ·rename_i d' iA;simp only[a8,dM,ic]at nD;obtain⟨rfl,h3,h4⟩:=nD;exact tJ e.on o' d' JF ((Bw hF JF).2.2.2 d' iA h3 h4) (hr e he Nx) iA
     ·cases nD
    ·cases nD
  ·cases hx1
 obtain⟨σ',nx,v',w',jC,Uw,hv,hW',hE'⟩:=hF.akK i o d ho hp hd σ w a.eval hW hρ;have pE:RI P ops nt TK TE σ0 W R w0 ny ds b0 b1 b2 b3 b4 b5 b6 b7 (l.setIfInBounds i true) (a.put o.dst v') w':=by
  refine⟨hB.step hF ho hr v',σ',hW',hE.trans hE',?_,?_⟩
  ·intro k o' d' JF F3 B6 iA;by_cases e:i=k
   ·subst e;rw[ho]at JF;injection JF with JF;subst JF;rw[hd]at iA;injection iA with iA;subst iA;rw[pd hd (by rw[hB.Mf];exact eE hd2 (eW (by decide) hF.nt))];exact hv
   ·rw[aT e]at B6;by_cases e2:d'=d
    ·subst e2;rw[pd hd (by rw[hB.Mf];exact eE hd2 (eW (by decide) hF.nt))];exact hv
    ·rw[gD (by rw[hd];intro e3;injection e3 with e3;exact e2 e3.symm)];exact(tJ k o' d' JF F3 B6 iA).mono hE'.sub
  ·intro h0;have ee:∀k,iL k=false->(l.setIfInBounds i true).getD k false=l.getD k false:=λk hk=>aT (λe=>by subst e;rw[hp]at hk;cases hk) _
   have di:∀t,(t=14\/39<t)->(a.put o.dst v').tmps.getD t ak=a.tmps.getD t ak:=λt ht=>gD (by
    rw[hd];intro e3;injection e3 with e3;subst e3;rcases ht with h|h
    ·subst h;exact absurd hd1 (by decide)
    ·exact absurd hd2 (by intro h5;exact absurd (eE h5 h) (Nat.lt_irrefl _)));rw[ee 0 rfl]at h0;obtain⟨m,n,k1,k2,k3,k4,k5,k6,k7⟩:=gQ h0;have hD:Dl (l.setIfInBounds i true) b0 b1 b2 b3 b4 b5 b6 b7=Dl l b0 b1 b2 b3 b4 b5 b6 b7:=by
    unfold Dl;rw[ee 4 rfl,ee 8 rfl,ee 12 rfl,ee 16 rfl,ee 20 rfl,ee 24 rfl,ee 29 rfl,ee 33 rfl]
   have kW:m<w.heap.size:=by
    cases hq:l.getD 35 false with
    |false=>exact(k6 hq).lt
    |true=>obtain⟨r,_,_,_,KY⟩:=k7 hq;exact KY.owns.lt
   obtain⟨q1,q2⟩:=PC hE' kW k1;refine⟨m,n,q1,k2,by rw[di 14 (.inl rfl)];exact k3,eW k4 (eW (Nat.le_succ _) (wj (by rw[<-hB.xp];exact hi) hB.xp IQ)),λh=>?_,λh=>?_,λh=>?_⟩
   ·rw[ee 34 rfl]at h;rw[di 40 (.inr (by decide))];exact k5 h
   ·rw[ee 35 rfl]at h;rw[hD];exact UO (k6 h) q2
   ·rw[ee 35 rfl]at h;obtain⟨r,p1,p2,p3,p4⟩:=k7 h;have amz:r<w.heap.size:=by obtain⟨es,kH,since,seen,c0,_,_,_,_,hr,_⟩:=p4;exact(dC.1 hr).1
    obtain⟨q3,q4⟩:=PC hE' amz p2;refine⟨r,by rw[di 41 (.inr (by decide))];exact p1,q3,p3,?_⟩;rw[hD];obtain⟨es,kH,since,seen,c0,z1,z2,z3,z4,z5,z6⟩:=p4;exact⟨es,kH,since,seen,c0,q2.trans z1,z2,z3,z4,q4.trans z5,z6⟩
 rcases Uw with rfl|⟨rfl,rfl⟩
 ·exact sD ho hg jC (hK _ _ pE)
 ·exact G5 ho hg jC (hK _ _ pE)
def PU(hF:RF P ops nt TM TK TE σ0 W R ny b0 b1 b2 b3 b4 b5 b6 b7)(hB:RB ops nt ny ds l a):
 (l.getD 35 false=true->l.getD 34 false=true)/\(l.getD 34 false=true->∀e,e<34->l.getD e false=true)/\(∀i,(i=4\/i=8\/i=12\/i=16\/i=20\/i=24\/i=29\/i=33)->l.getD i false=true->l.getD 0 false=true):=by
 have at_:∀i,i<36->∃o,ops[i]? =some o:=λi hi=>⟨ops[i]'(by rw[hF.size];exact hi),hZ _⟩
 refine⟨λh=>?_,λh e he=>?_,λi hi h=>?_⟩
 ·obtain⟨o,ho⟩:=at_ 35 (by decide);have hs:=hF.shape 35 o ho;simp only[jq,a8]at hs;exact fG hs.2 (hB.down 35 h o ho)
 ·obtain⟨o,ho⟩:=at_ 34 (by decide);have hs:=hF.shape 34 o ho;simp only[jq,a8,cw]at hs;exact fG (hs.2 e (by simpa using he)) (hB.down 34 h o ho)
 ·obtain⟨o,ho⟩:=at_ i (by omega);have hs:=hF.shape i o ho;have:xR 0 o=true:=by rcases hi with rfl|rfl|rfl|rfl|rfl|rfl|rfl|rfl<;>(simp only[jq,pO,a8]at hs;exact hs.1.1.1.2)
  exact fG this (hB.down i h o ho)
def sw{σ:cI}(hF:RF P ops nt TM TK TE σ0 W R ny b0 b1 b2 b3 b4 b5 b6 b7){i:Nat}{o:aj}(ho:ops[i]? =some o)(hp:iL i=false)
 (h:∀i o d,ops[i]? =some o->iL i=true->l.getD i false=true->o.dst=some d->VR σ (cL R d) (a.tmps.getD d ak))(v:ad):
 ∀k o' d,ops[k]? =some o'->iL k=true->(l.setIfInBounds i true).getD k false=true->o'.dst=some d->VR σ (cL R d) ((a.put o.dst v).tmps.getD d ak):=by
 intro k o' d JF F3 hl hd;have e:i≠k:=λe=>by subst e;rw[hp]at F3;cases F3
 rw[aT e]at hl;obtain⟨_,hpd,_,_⟩:=Bw hF JF;obtain⟨⟨d',iA,h1,h2⟩,_⟩:=hpd F3;rw[hd]at iA;injection iA with iA;subst iA;rw[gD]
 ·exact h k o' d JF F3 hl hd
 ·intro e2;have:=(Bw hF ho).2.2.2 d e2 h1 h2;rw[hp]at this;cases this
def IZ{w:am}{o:Obj}(ho:∀c t f,o≠ .cells c t f)(x:aP):(w.alloc o).frozen? x=w.frozen? x:=by
 by_cases h:x.block<w.heap.size
 ·exact World.frozen?_of_block ((Al w o none).block _ h (by simp))
 ·rw[oN (w:=w) (by omega)];by_cases e:x.block=w.heap.size
  ·unfold World.frozen?;rw[e];have:(w.alloc o).heap[w.heap.size]? =some o:=(MapKept.heap_alloc w o).1;rw[this];cases o<;>first|rfl|exact absurd rfl (ho _ _ _)
  ·refine oN ?_;have:(w.alloc o).heap.size=w.heap.size+1:=by simp
   omega
def Rg(hF:RF P ops nt TM TK TE σ0 W R ny b0 b1 b2 b3 b4 b5 b6 b7)(hI:RI P ops nt TK TE σ0 W R w0 ny ds b0 b1 b2 b3 b4 b5 b6 b7 l a w){o:aj}(ho:ops[0]? =some o)(hl:l.getD 0 true=false)
 (hr:∀e∈o.after,Region.binds .any e=true->l.getD e.on false=true){Q:cJ->aU->am->Prop}{K:aU->am->Prop}
 (hK:∀a' w',RI P ops nt TK TE σ0 W R w0 ny ds b0 b1 b2 b3 b4 b5 b6 b7 (l.setIfInBounds 0 true) a' w'->K a' w'):wpOp P ops Q 0 K a w:=by
 obtain⟨hB,σ,hW,hE,tJ,gQ⟩:=hI;have hi:0<l.size:=by rw[hB.xp];decide
 have IQ:=mC hl hi;obtain⟨n1,n2,n3⟩:=PU hF hB;have hs:=hF.shape 0 o ho;simp only[jq,a8,zP]at hs;obtain⟨hg,hs⟩:=hs;split at hs;case h_2=>cases hs
 rename_i t d qQ hd;simp only[a8,dM]at hs;obtain⟨rfl,rfl⟩:=hs;have jC:(execOp a.eval o).run P w=.ok (.value (.map (some w.heap.size))) (w.alloc (.map #[] 0)):=by simp[execOp,qQ,run_makeMap]
 refine sD ho hg jC (hK _ _ ⟨hB.step hF ho hr _,σ,?_,?_,sw hF ho rfl tJ _,λ_=>⟨w.heap.size,0,?_,hE.size,?_,mP _,?_,?_,?_⟩⟩)
 ·exact AH (m:=w.heap.size) hW (λb g hb=>Nat.ne_of_lt (hW.m8 b g hb).2) ((Al w _ none).but _)
 ·exact Aq (m:=w.heap.size) hE hE.size ((Al w _ none).but _) (IZ (λ_ _ _ h=>by cases h))
 ·exactλb g hb=>Nat.ne_of_lt (hW.m8 b g hb).2
 ·exact pd hd (by rw[hB.Mf];exact eE (by decide) hF.nt)
 ·intro h;rw[aT (by decide)]at h;rw[n2 h 0 (by decide)]at IQ;cases IQ
 ·intro _;have yi:∀i,(i=4\/i=8\/i=12\/i=16\/i=20\/i=24\/i=29\/i=33)->(l.setIfInBounds 0 true).getD i false=false:=λi hi=>by
   rw[aT (by omega)];cases hq:l.getD i false with
   |false=>rfl
   |true=>rw[n3 i hi hq]at IQ;cases IQ
  have hD:Dl (l.setIfInBounds 0 true) b0 b1 b2 b3 b4 b5 b6 b7=.map []:=by unfold Dl;rw[yi 4 (by simp),yi 8 (by simp),yi 12 (by simp),yi 16 (by simp),yi 20 (by simp),yi 24 (by simp),yi 29 (by simp),yi 33 (by simp)];rfl
  rw[hD];exact World.ownsMap_made _ _ _ _
 ·intro h;rw[aT (by decide)]at h;rw[n2 (n1 h) 0 (by decide)]at IQ;cases IQ
def m7(hF:RF P ops nt TM TK TE σ0 W R ny b0 b1 b2 b3 b4 b5 b6 b7)(hI:RI P ops nt TK TE σ0 W R w0 ny ds b0 b1 b2 b3 b4 b5 b6 b7 l a w){i key s k:Nat}{bj:Bool}{o:aj}(ho:ops[i]? =some o)(hl:l.getD i true=false)
 (hr:∀e∈o.after,Region.binds .any e=true->l.getD e.on false=true)(hs:pO ops TM key s k o=true)(hp:iL i=false)(alG:i<34)(hi0:i≠0)(hv:cL R s=.bool bj)(hwf:(Lit.int .i64 key).wf=true)
 (akB:(Dl l b0 b1 b2 b3 b4 b5 b6 b7).put (.af key) (.lit (.bool bj))=Dl (l.setIfInBounds i true) b0 b1 b2 b3 b4 b5 b6 b7){Q:cJ->aU->am->Prop}{K:aU->am->Prop}
 (hK:∀a' w',RI P ops nt TK TE σ0 W R w0 ny ds b0 b1 b2 b3 b4 b5 b6 b7 (l.setIfInBounds i true) a' w'->K a' w'):wpOp P ops Q i K a w:=by
 obtain⟨hB,σ,hW,hE,tJ,gQ⟩:=hI;have hi:i<l.size:=by rw[hB.xp];omega
 have IQ:=mC hl hi;obtain⟨n1,n2,n3⟩:=PU hF hB;unfold pO at hs;simp only[a8,zP]at hs;obtain⟨⟨⟨⟨⟨hg,hd⟩,e0⟩,ek⟩,qQ⟩,hk⟩:=hs;split at qQ;case h_2=>cases qQ
 rename_i t m' n' v' akG;simp only[a8,dM,ic]at qQ;obtain⟨⟨⟨⟨⟨rfl,rfl⟩,rfl⟩,rfl⟩,HM⟩,zA⟩:=qQ;split at hk;case h_2=>cases hk
 rename_i ok jR;split at hk;case h_2=>cases hk
 rename_i dk hdk;obtain rfl:dk=v':=by simpa using hk
 have K6:a.tmps.getD dk ak=.bool bj:=by have:=tJ k ok dk jR ((Bw hF jR).2.2.2 dk hdk HM zA) (fG ek hr) hdk;rw[hv]at this;exact this.io
 obtain⟨m,n,k1,k2,k3,k4,k5,k6,k7⟩:=gQ (fG e0 hr);have h34:l.getD 34 false=false:=by
  cases hq:l.getD 34 false with
  |false=>rfl
  |true=>rw[n2 hq i alG]at IQ;cases IQ
 have Lc:l.getD 35 false=false:=by
  cases hq:l.getD 35 false with
  |false=>rfl
  |true=>rw[n1 hq]at h34;cases h34
 have JJ:keyOf P TK (.af (n':Int))=some (.af (n':Int)):=by simp[keyOf,mapKey,hF.TK,hwf]
 obtain⟨w',jC,aaz,Se,qY⟩:=Ng (k6 Lc) (Go.Maps.int_keyed hF.TK) hF.TM (Nat.lt_of_le_of_lt (eW k4 WD) (by decide)) JJ (plainElem_bool hF.TE bj);have T8:(execOp a.eval o).run P w=.ok .skip w':=by have e1:a.eval (.tmp 14)=.map (some m):=k3;have e2:a.eval (.tmp dk)=.bool bj:=K6;have e3:a.eval (.const (.af (Int.ofNat n')))=.af (n':Int):=rfl;simp only[execOp,akG,e1,e2,e3];simp[jC]
 refine G5 ho hg T8 (hK _ _ ⟨hB.step hF ho hr _,σ,?_,?_,sw hF ho hp tJ _,λ_=>⟨m,n+1,k1,k2,?_,?_,?_,?_,?_⟩⟩)
 ·exact AH hW k1 Se
 ·refine Aq hE k2 Se λx=>?_
  by_cases e:x.block=m
  ·rw[KF (k6 Lc) e,KF aaz e]
  ·by_cases h:x.block<w.heap.size
   ·exact World.frozen?_of_block (Se.block _ h (λe2=>by injection e2 with e2;exact e e2))
   ·rw[oN (w:=w) (by omega),oN (w:=w') (by omega)]
 ·rw[hd];exact k3
 ·exact eW (Nat.succ_le_succ k4) (wj (by rw[<-hB.xp];exact hi) hB.xp IQ)
 ·intro h;rw[aT (by omega),h34]at h;cases h
 ·intro _;rw[<-akB];exact aaz
 ·intro h;rw[aT (by omega),Lc]at h;cases h
def Rw(hF:RF P ops nt TM TK TE σ0 W R ny b0 b1 b2 b3 b4 b5 b6 b7)(hI:RI P ops nt TK TE σ0 W R w0 ny ds b0 b1 b2 b3 b4 b5 b6 b7 l a w){o:aj}(ho:ops[34]? =some o)(hl:l.getD 34 true=false)
 (hr:∀e∈o.after,Region.binds .any e=true->l.getD e.on false=true){Q:cJ->aU->am->Prop}{K:aU->am->Prop}
 (hK:∀a' w',RI P ops nt TK TE σ0 W R w0 ny ds b0 b1 b2 b3 b4 b5 b6 b7 (l.setIfInBounds 34 true) a' w'->K a' w'):wpOp P ops Q 34 K a w:=by
 obtain⟨hB,σ,hW,hE,tJ,gQ⟩:=hI;have hi:34<l.size:=by rw[hB.xp];decide
 have IQ:=mC hl hi;obtain⟨n1,n2,n3⟩:=PU hF hB;have hs:=hF.shape 34 o ho;simp only[jq,a8,zP,cw]at hs;obtain⟨⟨hg,hs⟩,XS⟩:=hs;split at hs;case h_2=>cases hs
 rename_i x d qQ hd;simp only[a8,dM]at hs;obtain⟨rfl,rfl⟩:=hs;have h0:l.getD 0 false=true:=fG (XS 0 (by simp)) hr;obtain⟨m,n,k1,k2,k3,k4,k5,k6,k7⟩:=gQ h0;have Lc:l.getD 35 false=false:=by
  cases hq:l.getD 35 false with
  |false=>rfl
  |true=>rw[n1 hq]at IQ;cases IQ
 have jC:(execOp a.eval o).run P w=.ok (.value (.map (some m))) w:=by have e1:a.eval (.tmp 14)=.map (some m):=k3;simp only[execOp,qQ,e1];rfl
 have hD:Dl (l.setIfInBounds 34 true) b0 b1 b2 b3 b4 b5 b6 b7=Dl l b0 b1 b2 b3 b4 b5 b6 b7:=by unfold Dl;rw[aT (by decide),aT (by decide),aT (by decide),aT (by decide),aT (by decide),aT (by decide),aT (by decide),aT (by decide)]
 refine sD ho hg jC (hK _ _ ⟨hB.step hF ho hr _,σ,hW,hE,sw hF ho rfl tJ _,λ_=>⟨m,n,k1,k2,?_,?_,?_,?_,?_⟩⟩)
 ·rw[gD (by rw[hd];intro e;injection e with e;cases e)];exact k3
 ·exact eW k4 (eW (Nat.le_succ _) (wj (by decide) hB.xp IQ))
 ·intro _;exact pd hd (by rw[hB.Mf];exact eE (by decide) hF.nt)
 ·intro _;rw[hD];exact k6 Lc
 ·intro h;rw[aT (by decide),Lc]at h;cases h
def NC(hF:RF P ops nt TM TK TE σ0 W R ny b0 b1 b2 b3 b4 b5 b6 b7)(hI:RI P ops nt TK TE σ0 W R w0 ny ds b0 b1 b2 b3 b4 b5 b6 b7 l a w){o:aj}(ho:ops[35]? =some o)(hl:l.getD 35 true=false)
 (hr:∀e∈o.after,Region.binds .any e=true->l.getD e.on false=true){Q:cJ->aU->am->Prop}{K:aU->am->Prop}
 (hK:∀a' w',RI P ops nt TK TE σ0 W R w0 ny ds b0 b1 b2 b3 b4 b5 b6 b7 (l.setIfInBounds 35 true) a' w'->K a' w'):wpOp P ops Q 35 K a w:=by
 obtain⟨hB,σ,hW,hE,tJ,gQ⟩:=hI;have hi:35<l.size:=by rw[hB.xp];decide
 have IQ:=mC hl hi;obtain⟨n1,n2,n3⟩:=PU hF hB;have hs:=hF.shape 35 o ho;simp only[jq,a8,zP]at hs;obtain⟨⟨hg,hs⟩,XS⟩:=hs;split at hs;case h_2=>cases hs
 rename_i t x d qQ hd;simp only[a8,dM]at hs;obtain⟨⟨rfl,rfl⟩,rfl⟩:=hs;have h34:l.getD 34 false=true:=fG XS hr;obtain⟨m,n,k1,k2,k3,k4,k5,k6,k7⟩:=gQ (n2 h34 0 (by decide));obtain⟨w',jC,KY,Se,qY⟩:=(k6 IQ).range (Go.Maps.int_keyed hF.TK) hF.TM;have T8:(execOp a.eval o).run P w=.ok (.value (.pointer (some ⟨w.heap.size,0,none⟩))) w':=by have e1:a.eval (.tmp 40)=.map (some m):=k5 h34;simp only[execOp,qQ,e1];simp[jC]
 have aio:∀x:aP,x.block=w.heap.size->w'.frozen? x=false:=λx e=>by obtain⟨es,kH,since,seen,c0,_,_,_,_,hr,_⟩:=KY;unfold World.frozen?;rw[e,hr]
 have hD:Dl (l.setIfInBounds 35 true) b0 b1 b2 b3 b4 b5 b6 b7=Dl l b0 b1 b2 b3 b4 b5 b6 b7:=by unfold Dl;rw[aT (by decide),aT (by decide),aT (by decide),aT (by decide),aT (by decide),aT (by decide),aT (by decide),aT (by decide)]
 refine sD ho hg T8 (hK _ _ ⟨hB.step hF ho hr _,σ,?_,?_,sw hF ho rfl tJ _,λ_=>⟨m,n,k1,k2,?_,?_,?_,?_,?_⟩⟩)
 ·exact AH (m:=w.heap.size) hW (λb g hb=>Nat.ne_of_lt (hW.m8 b g hb).2) (Se.but _)
 ·refine Aq (m:=w.heap.size) hE hE.size (Se.but _) λx=>?_
  by_cases h:x.block<w.heap.size
  ·exact World.frozen?_of_block (Se.block _ h (by simp))
  ·rw[oN (w:=w) (by omega)];by_cases e:x.block=w.heap.size
   ·exact aio x e
   ·exact oN (by omega)
 ·rw[gD (by rw[hd];intro e;injection e with e;cases e)];exact k3
 ·exact eW k4 (eW (Nat.le_succ _) (wj (by decide) hB.xp IQ))
 ·intro _;rw[gD (by rw[hd];intro e;injection e with e;cases e)];exact k5 h34
 ·intro h;rw[cW hi]at h;cases h
 ·intro _;refine⟨w.heap.size,pd hd (by rw[hB.Mf];exact eE (by decide) hF.nt),λb g hb=>Nat.ne_of_lt (hW.m8 b g hb).2,hE.size,?_⟩;rw[hD];exact KY
def QU(hF:RF P ops nt TM TK TE σ0 W R ny b0 b1 b2 b3 b4 b5 b6 b7)(hB:RB ops nt ny ds l a)(h:Region.ready .any ops l=[]):∀i,i<36->l.getD i false=true:=by
 have key:∀n i,i<n->i<36->l.getD i false=true:=by
  intro n;induction n with
  |zero=>intro i h;exact absurd h (Nat.not_lt_zero _)
  |succ n ih=>
   intro i hi HN;by_cases kW:i<n
   ·exact ih i kW HN
   ·have nM:i<ops.size:=by rw[hF.size];exact HN
    have ho:ops[i]? =some ops[i]:=hZ nM;cases hq:l.getD i false with
    |true=>rfl
    |false=>
     exfalso;have hb:=hF.back i _ ho;unfold Ii at hb;have hil:i<l.size:=by rw[hB.xp];exact HN
     have:i∈Region.ready .any ops l:=ox.2 ⟨by
      simp only[vt]at hq|-;rw[hZ hil]at hq|-;exact hq,_,ho,λe he hbd=>by
      rw[Array.all_eq_true']at hb;have h1:=hb e he;rw[ic]at h1;exact ih e.on (by omega) (by omega)⟩;rw[h]at this;cases this
 exactλi hi=>key (i+1) i (Nat.lt_succ_self i) hi
def Wr(hF:RF P ops nt TM TK TE σ0 W R ny b0 b1 b2 b3 b4 b5 b6 b7)(hI:RI P ops nt TK TE σ0 W R w0 ny ds b0 b1 b2 b3 b4 b5 b6 b7 l a w){i:Nat}(hi:i∈Region.ready .any ops l){Q:cJ->aU->am->Prop}{K:aU->am->Prop}
 (hK:∀a' w',RI P ops nt TK TE σ0 W R w0 ny ds b0 b1 b2 b3 b4 b5 b6 b7 (l.setIfInBounds i true) a' w'->K a' w'):wpOp P ops Q i K a w:=by
 obtain⟨hl,o,ho,hr⟩:=ox.1 hi;have qY:l.size=36:=hI.base.xp;cases hp:iL i with
 |true=>exact Rh hF hI ho hl hr hp hK
 |false=>
  have hs:=hF.shape i o ho;have hc:i=0\/i=4\/i=8\/i=12\/i=16\/i=20\/i=24\/i=29\/i=33\/i=34\/i=35:=by unfold iL at hp;split at hp<;>first|simp|cases hp
  rcases hc with rfl|rfl|rfl|rfl|rfl|rfl|rfl|rfl|rfl|rfl|rfl
  ·exact Rg hF hI ho hl hr hK
  ·exact m7 hF hI ho hl hr hs rfl (by decide) (by decide) hF.v0 rfl (by unfold Dl;rw[cW (by omega),aT (show(4:Nat)≠8 by decide),aT (show(4:Nat)≠12 by decide),aT (show(4:Nat)≠16 by decide),aT (show(4:Nat)≠20 by decide),aT (show(4:Nat)≠24 by decide),aT (show(4:Nat)≠29 by decide),aT (show(4:Nat)≠33 by decide)];exact amm ..) hK
  ·exact m7 hF hI ho hl hr hs rfl (by decide) (by decide) hF.v1 rfl (by unfold Dl;rw[cW (by omega),aT (show(8:Nat)≠4 by decide),aT (show(8:Nat)≠12 by decide),aT (show(8:Nat)≠16 by decide),aT (show(8:Nat)≠20 by decide),aT (show(8:Nat)≠24 by decide),aT (show(8:Nat)≠29 by decide),aT (show(8:Nat)≠33 by decide)];exact akW ..) hK
  ·exact m7 hF hI ho hl hr hs rfl (by decide) (by decide) hF.v2 rfl (by unfold Dl;rw[cW (by omega),aT (show(12:Nat)≠4 by decide),aT (show(12:Nat)≠8 by decide),aT (show(12:Nat)≠16 by decide),aT (show(12:Nat)≠20 by decide),aT (show(12:Nat)≠24 by decide),aT (show(12:Nat)≠29 by decide),aT (show(12:Nat)≠33 by decide)];exact ald ..) hK
  ·exact m7 hF hI ho hl hr hs rfl (by decide) (by decide) hF.v3 rfl (by unfold Dl;rw[cW (by omega),aT (show(16:Nat)≠4 by decide),aT (show(16:Nat)≠8 by decide),aT (show(16:Nat)≠12 by decide),aT (show(16:Nat)≠20 by decide),aT (show(16:Nat)≠24 by decide),aT (show(16:Nat)≠29 by decide),aT (show(16:Nat)≠33 by decide)];exact amW ..) hK
  ·exact m7 hF hI ho hl hr hs rfl (by decide) (by decide) hF.v4 rfl (by unfold Dl;rw[cW (by omega),aT (show(20:Nat)≠4 by decide),aT (show(20:Nat)≠8 by decide),aT (show(20:Nat)≠12 by decide),aT (show(20:Nat)≠16 by decide),aT (show(20:Nat)≠24 by decide),aT (show(20:Nat)≠29 by decide),aT (show(20:Nat)≠33 by decide)];exact amP ..) hK
  ·exact m7 hF hI ho hl hr hs rfl (by decide) (by decide) hF.v5 rfl (by unfold Dl;rw[cW (by omega),aT (show(24:Nat)≠4 by decide),aT (show(24:Nat)≠8 by decide),aT (show(24:Nat)≠12 by decide),aT (show(24:Nat)≠16 by decide),aT (show(24:Nat)≠20 by decide),aT (show(24:Nat)≠29 by decide),aT (show(24:Nat)≠33 by decide)];exact anw ..) hK
  ·exact m7 hF hI ho hl hr hs rfl (by decide) (by decide) hF.v6 rfl (by unfold Dl;rw[cW (by omega),aT (show(29:Nat)≠4 by decide),aT (show(29:Nat)≠8 by decide),aT (show(29:Nat)≠12 by decide),aT (show(29:Nat)≠16 by decide),aT (show(29:Nat)≠20 by decide),aT (show(29:Nat)≠24 by decide),aT (show(29:Nat)≠33 by decide)];exact anr ..) hK
  ·exact m7 hF hI ho hl hr hs rfl (by decide) (by decide) hF.v7 rfl (by unfold Dl;rw[cW (by omega),aT (show(33:Nat)≠4 by decide),aT (show(33:Nat)≠8 by decide),aT (show(33:Nat)≠12 by decide),aT (show(33:Nat)≠16 by decide),aT (show(33:Nat)≠20 by decide),aT (show(33:Nat)≠24 by decide),aT (show(33:Nat)≠29 by decide)];exact anX ..) hK
  ·exact Rw hF hI ho hl hr hK
  ·exact NC hF hI ho hl hr hK
def EW(b0 b1 b2 b3 b4 b5 b6 b7:Bool):bN Unit:=IK true true true true true true true true b0 b1 b2 b3 b4 b5 b6 b7
structure RQ (P:ag) (nt TK TE:Nat) (σ0:cI) (W:AW) (w0:am) (ny:Array ad) (ds:List dv) (b0 b1 b2 b3 b4 b5 b6 b7:Bool) (a:aU) (w:am) (σ:cI) (m r n:Nat):Prop where
 Mf:a.tmps.size=nt
 Xk:a.defers=ds
 um:∀t,(t<14\/41<t)->a.tmps[t]? =ny[t]?
 it:a.tmps.getD 41 ak=.pointer (some ⟨r,0,none⟩)
 rel:bg σ W w.heap
 ext:eF σ0 W w0 σ W w
 nm:∀b g,σ b=some g->g.B≠m
 nr:∀b g,σ b=some g->g.B≠r
 gm:w0.heap.size<=m
 gr:w0.heap.size<=r
 rg:w.ranges P TK (plainElem P TE) m r n (EW b0 b1 b2 b3 b4 b5 b6 b7) (Maps.has (EW b0 b1 b2 b3 b4 b5 b6 b7)) (Maps.size (EW b0 b1 b2 b3 b4 b5 b6 b7))
def RI.done(hF:RF P ops nt TM TK TE σ0 W R ny b0 b1 b2 b3 b4 b5 b6 b7)(hI:RI P ops nt TK TE σ0 W R w0 ny ds b0 b1 b2 b3 b4 b5 b6 b7 l a w)(h:∀i,i<36->l.getD i false=true):
 ∃σ m r n,RQ P nt TK TE σ0 W w0 ny ds b0 b1 b2 b3 b4 b5 b6 b7 a w σ m r n:=by
 obtain⟨hB,σ,hW,hE,tJ,gQ⟩:=hI;obtain⟨m,n,k1,k2,k3,k4,k5,k6,k7⟩:=gQ (h 0 (by decide));obtain⟨r,p1,p2,p3,p4⟩:=k7 (h 35 (by decide));have hD:Dl l b0 b1 b2 b3 b4 b5 b6 b7=EW b0 b1 b2 b3 b4 b5 b6 b7:=by unfold Dl EW;rw[h 4 (by decide),h 8 (by decide),h 12 (by decide),h 16 (by decide),h 20 (by decide),h 24 (by decide),h 29 (by decide),h 33 (by decide)]
 rw[hD]at p4;exact⟨σ,m,r,n,hB.Mf,hB.Xk,hB.um,p1,hW,hE,k1,p2,k2,p3,p4⟩
def NY(hF:RF P ops nt TM TK TE σ0 W R ny b0 b1 b2 b3 b4 b5 b6 b7){Q:cJ->aU->am->Prop}(hQ:∀a' w' σ m r n,RQ P nt TK TE σ0 W w0 ny ds b0 b1 b2 b3 b4 b5 b6 b7 a' w' σ m r n->Q .normal a' w'):
 ∀(y6:Nat) (l:Array Bool) (a:aU) (w:am),RI P ops nt TK TE σ0 W R w0 ny ds b0 b1 b2 b3 b4 b5 b6 b7 l a w->unl 36 l<=y6->wpAny P .any ops Q y6 l a w:=by
 intro y6;induction y6 with
 |zero=>
  intro l a w hI hu;have tY:∀i,i<36->l.getD i false=true:=λi hi=>by
   have h1:=Kn (n:=36) (l:=l) (by omega) hi;have hil:i<l.size:=by rw[hI.base.xp];exact hi
   simp only[vt]at h1|-;rw[hZ hil]at h1|-;exact h1
  refine⟨?_,?_⟩
  ·rw[List.eq_nil_iff_forall_not_mem];intro i hi;obtain⟨h1,o,ho,_⟩:=ox.1 hi;have HN:i<36:=by rw[<-hF.size];exact(dC.1 ho).1
   have:=tY i HN;rw[mC h1 (by rw[hI.base.xp];exact HN)]at this;cases this
  ·obtain⟨σ,m,r,n,h⟩:=hI.done hF tY;exact hQ _ _ _ _ _ _ h
 |succ y6 ih=>
  intro l a w hI hu;refine⟨λhr=>?_,λi hi=>?_⟩
  ·obtain⟨σ,m,r,n,h⟩:=hI.done hF (QU hF hI.base hr);exact hQ _ _ _ _ _ _ h
  ·refine Wr hF hI hi λa' w' Ny=>ih _ a' w' Ny ?_
   obtain⟨h1,o,ho,_⟩:=ox.1 hi;have HN:i<36:=by rw[<-hF.size];exact(dC.1 ho).1
   have:=CN (l:=l) HN (by rw[hI.base.xp];exact HN) h1;omega
def M6(hm:P.follows .mixedOrders=true){id:Nat}(hF:RF P ops nt TM TK TE σ0 W R a.tmps b0 b1 b2 b3 b4 b5 b6 b7)(hnt:a.tmps.size=nt)(hW:bg σ0 W w.heap){Q:cJ->aU->am->Prop}
 (hQ:∀a' w' σ m r n,RQ P nt TK TE σ0 W w a.tmps a.defers b0 b1 b2 b3 b4 b5 b6 b7 a' w' σ m r n->Q .normal a' w'):(Code.region id ops true).wp P Q a w:=by
 refine wp_region_any hm ?_;have yi:∀i,(Array.replicate ops.size false).getD i false=false:=λi=>by simp only[vt,Array.getElem?_replicate];split<;>rfl
 refine NY (w0:=w) (ny:=a.tmps) (ds:=a.defers) hF hQ _ _ _ _ ⟨⟨by simp[hF.size],hnt,rfl,?_,λ_ _=>rfl⟩,σ0,hW,.drawn _ _ _ _,?_,?_⟩ ?_
 ·intro i hi;rw[yi]at hi;cases hi
 ·intro i o d _ _ hl;rw[yi]at hl;cases hl
 ·intro hl;rw[yi]at hl;cases hl
 ·unfold unl;have:=List.countP_le_length (p:=λi=> !(Array.replicate ops.size false).getD i true) (l:=List.range 36);rw[hF.size]at this|-;simpa using this
end
end
end Go.Eng
namespace Go.Eng
open Go Go.RowKit
section
variable [ah]
structure dx (w w':am):Prop where
 os:w'.os=w.os
 tape:w'.tape=w.tape
 output:w'.output=w.output
 size:w.heap.size<=w'.heap.size
 block:∀B,B<w.heap.size->w'.heap[B]? =w.heap[B]?
def dx.grown{w w':am}(h:dx w w'):N0 w w':=by
 refine⟨⟨h.os,h.output,λi hi=>?_⟩,λa ha=>K1 (h.block _ ha),h.size⟩;rw[h.block i hi];cases w.heap[i]? with
 |none=>rfl
 |some o=>cases o<;>first|rfl|exact⟨rfl,rfl,rfl,λ_ _=>rfl⟩|exact .inr ⟨rfl,rfl⟩
def dx.cell{w w':am}(h:dx w w'){a:aP}{v:ad}(hc:w.cell? a=some v):w'.cell? a=some v:=by
 have kW:a.block<w.heap.size:=by
  rcases zE a.block w.heap.size with h'|h'
  ·exact h'
  ·unfold World.cell? at hc;rw[vH h']at hc;simp at hc
 rw[World.cell?_of_block (h.block _ kW)];exact hc
def dx.rel{w w':am}(h:dx w w'){σ:cI}{W:AW}(hW:bg σ W w.heap):bg σ W w'.heap where
 free:=hW.free
 m8 b g hb:=⟨(hW.m8 b g hb).1,eE (hW.m8 b g hb).2 h.size⟩
 obj b o g hb hσ:=(hW.obj b o g hb hσ).same (h.block _ (hW.m8 b g hσ).2)
 qK:=hW.qK
def dx.ext{w w':am}(h:dx w w')(σ:cI)(W:AW):eF σ W w σ W w':=
 ⟨.refl _,λ_ _ h=>h,h.size,h.os,h.tape,h.output,λB hB _=>h.block B hB,λ_ _ a b=>⟨a,b⟩,λ_ _ a _=>.inl a⟩
def dx.other{w w' Ty:am}(h:dx w w'){r:Nat}(hr:w.heap.size<=r)(hg:w'.grownBy Ty (some r))(qY:Ty.heap.size=w'.heap.size)
 (h1:∀a:aP,a.block=r->w'.frozen? a=false)(h2:∀a:aP,a.block=r->Ty.frozen? a=false):dx w Ty:=by
 refine⟨hg.os.trans h.os,hg.tape.trans h.tape,hg.output.trans h.output,eW h.size hg.size,λB hB=>(hg.block B (eE hB h.size) (λe=>by injection e with e;omega)).trans (h.block B hB)⟩
def KR{H:Type}{P:ag}{k:ae}{w:am}{Re:ad->Option (bN H×List cx)}{b r n sP:Nat}{D:bN H}{left:Lit->Bool}(h:w.ranges P k Re b r n D left sP){a:aP}(ha:a.block=r):w.frozen? a=false:=by obtain⟨es,kH,since,seen,c0,_,_,_,_,hr,_⟩:=h;unfold World.frozen?;rw[ha,hr]
def E2(B n:Nat):cI:=λb=>if b=0 then some ⟨B,0,n⟩else none
def zQ(cs:List ad):AW:=⟨T.set (some (.cells cs)) (path 0) .lf,1⟩
def ale:ah.Fr:=Lv ah.blank 1 (.pointer (some ⟨0,0,none⟩))
def Gl{cs:List ad}{b:Nat}(e:b≠0):(zQ cs).get b=none:=by show T.get (path b) (T.set (some (db.cells cs)) (path 0) .lf)=_;exact(T.fJ _ _ _ _ (wg (aV e))).trans (T.Au _)
def DC(cs:List ad){b:Nat}{o:db}(h:(zQ cs).get b=some o):b=0/\o=.cells cs:=by
 by_cases e:b=0
 ·subst e;have:(zQ cs).get 0=some (.cells cs):=by show T.get (path 0) (T.set (some (db.cells cs)) (path 0) .lf)=_;exact T.lz _ _ _
  rw[this]at h;injection h with h;exact⟨rfl,h.symm⟩
 ·have:(zQ cs).get b=none:=Gl e;rw[this]at h;cases h
def Yq(w:am)(t:ae)(cs:List ad)(hp:cs.all bC=true):bg (E2 w.heap.size cs.length) (zQ cs) (w.alloc (.cells cs.toArray t)).heap where
 free b hb:=Gl (by have h1:1<=b:=hb;intro e;subst e;exact absurd h1 (by decide))
 m8 b g hb:=by
  unfold E2 at hb;split at hb
  ·rename_i e;subst e;injection hb with hb;subst hb;exact⟨Nat.lt_succ_self 0,by simp⟩
  ·cases hb
 obj b o g hb hg:=by obtain⟨rfl,rfl⟩:=DC cs hb;injection hg with hg;subst hg;refine⟨cs.toArray,t,(0,0),(MapKept.heap_alloc w _).1,λ_=>rfl,by simp,by simp,λi v hv=>⟨v,by simpa using hv,?_⟩⟩;exact g8 (cw.1 hp v (qt hv))
 qK b1 b2 o1 o2 g1 g2 ee h1 h2 _ _ _:=absurd ((DC cs h1).1.trans (DC cs h2).1.symm) ee
def QO{w w2:am}{t:ae}{cs:List ad}{n:Nat}{σ:cI}(h:eF (E2 w.heap.size n) (zQ cs) (w.alloc (.cells cs.toArray t)) σ (zQ cs) w2):dx w w2:=by
 have qY:(w.alloc (.cells cs.toArray t)).heap.size=w.heap.size+1:=by simp
 refine⟨h.os,h.tape,h.output,by have:=h.size;omega,λB hB=>?_⟩
 ·rw[h.keep B (by omega) ?_]
  ·exact(Al w _ none).block B hB (by simp)
  ·rintro⟨b,g,hb,hg,_⟩;unfold E2 at hb;split at hb
   ·injection hb with hb;subst hb;simp only at hg;omega
   ·cases hb
def YP:List Nat:=(List.range 36).filter iL
def OY(P:ag)(ops:Array aj)(W:AW):List Nat->ah.Fr->ah.Fr
 |[],R=>R
 |i::l,R=>match ops[i]? with
  |some o=>(match FV P o R W with
   |some (v,_)=>OY P ops W l (fM R o.dst v)
   |none=>R)
  |none=>R
def Tk{ops:Array aj}{TM:Nat}(h:Hv ops TM=true):ops.size=36/\∀i o,ops[i]? =some o->jq ops TM i o=true/\Ii i o=true:=by unfold Hv at h;rw[a8,dM,cw]at h;refine⟨h.1,λi o ho=>?_⟩;have:=h.2 i (by have:=(dC.1 ho).1;simp;omega);rw[ho]at this;simpa using this
section
variable {P:ag}
def oa{d:Nat}{xs ys:Array ad}{f:rq}{fs:List rq}{k:aO}{a b:Int}{r:Bool}{w:am}(hn:f.name≠ "_")(hk:P.plainKey f.type=true)(hu:P.underlying f.type=some (.int k))
 (hx:xs[f.offset]? =some (.int k a))(hy:ys[f.offset]? =some (.int k b))(hr:(Op.eqFields (d+1) xs ys fs).run P w=.ok r w):(Op.eqFields (d+1) xs ys (f::fs)).run P w=.ok ((a==b)&&r) w:=by
 unfold Op.eqFields;rw[aq hn,b9,run_part_plain w hk hx,bX,b9,run_part_plain w hk hy,bX,b9,run_equalIn_int _ _ _ _ _ _ _ hu,bX];cases a==b
 ·simp
 ·simpa using hr
def UB{t:ae}{x y:an}{f0 f1 f2 f3:rq}{k0 k1 k2 k3:aO}{a b c d:Int}(hs:P.underlying t=some (.struct (P.fieldsOf t)))(hp:P.stoodInHeld t=false)(hm:P.eqGuardType P.depth t=false)
 (hf:(P.fieldsOf t).toList=[f0,f1,f2,f3])(n0:f0.name≠ "_")(n1:f1.name≠ "_")(n2:f2.name≠ "_")(n3:f3.name≠ "_")(p0:P.plainKey f0.type=true)(p1:P.plainKey f1.type=true)(p2:P.plainKey f2.type=true)(p3:P.plainKey f3.type=true)
 (u0:P.underlying f0.type=some (.int k0))(u1:P.underlying f1.type=some (.int k1))(u2:P.underlying f2.type=some (.int k2))(u3:P.underlying f3.type=some (.int k3))(o0:f0.offset=0)(o1:f1.offset=1)(o2:f2.offset=2)(o3:f3.offset=3)(w:am):
 (do eqGuard .neq t x y (.agg #[.int k0 a,.int k1 b,.int k2 c,.int k3 d]) (.agg #[.int k0 0,.int k1 0,.int k2 0,.int k3 0]);binOp .neq t (.agg #[.int k0 a,.int k1 b,.int k2 c,.int k3 d]) (.agg #[.int k0 0,.int k1 0,.int k2 0,.int k3 0]):Sem ad).run P w=
  .ok (.bool (!((a==0)&&((b==0)&&((c==0)&&((d==0)&&true)))))) w:=by
 have h9:∀xs ys:Array ad,(Op.equalIn 10000 t (.agg xs) (.agg ys)).run P w=(Op.eqFields 9999 xs ys (P.fieldsOf t).toList).run P w:=λxs ys=>run_equalIn_struct w 9999 t xs ys hs hp
 have h3:=oa (P:=P) (d:=9998) (xs:=#[.int k0 a,.int k1 b,.int k2 c,.int k3 d]) (ys:=#[.int k0 0,.int k1 0,.int k2 0,.int k3 0]) (fs:=[]) (r:=true) (w:=w) n3 p3 u3 (by rw[o3];rfl) (by rw[o3];rfl) (by simp[Op.eqFields]);have h2:=oa n2 p2 u2 (by rw[o2];rfl) (by rw[o2];rfl) h3;have h1:=oa n1 p1 u1 (by rw[o1];rfl) (by rw[o1];rfl) h2;have h0:=oa n0 p0 u0 (by rw[o0];rfl) (by rw[o0];rfl) h1;have h0':(Op.eqFields 9999 #[.int k0 a,.int k1 b,.int k2 c,.int k3 d] #[.int k0 0,.int k1 0,.int k2 0,.int k3 0] [f0,f1,f2,f3]).run P w=_:=h0;rw[b9,run_eqGuard_agg _ _ _ _ _ _ _ hm,bX,run_neq_struct,h9,hf,h0',bX]
end
def O1:List Nat:=YP.filter λi=> !Nat.beq i 28
def Mn(P:ag)(ops:Array aj)(cs:List ad)(b6:Bool):ah.Fr:=Lv (OY P ops (zQ cs) O1 ale) 36 (.bool b6)
def aic(TT:Nat)(o:aj):Bool:=match o.op,o.dst with|.binOp .neq t (.tmp x) (.tmp y) _,some d=>Nat.beq t TT&&Nat.beq x 34&&Nat.beq y 35&&Nat.beq d 36|_,_=>false
def Ki{P:ag}(hm:P.follows .mixedOrders=true){id nt TM TK TE TT B:Nat}{ops:Array aj}{cs:List ad}{a:aU}{w:am}{b0 b1 b2 b3 b4 b5 b6 b7:Bool}{Q:cJ->aU->am->Prop}{tk zk:Array ad}
 (h1:Hv ops TM=true)
 (h2:(O1.map λi=>(ops[i]?).bind λo=>FV P o (Mn P ops cs b6) (zQ cs))=O1.map λi=>(ops[i]?).bind λo=>o.dst.map λd=>(cL (Mn P ops cs b6) d,zQ cs))
 (v0:cL (Mn P ops cs b6) 17=.bool b0)(v1:cL (Mn P ops cs b6) 20=.bool b1)(v2:cL (Mn P ops cs b6) 23=.bool b2)(v3:cL (Mn P ops cs b6) 26=.bool b3)
 (v4:cL (Mn P ops cs b6) 29=.bool b4)(v5:cL (Mn P ops cs b6) 32=.bool b5)(v7:cL (Mn P ops cs b6) 39=.bool b7)
 (c1:cL (Mn P ops cs b6) 34=.agg tk)(c2:cL (Mn P ops cs b6) 35=.agg zk)(c3:bC (.agg tk)=true)(c4:bC (.agg zk)=true)(c5:(ops[28]?).any (aic TT)=true)
 (c6:∀w,(do eqGuard .neq TT (.tmp 34) (.tmp 35) (.agg tk) (.agg zk);binOp .neq TT (.agg tk) (.agg zk):Sem ad).run P w=.ok (.bool b6) w)
 (h3:cL (Mn P ops cs b6) 1=.pointer (some ⟨0,0,none⟩))(h4:a.tmps.getD 1 ak=.pointer (some ⟨B,0,none⟩))(h5:42<=nt)(h6:a.tmps.size=nt)
 (tM:P.underlying TM=some (.map TK TE))(tK:P.underlying TK=some (.int .i64))(tE:P.underlying TE=some .bool){n:Nat}(hW:bg (E2 B n) (zQ cs) w.heap)
 (hQ:∀a' w' σ m r k,RQ P nt TK TE (E2 B n) (zQ cs) w a.tmps a.defers b0 b1 b2 b3 b4 b5 b6 b7 a' w' σ m r k->Q .normal a' w'):(Code.region id ops true).wp P Q a w:=by
 obtain⟨qY,hsh⟩:=Tk h1;have v6:cL (Mn P ops cs b6) 36=.bool b6:=wx _ _ _;refine M6 (nt:=nt) (TM:=TM) (TK:=TK) (TE:=TE) (R:=Mn P ops cs b6) hm ⟨qY,λi o ho=>(hsh i o ho).1,λi o ho=>(hsh i o ho).2,?_,v0,v1,v2,v3,v4,v5,v6,v7,?_,h5,tM,tK,tE⟩ h6 hW hQ
 ·intro i o d ho hp hd σ w ρ hW hρ;by_cases h32:i=28
  ·subst h32;rw[ho]at c5;simp only[Option.any_some]at c5;unfold aic at c5;split at c5;case h_2=>cases c5
   rename_i t x y dt d' qQ iA;simp only[a8,dM]at c5;obtain⟨⟨⟨rfl,rfl⟩,rfl⟩,rfl⟩:=c5;rw[hd]at iA;injection iA with iA;subst iA;rw[v6];have e1:ρ (.tmp 34)=.agg tk:=by have:=hρ (.tmp 34) (by rw[qQ];simp[Op.operands]);rw[show ax (Mn P ops cs b6) (.tmp 34)=.agg tk from c1]at this;exact fe c3 this
   have e2:ρ (.tmp 35)=.agg zk:=by have:=hρ (.tmp 35) (by rw[qQ];simp[Op.operands]);rw[show ax (Mn P ops cs b6) (.tmp 35)=.agg zk from c2]at this;exact fe c4 this
   refine jr.value (s:=do eqGuard .neq t (.tmp 34) (.tmp 35) (.agg tk) (.agg zk);binOp .neq t (.agg tk) (.agg zk)) ?_ hW (c6 w) (.bool b6);simp only[execOp,qQ,e1,e2]
  ·have hi:i∈O1:=Fk.2 ⟨Fk.2 ⟨by have:=(dC.1 ho).1;simp;omega,hp⟩,by cases hb:Nat.beq i 28 with|false=>rfl|true=>exact absurd (wh hb) h32⟩;have:=List.map_inj_left.1 h2 i hi;exact OI hW (by simpa[ho,hd]using this) hρ
 ·rw[h3,h4];exact VR.ptr (σ:=E2 B n) ⟨0,0,none⟩ ⟨B,0,n⟩ rfl rfl
def ad1{tm ny:Array ad}{it:ad}(h:tm.size=58)(h0:ny.size=58)(um:∀t,(t<14\/41<t)->tm[t]? =ny[t]?)(Yo:tm.getD 41 ak=it):
 ∃xs:List ad,xs.length=27/\tm=(ny.toList.take 14++(xs++(it::ny.toList.drop 42))).toArray:=by
 have hl:tm.toList.length=58:=by simpa using h
 have Mg:ny.toList.length=58:=by simpa using h0
 refine⟨(tm.toList.drop 14).take 27,by simp[hl],?_⟩;apply Array.ext';apply vw;intro i;simp only[];by_cases h1:i<14
 ·rw[C1 (by simp[Mg];omega),List.getElem?_take_of_lt h1];have:=um i (.inl h1);simpa using this
 ·rw[qG (by simp[Mg];omega)];have e14:(ny.toList.take 14).length=14:=by simp[Mg]
  rw[e14];by_cases h2:i<41
  ·rw[C1 (by simp[hl];omega),List.getElem?_take_of_lt (by omega),qn];congr 1;omega
  ·rw[qG (by simp[hl];omega)];have e27:((tm.toList.drop 14).take 27).length=27:=by simp[hl]
   rw[e27];by_cases h3:i=41
   ·subst h3;have:tm[41]? =some it:=by rw[<-Yo];simp[hZ (show 41<tm.size by omega)]
    simpa using this
   ·obtain⟨j,rfl⟩:∃j,i=j+42:=⟨i-42,by omega⟩;have e:j+42-14-27=j+1:=by omega
    rw[e,zm,qn];have:=um (j+42) (.inr (by omega));have e2:42+j=j+42:=by omega
    rw[e2];simpa using this
def io{H:Type}{P:ag}{e:ae}(he:P.underlying e=some .bool){v:ad}{y:bN H×List cx}(h:plainElem P e v=some y):∃c,v=.bool c:=by unfold plainElem at h;rw[he]at h;cases v<;>simp at h;exact⟨_,rfl⟩
def To{σ:cI}{cs:List ad}{w':am}{B n:Nat}(h:bg σ (zQ cs) w'.heap)(hσ:σ 0=some ⟨B,0,n⟩){i:Nat}{v:ad}(hv:cs[i]? =some v)(hp:bC v=true):w'.cell? ⟨B,i,none⟩=some v:=by
 have hg:(zQ cs).get 0=some (.cells cs):=by show T.get (path 0) (T.set (some (db.cells cs)) (path 0) .lf)=_;exact T.lz _ _ _
 obtain⟨c,t,fr,h1,_,_,_,h4⟩:=h.obj 0 _ _ hg hσ;obtain⟨v',h5,h6⟩:=h4 i v hv;rw[fe hp h6]at h5;simp only[aN]at h5;simp[World.cell?,h1,h5]
def yG(g0 g1 g2 g3 g4 g5 g6 g7:Bool):Int:=(cond g0 1 0+(cond g1 2 0+(cond g2 4 0+(cond g3 8 0+(cond g4 16 0+(cond g5 32 0+(cond g6 64 0+cond g7 128 0)))))):Nat)
structure anx (P:ag) (TK TE m r n:Nat) (D:bN Unit) (left:Lit->Bool) (sP:Nat) (w:am) where
 x:Int
 c:Bool
 w1:am
 Nw:Nat
 hl:left (.af x)=true
 oX:∀zd,D.atKey (.af x) zd=.lit (.bool c)
 KY:w1.ranges P TK (plainElem P TE) m r n D (λz=>left z&& !z.sameKey (.af x)) Nw
 kW:Nw<sP
 Se:w.grownBy w1 (some r)
 qY:w1.heap.size=w.heap.size
 hen:(Instr.entry (.pointer (some ⟨r,0,none⟩))).run P w1=.ok (.tuple #[.af x,.bool c]) w1
def AQ{P:ag}{ops:Array aj}{iB:List aj}{o:aj}{a:aU}{w:am}{Q:cJ->aU->am->Prop}(hg:o.guard=none)(it:an)(qQ:o.op=Op.next it false){TK TE m r n:Nat}{D:bN Unit}{left:Lit->Bool}{sP:Nat}
 (hk:P.underlying TK=some (.int .i64))(he:P.underlying TE=some .bool)(Yo:a.eval it=.pointer (some ⟨r,0,none⟩))(h:w.ranges P TK (plainElem P TE) m r n D left sP)
 (ah8:(∀kl,left kl=false)->wpList P ops Q iB (a.put o.dst (.tuple #[.bool false])) w)
 (aiM:∀z:anx P TK TE m r n D left sP w,wpList P ops Q iB (a.put o.dst (.tuple #[.bool true,.af z.x,.bool z.c])) z.w1):wpList P ops Q (o::iB) a w:=
 wpList_next_ranges (α:=Int) (β:=Bool) w hg it qQ TK (Go.Maps.int_keyed hk) (plainElem P TE) (Value.int .i64) Value.bool (λkey kl JJ=>by obtain⟨x,rfl,_⟩:=Go.Maps.keyOf_int_inv hk JJ;exact⟨x,rfl⟩) (λv y hv=>io he hv) m r n D left sP Yo h (λ_=>ah8)
  (λx c kl y w1 Nw JJ hlk hy oX KY kW Se qY hen=>by obtain⟨x',ex,rfl,_⟩:=Go.Maps.keyOf_int_inv hk JJ;cases ex;rw[plainElem_bool he]at hy;injection hy with hy;subst hy;exact aiM ⟨x,c,w1,Nw,hlk,oX,KY,kW,Se,qY,hen⟩)
def Ti{b0 b1 b2 b3 b4 b5 b6 b7 c:Bool}{x:Int}(h:Maps.has (EW b0 b1 b2 b3 b4 b5 b6 b7) (.af x)=true)(oX:∀zd,(EW b0 b1 b2 b3 b4 b5 b6 b7).atKey (.af x) zd=.lit (.bool c)):
 (x=1/\c=b0)\/(x=2/\c=b1)\/(x=4/\c=b2)\/(x=8/\c=b3)\/(x=16/\c=b4)\/(x=32/\c=b5)\/(x=64/\c=b6)\/(x=128/\c=b7):=by
 have hx:x=1\/x=2\/x=4\/x=8\/x=16\/x=32\/x=64\/x=128:=by simp only[Maps.has,EW,IK,Z3,vR,lM,List.any_cons,List.any_nil,Bool.or_false,mJ]at h;rcases h with h|h|h|h|h|h|h|h<;>(have:=WideAt.sameKey_eq h;injection this with _ this;simp_all)
 rcases hx with rfl|rfl|rfl|rfl|rfl|rfl|rfl|rfl
 ·have:(DataW.lit (.bool b0):bN Unit)=.lit (.bool c):=oX .nil;injection this with this;injection this with this;simp[this]
 ·have:(DataW.lit (.bool b1):bN Unit)=.lit (.bool c):=oX .nil;injection this with this;injection this with this;simp[this]
 ·have:(DataW.lit (.bool b2):bN Unit)=.lit (.bool c):=oX .nil;injection this with this;injection this with this;simp[this]
 ·have:(DataW.lit (.bool b3):bN Unit)=.lit (.bool c):=oX .nil;injection this with this;injection this with this;simp[this]
 ·have:(DataW.lit (.bool b4):bN Unit)=.lit (.bool c):=oX .nil;injection this with this;injection this with this;simp[this]
 ·have:(DataW.lit (.bool b5):bN Unit)=.lit (.bool c):=oX .nil;injection this with this;injection this with this;simp[this]
 ·have:(DataW.lit (.bool b6):bN Unit)=.lit (.bool c):=oX .nil;injection this with this;injection this with this;simp[this]
 ·have:(DataW.lit (.bool b7):bN Unit)=.lit (.bool c):=oX .nil;injection this with this;injection this with this;simp[this]
def or0:∀g1 g2 g3 g4 g5 g6 g7:Bool,bits .or .i64 (yG false g1 g2 g3 g4 g5 g6 g7) 1=yG true g1 g2 g3 g4 g5 g6 g7:=by decide+kernel
def or1:∀g0 g2 g3 g4 g5 g6 g7:Bool,bits .or .i64 (yG g0 false g2 g3 g4 g5 g6 g7) 2=yG g0 true g2 g3 g4 g5 g6 g7:=by decide+kernel
def or2:∀g0 g1 g3 g4 g5 g6 g7:Bool,bits .or .i64 (yG g0 g1 false g3 g4 g5 g6 g7) 4=yG g0 g1 true g3 g4 g5 g6 g7:=by decide+kernel
def or3:∀g0 g1 g2 g4 g5 g6 g7:Bool,bits .or .i64 (yG g0 g1 g2 false g4 g5 g6 g7) 8=yG g0 g1 g2 true g4 g5 g6 g7:=by decide+kernel
def or4:∀g0 g1 g2 g3 g5 g6 g7:Bool,bits .or .i64 (yG g0 g1 g2 g3 false g5 g6 g7) 16=yG g0 g1 g2 g3 true g5 g6 g7:=by decide+kernel
def or5:∀g0 g1 g2 g3 g4 g6 g7:Bool,bits .or .i64 (yG g0 g1 g2 g3 g4 false g6 g7) 32=yG g0 g1 g2 g3 g4 true g6 g7:=by decide+kernel
def or6:∀g0 g1 g2 g3 g4 g5 g7:Bool,bits .or .i64 (yG g0 g1 g2 g3 g4 g5 false g7) 64=yG g0 g1 g2 g3 g4 g5 true g7:=by decide+kernel
def or7:∀g0 g1 g2 g3 g4 g5 g6:Bool,bits .or .i64 (yG g0 g1 g2 g3 g4 g5 g6 false) 128=yG g0 g1 g2 g3 g4 g5 g6 true:=by decide+kernel
def Wi{left:Lit->Bool}{x:Int}{c:Bool}{b0 b1 b2 b3 b4 b5 b6 b7:Bool}(hl:left (.af x)=true)
 (h8:(x=1/\c=b0)\/(x=2/\c=b1)\/(x=4/\c=b2)\/(x=8/\c=b3)\/(x=16/\c=b4)\/(x=32/\c=b5)\/(x=64/\c=b6)\/(x=128/\c=b7)):
 (c=false->yG (!left (.af 1)&&b0) (!left (.af 2)&&b1) (!left (.af 4)&&b2) (!left (.af 8)&&b3) (!left (.af 16)&&b4) (!left (.af 32)&&b5) (!left (.af 64)&&b6) (!left (.af 128)&&b7)=yG (!(λz=>left z&& !z.sameKey (.af x)) (.af 1)&&b0) (!(λz=>left z&& !z.sameKey (.af x)) (.af 2)&&b1) (!(λz=>left z&& !z.sameKey (.af x)) (.af 4)&&b2) (!(λz=>left z&& !z.sameKey (.af x)) (.af 8)&&b3) (!(λz=>left z&& !z.sameKey (.af x)) (.af 16)&&b4) (!(λz=>left z&& !z.sameKey (.af x)) (.af 32)&&b5) (!(λz=>left z&& !z.sameKey (.af x)) (.af 64)&&b6) (!(λz=>left z&& !z.sameKey (.af x)) (.af 128)&&b7))/\
 (c=true->bits .or .i64 (yG (!left (.af 1)&&b0) (!left (.af 2)&&b1) (!left (.af 4)&&b2) (!left (.af 8)&&b3) (!left (.af 16)&&b4) (!left (.af 32)&&b5) (!left (.af 64)&&b6) (!left (.af 128)&&b7)) x=yG (!(λz=>left z&& !z.sameKey (.af x)) (.af 1)&&b0) (!(λz=>left z&& !z.sameKey (.af x)) (.af 2)&&b1) (!(λz=>left z&& !z.sameKey (.af x)) (.af 4)&&b2) (!(λz=>left z&& !z.sameKey (.af x)) (.af 8)&&b3) (!(λz=>left z&& !z.sameKey (.af x)) (.af 16)&&b4) (!(λz=>left z&& !z.sameKey (.af x)) (.af 32)&&b5) (!(λz=>left z&& !z.sameKey (.af x)) (.af 64)&&b6) (!(λz=>left z&& !z.sameKey (.af x)) (.af 128)&&b7)):=by
 have e:∀a b:Int,(Lit.int .i64 a).sameKey (.af b)=decide (a=b):=by intro a b;simp[Lit.sameKey]
 rcases h8 with⟨rfl,rfl⟩|⟨rfl,rfl⟩|⟨rfl,rfl⟩|⟨rfl,rfl⟩|⟨rfl,rfl⟩|⟨rfl,rfl⟩|⟨rfl,rfl⟩|⟨rfl,rfl⟩
 ·exact⟨λhc=>by simp[e,hl,hc],λhc=>by simp[e,hl,hc,or0]⟩
 ·exact⟨λhc=>by simp[e,hl,hc],λhc=>by simp[e,hl,hc,or1]⟩
 ·exact⟨λhc=>by simp[e,hl,hc],λhc=>by simp[e,hl,hc,or2]⟩
 ·exact⟨λhc=>by simp[e,hl,hc],λhc=>by simp[e,hl,hc,or3]⟩
 ·exact⟨λhc=>by simp[e,hl,hc],λhc=>by simp[e,hl,hc,or4]⟩
 ·exact⟨λhc=>by simp[e,hl,hc],λhc=>by simp[e,hl,hc,or5]⟩
 ·exact⟨λhc=>by simp[e,hl,hc],λhc=>by simp[e,hl,hc,or6]⟩
 ·exact⟨λhc=>by simp[e,hl,hc],λhc=>by simp[e,hl,hc,or7]⟩
def xn{H:Type}{P:ag}{k:ae}{w:am}{Re:ad->Option (bN H×List cx)}{b r n sP:Nat}{D:bN H}{left:Lit->Bool}(h:w.ranges P k Re b r n D left sP):∀a:aP,a.block=r->w.frozen? a=false:=λa ha=>KR h ha
def aiE(b0 b1 b2 b3 b4 b5 b6 b7:Bool)(u:Int):Int:=if bits .andNot .i64 (yG b0 b1 b2 b3 b4 b5 b6 b7) u=0 then 0 else 2
def P9{H:Type}{P:ag}{k:ae}{w:am}{Re:ad->Option (bN H×List cx)}{b r n sP:Nat}{D:bN H}{left:Lit->Bool}(h:w.ranges P k Re b r n D left sP):r<w.heap.size:=by obtain⟨es,kH,since,seen,c0,_,_,_,_,hr,_⟩:=h;exact(dC.1 hr).1
end
section
variable [ah]
def kS(k ow un se sc n to t1 t2 t3 t4 nw:Int):Array ad:=#[.af k,.int .u32 ow,.af un,.af se,.af sc,.af n,.int .u32 to,.int .u32 t1,.int .u32 t2,.int .u64 t3,.int .u64 t4,.af nw]
def PP(ow un se sc n to t1 t2 t3 t4 nw u:Int):Int:=
 aiE (!decide (ow=0)) (!decide (un=0)) (!decide (se=0)) (!decide (sc=0)) (!decide (n=0)) (!decide (to=0)) (!((t1==0)&&((t2==0)&&((t3==0)&&((t4==0)&&true))))) (!decide (nw=0)) u
def Jn(c:List ad)(W:AW):Option ad:=
 match c with
 |[.int .i64 k,.int .u32 ow,.int .i64 un,.int .i64 se,.int .i64 sc,.int .i64 n,.int .u32 to,.int .u32 t1,.int .u32 t2,.int .u64 t3,.int .u64 t4,.int .i64 nw]=>
  (match decide (k<1)||decide (12<k)with
  |true=>some (.af 2)
  |false=>match W.get 0 with
   |some (.ro us)=>(match us[k.toNat]? with
    |some (.int .i64 u)=>some (.af (PP ow un se sc n to t1 t2 t3 t4 nw u))
    |_=>none)
   |_=>none)
 |_=>none
def Xv(F:Nat):Callee:=λf args W=>match f with
 |.func (.func g) fs cs=>(match Nat.beq g F&&(fs.isEmpty&&cs.isEmpty)with
  |true=>(match args with
   |[.agg c]=>(match Jn c.toList W with
    |some v=>some (v,W)
    |none=>none)
   |_=>none)
  |false=>none)
 |_=>none
def dx.box(w:am)(cs:Array ad)(t:ae):dx w (w.alloc (.cells cs t)):=by exact⟨rfl,rfl,rfl,by simp,λB hB=>(Al w _ none).block B hB (by simp)⟩
def Vo{P:ag}{ng:List Nat}(h0:0∈ng){F:Nat}{fn:eO}{body:bA}(Gj:P.funcs[F]? =some fn)(mY:(fn.name== "runtime.NumGoroutine")=false)(hb:fn.body=some body)
 (nM:∀(k ow un se sc n to t1 t2 t3 t4 nw u:Int) (w:am),¬k<1->¬12<k->w.cell? ⟨0,k.toNat,none⟩=some (.af u)->
   Calls P F #[.agg (kS k ow un se sc n to t1 t2 t3 t4 nw)] w λe w'=>e=.returned (.af (PP ow un se sc n to t1 t2 t3 t4 nw u))/\dx w w')
 (Bs:∀(k ow un se sc n to t1 t2 t3 t4 nw:Int) (w:am),(k<1\/12<k)->
   Calls P F #[.agg (kS k ow un se sc n to t1 t2 t3 t4 nw)] w λe w'=>e=.returned (.af 2)/\dx w w'):bI P ng (Xv F):=by
 intro f args W v W' h σ w f' cu hW hG hf cq;unfold Xv at h;split at h;case h_2=>cases h
 rename_i g fs cs;split at h;case h_2=>cases h
 rename_i J6;simp only[a8,dM,wE]at J6;obtain⟨rfl,rfl,rfl⟩:=J6;split at h;case h_2=>cases h
 rename_i c;split at h;case h_2=>cases h
 rename_i v1 PS;injection h with h;injection h with h1 h2;subst h1;subst h2;obtain⟨FA,tH,ck,Ap,Rj,pS,rfl⟩:=hf.jO;cases Ap;obtain rfl:tH=#[]:=by have h1:tH.toList.length=0:=Rj.1.symm;exact qz.1 (mz.1 h1)
 obtain rfl:ck=#[]:=by have h1:ck.toList.length=0:=pS.1.symm;exact qz.1 (mz.1 h1)
 obtain⟨a0,rfl⟩:∃a0,cu=[a0]:=by
  have:=cq.1;match cu,this with
  |[a0],_=>exact⟨a0,rfl⟩
 unfold Jn at PS;split at PS;case h_2=>cases PS
 rename_i k ow un se sc n to t1 t2 t3 t4 nw hc;have xC:c=kS k ow un se sc n to t1 t2 t3 t4 nw:=by apply Array.ext';rw[hc];rfl
 subst xC;have ha:a0=.agg (kS k ow un se sc n to t1 t2 t3 t4 nw):=fe (v:=.agg (kS k ow un se sc n to t1 t2 t3 t4 nw)) rfl (cq.2 0 _ _ rfl rfl);subst ha;have pE:∀z:Int,(Calls P g #[.agg (kS k ow un se sc n to t1 t2 t3 t4 nw)] w λe w'=>e=.returned (.af z)/\dx w w')->
  xD P (.func (.func g) #[] #[]) [.agg (kS k ow un se sc n to t1 t2 t3 t4 nw)] w (λv' w'=>∃σ',VR σ' (.af z) v'/\bg σ' W w'.heap/\eF σ W w σ' W w'):=by
  intro z hz;refine⟨dK Gj mY hb _ w,?_⟩;refine lL (show CallsIn Fence.wide 0 P g _ w _ from(qj (n:=0)).2 hz) ?_;rintro e w' ⟨rfl,hq⟩;exact⟨_,rfl,σ,.int _ _,hq.rel hW,hq.ext σ W⟩
 split at PS
 ·rename_i hk;injection PS with PS;subst PS;exact pE _ (Bs _ _ _ _ _ _ _ _ _ _ _ _ w (by simpa using hk))
 ·rename_i hk;simp only[Bool.or_eq_false_iff,decide_eq_false_iff_not]at hk;split at PS;case h_2=>cases PS
  rename_i us hus;split at PS;case h_2=>cases PS
  rename_i u hu;injection PS with PS;subst PS;obtain⟨e,he⟩:=hG 0 h0;obtain⟨cc,t,fr,k1,_,k3⟩:=hW.obj 0 _ _ hus he;have Px:w.cell? ⟨0,k.toNat,none⟩=some (.af u):=by obtain⟨v',this,Yl⟩:=k3 _ _ hu;obtain rfl:=Yl.p9;simp only[aN]at this;simp[World.cell?,k1,this]
  exact pE _ (nM _ _ _ _ _ _ _ _ _ _ _ _ _ w hk.1 hk.2 Px)
def QV{gs:List (Nat×List ad)}{N:Nat}{σ':cI}{W':AW}{w w':am}(he:eF (σG gs) (WG gs N) w σ' W' w'):dx w w':=
 ⟨he.os,he.tape,he.output,he.size,λB hB=>he.keep B hB aid⟩
def oy{P:ag}(hm:P.follows .mixedOrders=true){bad:List Nat}(hP:km ah.ng bad 0 P.funcs.toList=true){spec:Callee}(hs:bI P ah.ng spec)(n:Nat)
 {gs:List (Nat×List ad)}{N:Nat}(hN:gs.all (λx=>Nat.blt x.1 N)=true)(Pf:ah.ng.all (λg=>(gs.find? (λx=>x.1==g)).isSome)=true){i:Nat}{args:List ad}(nQ:args.all bC=true)
 (h:Oo (Mu P bad spec n (.func (.func i) #[] #[]) args (WG gs N))=true)(w:am)(hl:BC gs w.heap):
 Calls P i args.toArray w λe w'=>e=.returned (.bool true)/\dx w w':=by
 obtain⟨W',hr⟩:=Qi h;have hc:=Hl hm rfl hP hs n _ _ _ _ _ hr (σG gs) w (.func (.func i) #[] #[]) args (aaU hN hl) (SM Pf)
  (.func _ _ _ _ _ _ (.func i) rfl (λi v v' x=>by simp at x) rfl (λi v v' x=>by simp at x)) (M5 nQ)
 unfold xD at hc;obtain⟨_,hc⟩:=hc;have e1:(#[]:Array ad)++args.toArray++#[]=args.toArray:=by simp
 rw[e1]at hc;refine(qj (n:=0)).1 ?_;refine lL (show CallsIn Fence.wide 0 P i args.toArray w _ from hc) ?_;rintro e w' ⟨v,rfl,σ',hv,_,he⟩;exact⟨by rw[hv.io],QV he⟩
def pY{ng bad:List Nat}{F:Nat}:∀{l:List eO} {i:Nat},km ng bad i l=true->km ng (F::bad) i l=true
 |[],_,_=>rfl
 |f::l,i,h=>by
  simp only[km,a8,mJ]at h|-;refine⟨?_,pY h.2⟩;rcases h.1 with h1|h1
  ·exact .inl (sE.2 (List.mem_cons_of_mem _ (sE.1 h1)))
  ·exact .inr h1
end
section
variable [ah]
def Ld:List (Nat×Callee)->Callee
 |[]=>λ_ _ _=>none
 |(F,c)::l=>λf args W=>match f with
  |.func (.func g) fs cs=>(match Nat.beq g F with
   |true=>c (.func (.func g) fs cs) args W
   |false=>Ld l (.func (.func g) fs cs) args W)
  |_=>none
def EQ{P:ag}{ng:List Nat}:∀{l:List (Nat×Callee)},(∀x∈l,bI P ng x.2)->bI P ng (Ld l)
 |[],_=>λf args W v W' h=>by cases h
 |(F,c)::l,hl=>by
  intro f args W v W' h;unfold Ld at h;split at h;case h_2=>cases h
  split at h
  ·exact hl (F,c) (by simp) _ _ _ _ _ h
  ·exact EQ (λx hx=>hl x (by simp[hx])) _ _ _ _ _ h
def Ew(gs:List (Nat×List ad))(W:AW):Prop:=∀x∈gs,W.get x.1=some (.ro x.2)/\x.1<W.next
def Ew.mono{gs:List (Nat×List ad)}{W W':AW}(h:Ew gs W)(aS:Le W W'):Ew gs W':=λx hx=>⟨by rw[aS.get _ (h x hx).2];exact(h x hx).1,eE (h x hx).2 aS.next⟩
def Ae(F:Nat)(gs:List (Nat×List ad))(val:List ad->Option ad):Callee:=λf args W=>match f with
 |.func (.func g) fs cs=>(match Nat.beq g F&&(fs.isEmpty&&cs.isEmpty)with
  |true=>open Classical in if Ew gs W then(match val args with
   |some v=>if bC v&&args.all bC then some (v,W)else none
   |none=>none)else none
  |false=>none)
 |_=>none
def UF{F:Nat}{gs:List (Nat×List ad)}{val:List ad->Option ad}{args:List ad}{W:AW}{v:ad}(hg:Ew gs W)(hv:val args=some v)(hp:bC v=true)(ha:args.all bC=true):
 Ae F gs val (.func (.func F) #[] #[]) args W=some (v,W):=by
 unfold Ae;simp only[qi,Array.isEmpty_empty,ki,aq hg,hv,hp,ha,ba]
def WX{P:ag}{ng:List Nat}{F:Nat}{fn:eO}{body:bA}(Gj:P.funcs[F]? =some fn)(mY:(fn.name== "runtime.NumGoroutine")=false)(hb:fn.body=some body){gs:List (Nat×List ad)}(Qq:gs.all (λx=>x.2.all bZ&&Jw x.1 ng)=true){val:List ad->Option ad}
 (tY:∀args v,val args=some v->∀w:am,BC gs w.heap->Calls P F args.toArray w λe w'=>e=.returned v/\dx w w'):bI P ng (Ae F gs val):=by
 intro f args W v W' h σ w f' cu hW hG hf cq;unfold Ae at h;split at h;case h_2=>cases h
 rename_i g fs cs;split at h;case h_2=>cases h
 rename_i J6;simp only[a8,dM,wE]at J6;obtain⟨rfl,rfl,rfl⟩:=J6;split at h;case isFalse=>cases h
 rename_i hgl;split at h;case h_2=>cases h
 rename_i u hu;split at h;case isFalse=>cases h
 rename_i nQ;injection h with h;injection h with h1 h2;subst h1;subst h2;simp only[a8]at nQ;obtain⟨FA,tH,ck,Ap,Rj,pS,rfl⟩:=hf.jO;cases Ap;obtain rfl:tH=#[]:=by have h1:tH.toList.length=0:=Rj.1.symm;exact qz.1 (mz.1 h1)
 obtain rfl:ck=#[]:=by have h1:ck.toList.length=0:=pS.1.symm;exact qz.1 (mz.1 h1)
 obtain rfl:cu=args:=LR.TY (λv v'=>fe) nQ.2 cq;have hl:BC gs w.heap:=λx hx=>by have hs:=cw.1 Qq x hx;simp only[a8]at hs;obtain⟨e,he⟩:=hG x.1 (sE.1 hs.2);obtain⟨c,t,fr,k1,_,k3⟩:=hW.obj x.1 _ _ (hgl x hx).1 he;refine⟨c,t,fr,k1,λi v hv=>?_⟩;obtain⟨v',a,b⟩:=k3 i v hv;have hsv:=cw.1 hs.1 v (qt hv);have:v'=v:=GO hsv b;subst this;exact⟨by simpa using a,hsv⟩
 refine⟨dK Gj mY hb _ w,?_⟩;have e1:(#[]:Array ad)++cu.toArray++#[]=cu.toArray:=by simp
 rw[e1];refine lL (show CallsIn Fence.wide 0 P g _ w _ from(qj (n:=0)).2 (tY _ _ hu w hl)) ?_;rintro e w' ⟨rfl,hq⟩;exact⟨_,rfl,σ,g8 nQ.1,hq.rel hW,hq.ext σ W⟩
def Gr(σ:cI)(W:AW):Prop:=∀b g,σ b=some g->∃cs,W.get b=some (.ro cs)
def Gr.quiet{σ σ':cI}{W W':AW}{w w':am}(h:Gr σ W)(he:eF σ W w σ' W' w'):dx w w':=
 ⟨he.os,he.tape,he.output,he.size,λB hB=>he.keep B hB (by rintro⟨b,g,hg,_,hn⟩;obtain⟨cs,hc⟩:=h b g hg;exact hn cs hc)⟩
def Vc{P:ag}{o:Callee}(jR:bI P ah.ng o){σ:cI}{W W':AW}{w:am}(hW:bg σ W w.heap)(hG:wV σ ah.ng)(qg:Gr σ W){i:gE}{args cu:List ad}(cq:LR σ args cu){v:ad}(hv:bC v=true)
 (h:o (.func (.func i) #[] #[]) args W=some (v,W')):Calls P i cu.toArray w λe w'=>e=.returned v/\dx w w':=by
 have hc:=jR _ _ _ _ _ h σ w (.func (.func i) #[] #[]) cu hW hG (.func _ _ _ _ _ _ (.func i) rfl (λi v v' x=>by simp at x) rfl (λi v v' x=>by simp at x)) cq;unfold xD at hc;obtain⟨_,hc⟩:=hc;have e1:(#[]:Array ad)++cu.toArray++#[]=cu.toArray:=by simp
 rw[e1]at hc;refine(qj (n:=0)).1 ?_;refine lL (show CallsIn Fence.wide 0 P i cu.toArray w _ from hc) ?_;rintro e w' ⟨v',rfl,σ',Yl,_,he⟩;exact⟨by rw[fe hv Yl],qg.quiet he⟩
def Y9{gs:List (Nat×List ad)}{N:Nat}:Gr (σG gs) (WG gs N):=by intro b g hg;obtain⟨x,_,_,_,ht⟩:=rE hg;exact⟨x.2,ht⟩
def YK{gs:List (Nat×List ad)}{N:Nat}(hN:gs.all (λx=>Nat.blt x.1 N)=true)(hd:∀x∈gs,gs.find? (λy=>y.1==x.1)=some x):Ew gs (WG gs N):=by intro x hx;refine⟨?_,show x.1<N by have:=cw.1 hN x hx;simpa[ic]using this⟩;show T.get (path x.1) (Ed gs)=_;rw[wy,hd x hx];rfl
end
end Go.Eng
namespace Go.Eng
open Go
section
variable [ah]
section
variable {P:ag} {W:AW}
def aQ(l:List UInt8):ByteArray:=⟨l.toArray⟩
def Kq(b:ByteArray):aQ b.data.toList=b:=by cases b;simp[aQ]
def kF(l:List UInt8):(aQ l).size=l.length:=by simp[aQ,ByteArray.size]
def yd(l:List Nat):Co l=.string (aQ (l.map UInt8.ofNat)):=aL rfl rfl
def Cf(l:List UInt8)(i:Nat):(aQ l)[i]? =l[i]? :=by
 by_cases h:i<l.length
 ·have h2:i<(aQ l).size:=by rw[kF];exact h
  rw[bS h,getElem?_pos (aQ l) i h2];rfl
 ·rw[iE (by omega),getElem?_neg (aQ l) i (by rw[kF];exact h)]
def GI{s:Sem ad}{v:ad}(h:bW P s=some v)(hv:bC v=true)(c:Bool)(hc:c=true):(mo P c (do pure (.value (<-s)))).map (λv=>(v,W))=some (v,W):=by subst hc;unfold mo;simp only[ba,JB h,hv,cF]
def vV{t:ae}(hs:P.underlying t=some .string){l:List UInt8}{i:Nat}{k:aO}(hi:i<l.length):px P t (.string (aQ l)) (.int k (i:Int)) W=some (.int .u8 (l[i].toNat:Int),W):=by
 have e:px P t (.string (aQ l)) (.int k (i:Int)) W=(mo P (bC (.string (aQ l))&&(bC (.int k (i:Int))&&true)) (do pure (.value (<-Instr.index t (.string (aQ l)) (.int k (i:Int)))))).map λv=>(v,W):=by unfold px;rw[hs]
 rw[e];refine GI ?_ rfl _ rfl;unfold Instr.index;have h0:(0:Int)<=(i:Int):=by omega
 simp only[asIntOf,pure_bind,eT,dV hs,bL,h0,ba,sL,Cf,bS hi,gY]
def lj{ts:Array ae}{ty:ae}{cf:Array Bool}(h:(ts[0]?).bind P.underlying=some .string)(l:List UInt8):aR P .len ts ty cf [.string (aQ l)] W=some (.af l.length,W):=by
 obtain⟨t,h1,h2⟩:∃t,ts[0]? =some t/\P.underlying t=some .string:=by
  cases ht:ts[0]? with
  |none=>rw[ht]at h;cases h
  |some t=>rw[ht]at h;exact⟨t,rfl,h⟩
 have e:aR P .len ts ty cf [.string (aQ l)] W=(mo P ([Value.string (aQ l)].all bC) (builtin .len ts ty cf #[.string (aQ l)])).map λv=>(v,W):=by unfold aR;rfl
 rw[e];have e2:builtin .len ts ty cf #[.string (aQ l)]=(do pure (.value (<-Builtin.len_ ts ty #[.string (aQ l)]))):=rfl;rw[e2];refine GI ?_ rfl _ rfl;unfold Builtin.len_;simp only[h1,List.getElem?_toArray,Bx,eT,dV h2,bL,gY,kF];rfl
def vO(l:List UInt8)(a b:Nat):(aQ l).extract a b=aQ ((l.take b).drop a):=by
 have h:((aQ l).extract a b).data=(aQ ((l.take b).drop a)).data:=by rw[ByteArray.data_extract];apply mN.1;simp[aQ,H2,List.drop_take]
 cases hx:(aQ l).extract a b with
 |mk d=>rw[hx]at h;simp only at h;rw[h]
def VZ{t:ae}(hs:P.underlying t=some .string){l:List UInt8}{a:Nat}{k:aO}(h:a<=l.length):ft P t (.string (aQ l)) (some (.int k (a:Int))) none none W=some (.string (aQ (l.drop a)),W):=by
 have e:ft P t (.string (aQ l)) (some (.int k (a:Int))) none none W=(mo P (([Value.string (aQ l),.int k (a:Int)]:List ad).all bC) (do pure (.value (<-Instr.sliceAt t (.string (aQ l)) (some (.int k (a:Int))) none none)))).map λv=>(v,W):=by unfold ft mH;rw[hs];rfl
 rw[e];refine GI ?_ rfl _ rfl;have h0:(0:Int)<=(a:Int)/\(a:Int)<=((aQ l).size:Int):=by rw[kF];omega
 have hx:(aQ l).extract a (aQ l).size=aQ (l.drop a):=by rw[vO,kF,cY]
 unfold Instr.sliceAt Instr.slice Instr.sliceBounds Instr.sliceBound;simp only[eT,dV hs,bL,asIntOf,pure_bind,h0,lF,ba,gY,sL,hx,ql,nH,cV]
def abM{t:ae}(hs:P.underlying t=some .string){l:List UInt8}{a:Nat}{k:aO}(h:a<=l.length):ft P t (.string (aQ l)) none (some (.int k (a:Int))) none W=some (.string (aQ (l.take a)),W):=by
 have e:ft P t (.string (aQ l)) none (some (.int k (a:Int))) none W=(mo P (([Value.string (aQ l),.int k (a:Int)]:List ad).all bC) (do pure (.value (<-Instr.sliceAt t (.string (aQ l)) none (some (.int k (a:Int))) none)))).map λv=>(v,W):=by unfold ft mH;rw[hs];rfl
 rw[e];refine GI ?_ rfl _ rfl;have h0:(0:Int)<=(a:Int)/\(a:Int)<=((aQ l).size:Int):=by rw[kF];omega
 have hx:(aQ l).extract 0 a=aQ (l.take a):=by rw[vO];simp
 unfold Instr.sliceAt Instr.slice Instr.sliceBounds Instr.sliceBound;simp only[eT,dV hs,bL,asIntOf,pure_bind,h0,lF,ba,gY,sL,hx,ql,nH,cV]
def xB(l:List UInt8):(aQ l).toList=l:=by rw[ByteArray.toList_eq];rfl
def sU{t:ae}{c d:Bool}{a b:List UInt8}:bs P .eql t c d (.string (aQ a)) (.string (aQ b)) W=some (.bool (a==b),W):=by rw[AE,xB,xB]
def aJ(a:aP):rh (.pointer (some a)) W=some (.pointer (some a),W):=aL rfl rfl
def zD{t:ae}{x:ad}:iS P [(x,some t)] W=(fR P t x W).bind λr=>some (r.1,W):=by unfold iS fR;simp only[rO];cases ju P W t x<;>rfl
def cr{t:ae}{x u:ad}:iS P [(x,some t),(u,none)] W=(fR P t x W).bind λr=>some (.tuple #[r.1,u],W):=by unfold iS fR;simp only[rO];cases ju P W t x<;>rfl
def yu{t t2:ae}{x y:ad}:iS P [(x,some t),(y,some t2)] W=(fR P t x W).bind λr=>(fR P t2 y W).bind λq=>some (.tuple #[r.1,q.1],W):=by unfold iS fR;simp only[rO];cases ju P W t x<;>cases ju P W t2 y<;>rfl
def zz{t t2:ae}{x y u:ad}:iS P [(x,some t),(y,some t2),(u,none)] W=(fR P t x W).bind λr=>(fR P t2 y W).bind λq=>some (.tuple #[r.1,q.1,u],W):=by unfold iS fR;simp only[rO];cases ju P W t x<;>cases ju P W t2 y<;>rfl
def ZJ{b:Nat}{cs:List ad}(h:aK W b=some cs)(h1:cs.all one=true):gv cs.length (.pointer (some ⟨b,0,none⟩)) (.agg cs.toArray) W=some (ak,W.put b (.cells cs)):=by rw[zq,h];simp only[bL,sz,aN,aM,h1,lF,ba,fN,qJ,lM,zH,iD]
def wm{b n:Nat}{cs:List ad}(h:aC W b=some cs)(hn:cs.length=n):fd n (.pointer (some ⟨b,0,none⟩)) W=some (.agg cs.toArray,W):=by rw[In,h];simp only[bL,jF,<-hn,cY,ba]
end
end
def SX:=au @Ai (au @ad6 (au @jf (au @LU (au @Qh (au @K0 (au @Oy (au @RE (au @Mr (au @IL (au @HP (au @Hw (au @H4 (au @H7 (au @WQ (au @QD (au @SQ (au @QW (au @WO (au @Ob (au @Ja (au @Nh (au @P7 (au @Nv (au @QR (au @Ic (au @Q6 (au @YE (au @UR (au @YB (au @Ws (au @Wu (au @UY (au @Wo (au @Xg (au @SF (au @MY (au @Oa (au @N1 (au @WU (au @acO (au @Bool.not_true (au @Bool.not_false (au @decide_true (@decide_false))))))))))))))))))))))))))))))))))))))))))))
def MX:=au @Vw (au @In (au @bU (au @cC (au @bL.{0,0} (au @cF.{0,0} (au @jF.{0} (au @List.drop_succ_cons.{0} (au @Iz.{0} (au @qJ.{0} (au @cG.{0} (au @wC.{0} (au @Bx.{0} (au @zm.{0} (au @aN (au @ba.{1} (au @lF (au @dP (au @M1 (au @II (au @E1 (au @Tm (au @wd (au @LD (au @Pb (au @kB (au @MJ (au @QS (au @wA (au @Em (au @It (au @lX (au @np (au @ki (au @jl (au @XH (au @zl (au @zy (au @NF (au @mD (au @zq (au @Lo (au @eC (au @p8 (au @bT (au @vE (au @bB (au @Io.{0} (au @IE.{0} (au @lM.{0} (au @vR.{0} (au @gH (au @WP (au @pr (au @Ha (au @eK.{0} (au @wB.{0} (au @sz.{0} (au @iD.{0} (au @OS (au @List.drop_nil.{0} (@List.take_nil.{0})))))))))))))))))))))))))))))))))))))))))))))))))))))))))))))
section
variable [ah]
section
variable {P:ag} {W:AW} {α:Type}
def Fx(lo:Nat)(W:AW)(z:Nat)(f:α->List ad)(v:ad)(l:List α):Prop:=
 (l=[]/\v=.slice none 0 0)\/(l≠[]/\∃B,lo<=B/\B<W.next/\v=.slice (some ⟨B,0,none⟩) l.length (dY+z)/\W.get B=some (.cells (l.flatMap f)))
def cD{z:Nat}{f:α->List ad}(hf:∀a,(f a).length=z):∀l:List α,(l.flatMap f).length=l.length*z
 |[]=>by simp
 |a::l=>by rw[gU,cT,hf,cD hf l,cG,Nat.succ_mul,Nat.add_comm]
def Fx.nil(lo:Nat)(W:AW)(z:Nat)(f:α->List ad):Fx lo W z f (.slice none 0 0) []:=.inl ⟨rfl,rfl⟩
def Fx.mono{lo z:Nat}{f:α->List ad}{v:ad}{l:List α}{W':AW}(h:Fx lo W z f v l)(aS:Le W W'):Fx lo W' z f v l:=by
 rcases h with h|⟨h0,B,h1,h2,h3,h4⟩
 ·exact .inl h
 ·exact .inr ⟨h0,B,h1,eE h2 aS.next,h3,by rw[aS.get B h2];exact h4⟩
def Fx.push{ts:Array ae}{z bytes lo:Nat}{f:α->List ad}{v:ad}{l:List α}{a:α}(hk:mq P ts z bytes=true)(hf:∀a,(f a).length=z)(h1:∀a,(f a).all one=true)
 (h:Fx lo W z f v l){b c:Nat}(hc:aC W b=some (f a))(hb:l.length+1<1099511627776)(nD:(2*(l.length+1)+192)*bytes<=281474976710656)(MI:lo<=W.next):
 ∃v' W',dB P W ts v (.slice (some ⟨b,0,none⟩) 1 c)=some (v',W')/\Fx lo W' z f v' (l++[a])/\W.next<=W'.next/\∀A,Le A W->A.next<=lo->Le A W':=by
 have hn:f a=((f a).drop 0).take (1*z):=by rw[jF,iI,<-hf a,cY]
 have hl:(f a).length=1*z:=by rw[hf];omega
 rcases h with⟨rfl,rfl⟩|⟨h0,B,i1,i2,rfl,i4⟩
 ·refine⟨_,_,Ht (b:=b) (o:=0) (c:=c) hk hc hn hl (by omega) (h1 a) (by omega) (by simpa using nD),.inr ⟨by simp,W.next,MI,by rw[AW.ar];omega,by simp,by rw[AW.aH];simp⟩,by rw[AW.ar];omega,λA hA _=>hA.add _⟩
 ·have uj:0<l.length:=ww.2 h0;refine⟨_,_,Ot (b:=b) (o:=0) (c:=c) hk hc hn hl (by omega) (h1 a) i4 (cD hf l) (by omega) nD uj,.inr ⟨by simp,W.next,MI,by rw[AW.ar,AW.dz];omega,by simp,?_⟩,by rw[AW.ar,AW.dz];omega,λA hA hl=>(hA.kill (by omega)).add _⟩;have:=(W.kill B).aH (.cells (l.flatMap f++f a));rw[AW.dz]at this;rw[this,jg];simp
def Fx.row{lo z:Nat}{f:α->List ad}{v:ad}{l:List α}{at_:List ad->Nat->α->Prop}(hf:∀a,(f a).length=z)(h:Fx lo W z f v l)(oX:∀a pre post,at_ (pre++(f a++post)) pre.length a):Row W z at_ v l:=by
 rcases h with⟨rfl,rfl⟩|⟨h0,B,i1,i2,rfl,i4⟩
 ·exact⟨none,0,rfl,.inl rfl⟩
 ·refine⟨_,_,rfl,.inr ⟨B,0,_,rfl,i2,az i4,λi hi=>?_⟩⟩;have e:l.flatMap f=(l.take i).flatMap f++(f l[i]++(l.drop (i+1)).flatMap f):=by rw[<-gU,<-ss hi,<-jg,Fv]
  have e2:((l.take i).flatMap f).length=0+i*z:=by rw[cD hf,fu];rw[nZ (by omega),aN]
  rw[e,<-e2];exact oX _ _ _
end
end
section
variable [ah]
section
variable {P:ag} {bad:List Nat} {spec:Callee}
def ahC(x:X)(l:Nat)(R:ah.Fr)(nt:Nat)(ps:Array Tmp)(ats bd:bA)(W:AW):ad×AW:=match x with
 |.normal=>(.bool true,W.put l (.loop .ready none R nt ps ats bd))
 |x=>(.bool false,W.put l (.loop .done x.jump R nt ps ats bd))
def Bp{l nt:Nat}{R:ah.Fr}{ps:Array Tmp}{ats bd:bA}{W:AW}{args:List ad}(hl:W.get l=some (.loop .ready none R nt ps ats bd))(hn:args.length=ps.size)
 {R1:ah.Fr}{W1:AW}(h1:eH P (om P bad spec) false nt ats LT (kD ps.toList args R) W ke=some (.normal,R1,W1))(hk:W1.get l=some (.loop .ready none R nt ps ats bd))
 {x2:X}{R2:ah.Fr}{W2:AW}(h2:eH P (om P bad spec) false nt bd LT R1 (W1.put l (.loop .busy none R nt ps ats bd)) ke=some (x2,R2,W2))(RN:W2.get l=some (.loop .busy none R nt ps ats bd)):
 om P bad spec (.func (.yield l) #[] #[]) args W=some (ahC x2 l R nt ps ats bd W2):=by
 refine W7 hl (by simpa using hn) ?_;unfold Jf;rw[show(#[]:Array ad).toList++args=args from rfl,h1];simp only[bL,tP,hk,h2,RN];unfold ahC;cases x2<;>rfl
def rS{call:Callee}{i:Nat}{fs cs:Array ad}{obj:db}{W W2:AW}{v:ad}(h:call (.func (.func i) fs cs) [.func (.yield W.next) #[] #[]] (W.add obj)=some (v,W2))
 {st:LoopState}{R:ah.Fr}{nt:Nat}{ps:Array Tmp}{ats bd:bA}(hg:W2.get W.next=some (.loop st none R nt ps ats bd))(hs:st≠ .busy):i8 call (.func (.func i) fs cs) obj W=some (.normal,W2.kill W.next):=by
 unfold i8;simp only[h,hg]
def Fq{call:Callee}{i:Nat}{fs cs:Array ad}{obj:db}{W W2:AW}{v:ad}(h:call (.func (.func i) fs cs) [.func (.yield W.next) #[] #[]] (W.add obj)=some (v,W2))
 {x:X}{R:ah.Fr}{nt:Nat}{ps:Array Tmp}{ats bd:bA}(hg:W2.get W.next=some (.loop .done x.jump R nt ps ats bd)):i8 call (.func (.func i) fs cs) obj W=some (x,W2.kill W.next):=by
 unfold i8;simp only[h,hg];cases x<;>rfl
end
end
end Go.Eng
namespace Go.Eng
open Go Go.RowKit Go.Sort
section
variable [ah]
end
end Go.Eng
namespace Go.Eng
open Go
section
variable [ah]
section
variable {P:ag} {W:AW} {α:Type}
def oY(n:Int):List ad:=[.af n]
def E6(n:Int):(oY n).length=1:=rfl
def Ku(n:Int):(oY n).all one=true:=rfl
def X4(n:Int)(pre post:List ad):oQ .i64 (pre++(oY n++post)) pre.length n:=by unfold oQ;rw[qG (by omega)];simp[oY]
def J7:∀l:List Int,l.flatMap oY=l.map (Value.int .i64)
 |[]=>rfl
 |a::l=>by rw[gU,kg,J7 l];rfl
def Fx.ints{lo:Nat}{v:ad}{l:List Int}(h:Fx lo W 1 oY v l):gg W v l:=h.row E6 X4
def YF{ts:Array ae}{z bytes:Nat}(hk:mq P ts z bytes=true){b o n c:Nat}{cs new:List ad}(hc:aC W b=some cs)(hn:new=(cs.drop o).take (n*z))(hl:new.length=n*z)(h0:0<n)(h1:new.all one=true)
 {B m:Nat}{um:List ad}(ho:aC W B=some um)(Nb:um.length=m*z)(hb:m+n<1099511627776)(nD:(2*(m+n)+192)*bytes<=281474976710656)(hm:0<m):
 dB P W ts (.slice (some ⟨B,0,none⟩) m m) (.slice (some ⟨b,o,none⟩) n c)=some (.slice (some ⟨W.next,0,none⟩) (m+n) (dY+z),W.add (.cells (um++new))):=by
 obtain⟨t,e,zv,k1,k2,k3,k4,k5,k6⟩:=oC hk;have hr:mm W b o (n*z)=some new:=by rw[iw,hc];simp only;rw[aq (by rw[<-hn];exact hl),hn]
 have Xq:bM W (.slice (some ⟨b,o,none⟩) n c) (n*z)=some new:=by unfold bM;simp only;rw[ap (by have:=mO h0 k5;omega),bK];exact hr
 have qg:mm W B 0 (m*z)=some um:=by rw[iw,ho];simp only[jF];rw[ve (by omega),aq Nb]
 have M8:bM W (.slice (some ⟨B,0,none⟩) m m) (m*z)=some um:=by unfold bM;simp only;rw[ap (by have:=mO hm k5;omega),bK];exact qg
 have hB:m<dY:=by unfold dY;omega
 have Sl:¬m=dY+z:=by unfold dY;omega
 unfold dB;simp only[k1,k2,k3,k4,ba,aq (au k5 (au k6 (au hb nD))),ap (show¬n=0 by omega),Xq,M8,h1,ap Sl,aq hB,ap (show¬m+n<=m by omega),AW.dm]
def JX(l:List Int)(c:Nat)(W:AW):gg (W.add (.cells (l.map (Value.int .i64)))) (.slice (some ⟨W.next,0,none⟩) l.length c) l:=
 ⟨_,_,rfl,.inr ⟨W.next,0,_,rfl,by rw[AW.ar];omega,bU,λi hi=>by unfold oQ;rw[aN,jE,jH,bS hi];rfl⟩⟩
end
end
section
variable [ah]
def uf(l:List (Int×ad×Nat)):List MapEntry:=l.map λp=>{key:=.af p.1,val:=p.2.1,born:=p.2.2}
def FT:List (Int×ad×Nat)->Int->Option ad
 |[],_=>none
 |p::l,k=>if k=p.1 then some p.2.1 else FT l k
def pG:List (Int×ad×Nat)->Int->Nat->Option (Nat×ad)
 |[],_,_=>none
 |p::l,k,i=>if k=p.1 then some (i,p.2.1)else pG l k (i+1)
def Hy(l:List (Int×ad×Nat))(k:Int):∀i,Instr.findNow (.int .i64) (.af k) (uf l) i=some (pG l k i):=by
 induction l with
 |nil=>intro i;rfl
 |cons p l ih=>
  intro i;show(match Instr.sameNow (.int .i64) (.af k) (.af p.1)with|some true=>some (some (i,p.2.1))|some false=>Instr.findNow (.int .i64) (.af k) (uf l) (i+1)|none=>none)=_;unfold pG;by_cases h:k=p.1
  ·have:Instr.sameNow (.int .i64) (.af k) (.af p.1)=some true:=by simp[Instr.sameNow,h]
   rw[this,aq h]
  ·have:Instr.sameNow (.int .i64) (.af k) (.af p.1)=some false:=by simp[Instr.sameNow,h]
   rw[this,ap h];exact ih (i+1)
def wP(l:List (Int×ad×Nat))(k:Int):∀i,FT l k=(pG l k i).map (·.2):=by
 induction l with
 |nil=>intro i;rfl
 |cons p l ih=>
  intro i;unfold FT pG;by_cases h:k=p.1
  ·rw[aq h,aq h];rfl
  ·rw[ap h,ap h];exact ih (i+1)
def jM(l:List (Int×ad×Nat)):List Int:=l.map (·.1)
def Lp{l:List (Int×ad×Nat)}{k:Int}(h:k∉jM l):FT l k=none:=by
 induction l with
 |nil=>rfl
 |cons p l ih=>unfold jM at h;rw[kg,dD,not_or]at h;unfold FT;rw[ap h.1];exact ih h.2
def wn{k:Int}{v:ad}:∀{l:List (Int×ad×Nat)} {i j:Nat},(jM l).Nodup->pG l k i=some (j,v)->i<=j/\(∃b,l[j-i]? =some (k,v,b)/\∀v' k',FT (l.set (j-i) (k,v',b)) k'=if k'=k then some v' else FT l k')/\
 (∀k',FT (l.eraseIdx (j-i)) k'=if k'=k then none else FT l k')/\(jM (l.eraseIdx (j-i))).Nodup/\(l.eraseIdx (j-i)).length+1=l.length/\∀v' b,jM (l.set (j-i) (k,v',b))=jM l
 |[],i,j,_,h=>by cases h
 |p::l,i,j,hn,h=>by
  unfold pG at h;have Pd:p.1∉jM l/\(jM l).Nodup:=List.nodup_cons.1 hn;by_cases hk:k=p.1
  ·rw[aq hk]at h;injection h with h;injection h with h1 h2;subst h1;rw[yl];refine⟨aM _,⟨p.2.2,by rw[hk,<-h2];rfl,λv' k'=>?_⟩,λk'=>?_,Pd.2,rfl,λv' b=>by rw[Io];simp[jM,hk]⟩
   ·rw[Io];unfold FT;rw[<-hk];by_cases AO:k'=k
    ·rw[aq AO,aq AO]
    ·rw[ap AO,ap AO,ap AO]
   ·show FT l k'=_;by_cases AO:k'=k
    ·rw[aq AO,AO,hk];exact Lp Pd.1
    ·rw[ap AO];conv=>rhs;unfold FT
     rw[ap (λe=>AO (e.trans hk.symm))]
  ·rw[ap hk]at h;obtain⟨h1,⟨b,h2,h3⟩,h4,h5,h6,h7⟩:=wn Pd.2 h;have e:j-i=(j-(i+1))+1:=by omega
   rw[e];refine⟨by omega,⟨b,by rw[zm];exact h2,λv' k'=>?_⟩,λk'=>?_,?_,?_,λv' b=>?_⟩
   ·rw[IE];unfold FT;by_cases hp:k'=p.1
    ·have:¬k'=k:=λx=>hk (x.symm.trans hp)
     rw[aq hp,ap this,aq hp]
    ·rw[ap hp,h3,ap hp]
   ·rw[za];unfold FT;by_cases hp:k'=p.1
    ·have:¬k'=k:=λx=>hk (x.symm.trans hp)
     rw[aq hp,ap this,aq hp]
    ·rw[ap hp,h4,ap hp]
   ·rw[za];refine List.nodup_cons.2 ⟨λhm=>Pd.1 ?_,h5⟩;unfold jM at hm|-;obtain⟨x,hx,hxe⟩:=mE.1 hm;exact mE.2 ⟨x,List.mem_of_mem_eraseIdx hx,hxe⟩
   ·rw[za,cG,cG,h6]
   ·rw[IE];show p.1::jM _=p.1::jM l;rw[h7]
def vZ{k:Int}:∀{l:List (Int×ad×Nat)} {i:Nat},pG l k i=none->k∉jM l/\∀v b k',FT (l++[(k,v,b)]) k'=if k'=k then some v else FT l k'
 |[],i,_=>⟨by simp[jM],λv b k'=>by simp[FT]⟩
 |p::l,i,h=>by
  unfold pG at h;by_cases hk:k=p.1
  ·rw[aq hk]at h;cases h
  ·rw[ap hk]at h;obtain⟨h1,h2⟩:=vZ h;refine⟨?_,λv b k'=>?_⟩
   ·unfold jM;rw[kg,dD,not_or];exact⟨hk,h1⟩
   ·rw[vR];unfold FT;by_cases hp:k'=p.1
    ·have:¬k'=k:=λx=>hk (x.symm.trans hp)
     rw[aq hp,ap this,aq hp]
    ·rw[ap hp,h2,ap hp]
def JT{α β:Type}(f:α->β):∀(l:List α) (i:Nat),(l.map f).eraseIdx i=(l.eraseIdx i).map f
 |[],_=>by simp
 |a::l,0=>rfl
 |a::l,i+1=>by rw[kg,za,za,kg,JT f l i]
def sH(W:AW)(r:Nat)(m:Int->Option ad)(n:Nat):Prop:=∃l c,W.get r=some (.map (uf l) c)/\(jM l).Nodup/\l.length=n/\∀k,FT l k=m k
section
variable {P:ag} {W:AW} {r:Nat} {m:Int->Option ad} {n:Nat} {t kt e:ae}
def M0(l:List (Int×ad×Nat)):eI (uf l)=true:=by unfold eI uf;rw[List.all_map,cw];intro p _;rfl
def rD(hk:P.underlying kt=some (.int .i64))(empty:Bool)(k:Int):rL P empty kt (.af k)=true:=by
 unfold rL;have:bW P (Instr.checkKey empty 10000 kt (.af k))=some ():=by unfold Instr.checkKey;simp only[eT,dV hk,bL];rfl
 rw[this];rfl
def oK(hk:P.underlying kt=some (.int .i64))(l:List (Int×ad×Nat))(k:Int):tr P kt (.af k) (uf l)=some (pG l k 0):=by unfold tr OP;have hp:bC (.af k)=true/\eI (uf l)=true:=⟨rfl,M0 l⟩;simp only[aq hp,hk,Hy]
def K2(h:sH W r m n)(ht:P.underlying t=some (.map kt e))(hk:P.underlying kt=some (.int .i64)){z:ad}(hz:iM P e=some z)(k:Int):pT P t (.map (some r)) (.af k) false W=some ((m k).getD z,W):=by
 obtain⟨l,c,hg,hn,hl,hm⟩:=h;unfold pT ll;simp only[ht,hg,rD hk,ba,oK hk];rw[<-hm k,wP l k 0];unfold uY;cases pG l k 0 with
 |none=>simp only[hz];rfl
 |some q=>rfl
def P2(h:sH W r m n)(ht:P.underlying t=some (.map kt e))(hk:P.underlying kt=some (.int .i64)){z:ad}(hz:iM P e=some z)(k:Int):pT P t (.map (some r)) (.af k) true W=some (.tuple #[(m k).getD z,.bool (m k).isSome],W):=by
 obtain⟨l,c,hg,hn,hl,hm⟩:=h;unfold pT ll;simp only[ht,hg,rD hk,ba,oK hk];rw[<-hm k,wP l k 0];unfold uY;cases pG l k 0 with
 |none=>simp only[hz];rfl
 |some q=>rfl
def JN(h:sH W r m n)(ht:P.underlying t=some (.map kt e))(hk:P.underlying kt=some (.int .i64))(k:Int)(v:ad):∃es c,ii P t (.map (some r)) (.af k) v W=some (ak,W.put r (.map es c))/\sH (W.put r (.map es c)) r (λx=>if x=k then some v else m x) (if(m k).isSome then n else n+1):=by
 obtain⟨l,c,hg,hn,hl,hm⟩:=h;have Pg:m k=(pG l k 0).map (·.2):=by rw[<-hm k,wP l k 0]
 cases hf:pG l k 0 with
 |none=>
  obtain⟨h1,h2⟩:=vZ hf;rw[hf]at Pg;refine⟨uf (l++[(k,v,c)]),c+1,?_,l++[(k,v,c)],c+1,AW.aW _ _ _,?_,?_,λx=>by rw[h2,hm]⟩
  ·unfold ii gJ;simp only[ht,hg,rD hk,ba,oK hk,hf,cF];unfold uf;rw[qI];rfl
  ·unfold jM at h1 hn|-;rw[qI,C9];refine⟨hn,by simp,λa ha b hb Uk=>?_⟩;simp only[kg,li,nL]at hb;subst hb;subst Uk;exact h1 ha
  ·rw[Pg];simp[hl]
 |some q=>
  obtain⟨j,v0⟩:=q;obtain⟨_,⟨b,h2,h3⟩,-,-,-,h7⟩:=wn hn hf;rw[zK]at h2 h3 h7;rw[hf]at Pg;refine⟨uf (l.set j (k,v,b)),c,?_,l.set j (k,v,b),c,AW.aW _ _ _,by rw[h7];exact hn,by rw[Pg];simp[hl],λx=>by rw[h3,hm]⟩;have he:(uf l)[j]? =some {key:=.af k,val:=v0,born:=b}:=by unfold uf;rw[jH,h2];rfl
  have hs:Instr.sameBits 10000 (.af k) (.af k)=true:=by unfold Instr.sameBits;simp
  have nQ:bC (.af k)=true:=rfl;unfold ii gJ;simp only[ht,hg,rD hk,ba,oK hk,hf,cF,he,hs,nQ,lF];unfold uf;rw[List.map_set]
def VP(h:sH W r m n)(ht:P.underlying t=some (.map kt e))(hk:P.underlying kt=some (.int .i64))(ts:List ae)(k:Int):∃es c,qc P W (t::ts).toArray (.map (some r)) (.af k)=some (W.put r (.map es c))/\sH (W.put r (.map es c)) r (λx=>if x=k then none else m x) (if(m k).isSome then n-1 else n):=by
 obtain⟨l,c,hg,hn,hl,hm⟩:=h;have Pg:m k=(pG l k 0).map (·.2):=by rw[<-hm k,wP l k 0]
 cases hf:pG l k 0 with
 |none=>
  obtain⟨h1,-⟩:=vZ hf;rw[hf]at Pg;refine⟨uf l,c,?_,l,c,AW.aW _ _ _,hn,by rw[Pg];simp[hl],λx=>?_⟩
  ·unfold qc;simp only[ht,hg,rD hk,ba,oK hk,hf]
  ·show FT l x=if x=k then none else m x
   by_cases hx:x=k
   ·rw[aq hx,hx,Lp h1]
   ·rw[ap hx,hm]
 |some q=>obtain⟨j,v0⟩:=q;obtain⟨_,-,h4,h5,h6,-⟩:=wn hn hf;rw[zK]at h4 h5 h6;rw[hf]at Pg;refine⟨uf (l.eraseIdx j),c,?_,l.eraseIdx j,c,AW.aW _ _ _,h5,by rw[Pg];simp;omega,λx=>by rw[h4,hm]⟩;unfold qc;simp only[ht,hg,rD hk,ba,oK hk,hf];unfold uf;rw[JT]
def Kw:sH (W.add (.map [] 0)) W.next (λ_=>none) 0:=⟨[],0,AW.aH _ _,by simp[jM],rfl,λk=>rfl⟩
def sH.keep{W':AW}(h:sH W r m n)(hg:W'.get r=W.get r):sH W' r m n:=by obtain⟨l,c,h1,h2⟩:=h;exact⟨l,c,hg.trans h1,h2⟩
end
end
end Go.Eng
namespace Go.Eng
open Go Go.RowKit Go.Sort
section
variable [ah]
def pc(zs:List Int)(i:Nat):List Int:=zs.take i++zs.drop (i+1)++[0]
def Ta{zs:List Int}{i:Nat}(h:i<zs.length):(pc zs i).length=zs.length:=by unfold pc;simp only[cT,fu,qA,cG,wC];omega
def tj(W:AW)(args:List ad)(r:ad×AW):Prop:=∃b zs i,i<zs.length/\args=[.slice (some ⟨b,0,none⟩) zs.length (dY+1),.af (i:Nat),.af ((i:Int)+1)]/\W.get b=some (.cells (zs.map (Value.int .u32)))/\r=(.slice (some ⟨b,0,none⟩) (zs.length-1) (dY+1),W.put b (.cells ((pc zs i).map (Value.int .u32))))
def Ca:∀{a b:List Int},a.map (Value.int .u32)=b.map (Value.int .u32)->a=b
 |[],[],_=>rfl
 |[],_::_,h=>by simp at h
 |_::_,[],h=>by simp at h
 |x::a,y::b,h=>by simp only[kg,List.cons.injEq,Value.int.injEq,yo]at h;rw[h.1,Ca h.2]
def tj.one{W:AW}{r1 r2:ad×AW}{args:List ad}(h1:tj W args r1)(h2:tj W args r2):r1=r2:=by
 obtain⟨b,zs,i,_,rfl,g1,rfl⟩:=h1;obtain⟨b2,zs2,i2,_,e,g2,rfl⟩:=h2;simp only[List.cons.injEq,Value.slice.injEq,gK,Addr.mk.injEq,and_true,Value.int.injEq,yo]at e;obtain⟨⟨rfl,_⟩,e,_⟩:=e;obtain rfl:i=i2:=by omega
 rw[g1]at g2;simp only[gK,db.cells.injEq]at g2;rw[Ca g2]
def LJ(F:Nat):Callee:=λf args W=>match f with
 |.func (.func g) fs cs=>(match Nat.beq g F&&(fs.isEmpty&&cs.isEmpty)with
  |true=>open Classical in if h:∃r,tj W args r then some (Classical.choose h)else none
  |false=>none)
 |_=>none
def YV{F:Nat}{W:AW}{r:ad×AW}{args:List ad}(h:tj W args r):LJ F (.func (.func F) #[] #[]) args W=some r:=by unfold LJ;have hx:∃r,tj W args r:=⟨r,h⟩;simp only[qi,Array.isEmpty_empty,ki,dif_pos hx];rw[(sQ hx).one h]
def Zf{P:ag}{ng:List Nat}{F:Nat}{fn:eO}{body:bA}(Gj:P.funcs[F]? =some fn)(mY:(fn.name== "runtime.NumGoroutine")=false)(hb:fn.body=some body)
 (Yu:∀(Xm off cap i:Nat) (zs:List Int) (w:am),Holds (Value.int .u32) w Xm off zs.toArray->zs.length<=cap->cap<=9223372036854775807->i<zs.length->
   Calls P F #[.slice (some ⟨Xm,off,none⟩) zs.length cap,.af (i:Nat),.af ((i:Int)+1)] w λe w'=>e=.returned (.slice (some ⟨Xm,off,none⟩) (zs.length-1) cap)/\∃n,w'=putRow (Value.int .u32) (Sort.ahead w n) Xm off (pc zs i).toArray):bI P ng (LJ F):=by
 intro f args W v W' h σ w f' cu hW hG hf cq;unfold LJ at h;split at h;case h_2=>cases h
 rename_i g fs cs;split at h;case h_2=>cases h
 rename_i J6;simp only[a8,dM,wE]at J6;obtain⟨rfl,rfl,rfl⟩:=J6;split at h;case isFalse=>cases h
 rename_i hx;injection h with h;have hs:=sQ hx;rw[h]at hs;clear h hx;obtain⟨b,zs,i,hi,rfl,hgb,e⟩:=hs;simp only[Dd]at e;obtain⟨rfl,rfl⟩:=e;obtain⟨FA,tH,ck,Ap,Rj,pS,rfl⟩:=hf.jO;cases Ap;obtain rfl:tH=#[]:=by have h1:tH.toList.length=0:=Rj.1.symm;exact qz.1 (mz.1 h1)
 obtain rfl:ck=#[]:=by have h1:ck.toList.length=0:=pS.1.symm;exact qz.1 (mz.1 h1)
 obtain⟨v',rfl,hv⟩:∃v',cu=[v',.af (i:Nat),.af ((i:Int)+1)]/\VR σ (.slice (some ⟨b,0,none⟩) zs.length (dY+1)) v':=by
  obtain⟨hl,hv⟩:=cq;match cu,hl with
  |[v',u1,u2],_=>have k1:=hv 1 _ _ rfl rfl;have k2:=hv 2 _ _ rfl rfl;cases k1;cases k2;exact⟨v',rfl,hv 0 _ _ rfl rfl⟩
 obtain⟨sg,xW,hg,rfl,m5⟩:∃(sg:vC) (xW:Nat),σ b=some sg/\v'=.slice (some ⟨sg.B,sg.s,none⟩) zs.length xW/\Gd sg 0 zs.length (dY+1) xW:=by
  have uj:0<zs.length:=by omega
  generalize hl:zs.length=l at hv uj;cases hv with
  |slice a l c c' g h hs hc=>exact⟨g,c',h,rfl,hc⟩
  |cX=>omega
 refine⟨dK Gj mY hb _ w,?_⟩;have e1:(#[]:Array ad)++[Value.slice (some ⟨sg.B,sg.s,none⟩) zs.length xW,.af (i:Nat),.af ((i:Int)+1)].toArray++#[]=#[.slice (some ⟨sg.B,sg.s,none⟩) zs.length xW,.af (i:Nat),.af ((i:Int)+1)]:=by simp
 rw[e1];obtain⟨cc,t,fr0,k1,k0,k2,k3,k4⟩:=hW.obj b _ _ hgb hg;have wu:sg.s<sg.e:=by rw[gV]at k2;omega
 obtain rfl:=k0 wu;have Px:∀j,(hj:j<zs.length)->cc[sg.s+j]? =some (.int .u32 zs[j]):=λj hj=>by obtain⟨u,u1,u2⟩:=k4 j (.int .u32 zs[j]) (by rw[jH,bS hj];rfl);cases u2;exact u1
 have hH:Holds (Value.int .u32) w sg.B sg.s zs.toArray:=λj hj=>by
  have hj':j<zs.length:=by simpa using hj
  refine⟨?_,(mf.afo (hW.obj b _ _ hgb hg) (λ_ hx=>by cases hx) wu rfl)⟩;unfold World.cell?;simp only[k1,Px j hj',ql];rw[getElem!_pos zs.toArray j hj];simp
 have Fe:zs.length<=xW:=by rcases m5.inv with⟨h,_⟩|⟨_,_,_,h,_⟩<;>omega
 have hcm:xW<=9223372036854775807:=by have:=m5.max.2 (by omega);unfold maxLen at this;omega
 refine lL (show CallsIn Fence.wide 0 P g _ w _ from(qj (n:=0)).2 (Yu sg.B sg.s xW i zs w hH Fe hcm hi)) ?_;rintro e w' ⟨rfl,n,rfl⟩;have Z1:(pc zs i).length=zs.length:=Ta hi;have adP:∀B,B≠sg.B->(putRow (Value.int .u32) (Sort.ahead w n) sg.B sg.s (pc zs i).toArray).heap[B]? =w.heap[B]? :=λB hB=>by show(w.heap.modify sg.B _)[B]? =_;rw[uZ,ap (aV hB)]
 have oX:(putRow (Value.int .u32) (Sort.ahead w n) sg.B sg.s (pc zs i).toArray).heap[sg.B]? =some (.cells (putCells (Value.int .u32) sg.s (pc zs i).toArray cc) t (0,0)):=by show(w.heap.modify sg.B _)[sg.B]? =_;rw[uZ,aq rfl,k1];rfl
 have WK:∀i',(putCells (Value.int .u32) sg.s (pc zs i).toArray cc)[i']? =(cc[i']?).map λx=>if sg.s<=i'/\i'<sg.s+(pc zs i).toArray.size then Value.int .u32 (pc zs i).toArray[i'-sg.s]! else x:=λi'=>by unfold putCells;rw[Array.getElem?_mapIdx]
 rw[gV]at k2;obtain⟨r1,r2⟩:=hW.write (w':=putRow (Value.int .u32) (Sort.ahead w n) sg.B sg.s (pc zs i).toArray) (ck:=(pc zs i).map (Value.int .u32)) hgb hg (by show(w.heap.modify _ _).size=_;simp) rfl rfl rfl adP k1 oX (by unfold putCells;simp)
  (λi' pb=>by
    rw[WK];have:¬(sg.s<=i'/\i'<sg.s+(pc zs i).toArray.size):=by rw[sz,Z1];omega
    simp only[this,cV];cases cc[i']? <;>rfl)
  (by rw[gV,Z1];exact k2)
  (λj v hv=>by
    rw[jH]at hv;have hj:j<(pc zs i).length:=by
     rcases zE j (pc zs i).length with h|h
     ·exact h
     ·rw[iE h]at hv;cases hv
    rw[bS hj]at hv;injection hv with hv;subst hv;refine⟨_,?_,.int _ _⟩;rw[WK,Px j (by omega)];have:sg.s<=sg.s+j/\sg.s+j<sg.s+(pc zs i).toArray.size:=by rw[sz];omega
    simp only[this,lF,ba,cF,C0];rw[getElem!_pos (pc zs i).toArray j (by simpa using hj)];simp)
 refine⟨_,rfl,σ,?_,r1,r2⟩;rcases m5.inv with⟨h,_⟩|⟨z,hz,ZO,Zi,xf⟩
 ·omega
 ·exact .slice ⟨b,0,none⟩ _ _ _ sg hg rfl (by rw[ZO];exact .open_ z xW hz (by omega) xf (m5.max.2 (by omega)))
end
end Go.Eng
namespace Go.Proofs.YtmaoneengdafhaaGreatDoor
open Go Go.Eng
def PW:List Int:=[0,1,7,27,7,7,99,67,7,64,11,11,128]
def tF:List ad:=PW.map (Value.int .i64)
def upF(n:Nat):Nat->List Nat:=Nat.rec (motive:=λ_=>Nat->List Nat) (λ_=>[]) (λ_ ih s=>s::ih (s+1)) n
def anG(l:List (Nat×Nat)):List Nat:=List.rec (motive:=λ_=>List Nat) [] (λp _ ih=>List.rec (motive:=λ_=>List Nat) ih (λa _ r=>a::r) (upF p.2 p.1)) l
def lkF(i:Nat)(l:List (Nat×List Nat)):List Nat:=List.rec (motive:=λ_=>List Nat) [] (λp _ ih=>Bool.rec (motive:=λ_=>List Nat) ih p.2 (Nat.beq p.1 i)) l
def zF(x:List (Nat×List Nat))(o:List Nat):List (Nat×List Nat):=List.rec (motive:=λ_=>List (Nat×List Nat)) [] (λi _ r=>(i,lkF i x)::r) o
abbrev TB:=T (List (Nat×List Nat))
def oq(k n:Nat)(l:List (Nat×Nat))(x:List (Nat×List Nat))(t:TB):TB:=T.set (some (zF x (List.rec (motive:=λ_=>List Nat) (upF n 0) (λ_ _ _=>anG l) l))) (path k) t
def tab:TB:=oq 65644 0 [(0,4),(6,1),(9,5),(4,2),(7,2),(14,2)] [(4,[13,12]),(8,[13,12])]<|
 oq 557108 8 [] [(5,[1])]<|
 oq 557174 0 [(0,2),(3,1),(2,1),(4,4)] [(2,[3])]<|
 oq 557180 0 [(0,2),(3,1),(2,1),(4,4)] [(2,[3])]<|
 oq 573512 0 [(0,4),(5,5),(4,1),(10,2)] [(4,[9,8])]<|
 oq 577608 0 [(0,2),(3,2),(7,3),(2,1),(5,2),(10,3)] [(2,[9,4]),(5,[9])]<|
 oq 1597483 6 [] [(3,[1])]<|
 oq 1626289 0 [(0,4),(5,5),(11,1),(4,1),(10,1),(12,1)] [(4,[9,8])]<|
 oq 1700185 31 [] [(24,[16,13,10,4]),(25,[4])]<|
 oq 2130136 0 [(0,3),(4,2),(3,1),(6,2)] []<|
 oq 2142405 0 [(0,5),(6,2),(5,1),(8,3)] [(5,[7,6])]<|
 oq 2150610 0 [(0,6),(10,1),(6,4),(11,2)] []<|
 oq 2162906 0 [(0,2),(5,2),(10,2),(2,3),(7,3),(12,4)] [(2,[11,6]),(7,[11])]<|
 oq 2641981 5 [] [(2,[1])]<|
 oq 2662569 0 [(0,2),(3,5),(2,1),(8,2)] [(2,[7,5])]<|
 oq 2711837 22 [] [(15,[10,7,4,1]),(16,[1])]<|
 oq 3162136 4 [] [(2,[1])]<|
 oq 3187091 10 [] [(7,[3,1])]<|
 oq 3191058 0 [(0,7),(8,1),(7,1),(9,2)] [(7,[0])]<|
 oq 3203465 14 [] [(12,[9,6])]<|
 oq 3211520 0 [(0,8),(9,4),(8,1),(13,3)] [(8,[3,1]),(13,[3,1])]<|
 oq 3223951 19 [] [(16,[15,11])]<|
 oq 3699014 0 [(0,1),(2,2),(1,1),(4,3)] [(1,[2])]<|
 oq 3743975 0 [(0,12),(13,2),(16,1),(12,1),(15,1),(17,1)] [(12,[14,3,1])]<|
 oq 4227420 0 [(1,2),(4,1),(6,1),(0,1),(3,1),(5,1),(7,1)] [(0,[2])]<|
 oq 4764061 11 [] [(8,[3])]<|
 oq 5263427 5 [] [(2,[1])]<|
 oq 5292226 12 [] [(7,[5,3]),(9,[5])]<|
 oq 5800390 8 [] [(5,[4])]<|
 oq 5829100 0 [(0,5),(10,2),(5,5),(12,3)] []<|
 oq 5829177 15 [] [(13,[10,6])]<|
 oq 6311989 5 [] [(2,[1])]<|
 oq 6320555 7 [] [(4,[1])]<|
 oq 6345218 0 [(0,6),(7,3),(6,1),(10,3)] [(6,[8,3,1]),(10,[3,1])]<|
 oq 6357288 16 [] [(9,[7,5,3]),(11,[7,5]),(13,[7])]<|
 oq 6869754 13 [] [(10,[8,4])]<|
 oq 6885912 17 [] [(11,[1])]<|
 oq 7373428 8 [] [(6,[3])]<|
 oq 7405976 16 [] [(9,[7,5,3]),(11,[7,5]),(13,[7])]<|
 oq 7463625 30 [] [(24,[4])]<|
 oq 8438266 12 [] [(7,[5,3]),(9,[5])]<|
 oq 8491684 25 [] [(19,[4,0])]<|
 oq 8958634 0 [(0,4),(5,4),(4,1),(9,2)] []<|
 oq 9499393 15 [] [(9,[1])]<|
 oq 11055979 11 [] [(7,[4])]<|
 oq 11059842 12 [] [(7,[5,3]),(9,[5])]<|
 oq 13127778 5 [] [(2,[1])]<|
 oq 13652068 5 [] [(2,[1])]<|
 oq 16269433 4 [] [(2,[1])]<|.lf
def Uy:List Int:=[1,10,100,1000,10000,100000,1000000,10000000,100000000,1000000000,10000000000,100000000000,1000000000000,10000000000000,100000000000000,1000000000000000,10000000000000000,100000000000000000,1000000000000000000,10000000000000000000]
def HG:List ad:=Uy.map (Value.int .u64)
def Vh:List Int:=[0,1,28,2,29,14,24,3,30,22,20,15,25,17,4,8,31,27,13,23,21,19,16,7,26,12,18,6,11,5,10,9]
def IJ:List ad:=Vh.map (Value.int .u8)
def U8:List Int:=[0,1,56,2,57,49,28,3,61,58,42,50,38,29,17,4,62,47,59,36,45,43,51,22,53,39,33,30,24,18,12,5,63,55,48,27,60,41,37,16,46,35,44,21,52,32,23,11,54,26,40,15,34,20,31,10,25,14,19,9,13,8,7,6]
def HT:List ad:=U8.map (Value.int .u8)
def jz:List (Nat×List ad):=[(0,tF),(1,HG),(3,IJ),(4,HT)]
end Go.Proofs.YtmaoneengdafhaaGreatDoor
namespace Go.Eng
open Go
section
variable [ah]
section
variable {P:ag} {W:AW}
def MB{t:ae}{z:Nat}(hz:Dt P t=some z)(h0:0<z){b o l h:Nat}{k:aO}(h1:h<=l):
 ft P t (.slice (some ⟨b,o,none⟩) l (dY+z)) none (some (.int k (h:Int))) none W=some (.slice (some ⟨b,o,none⟩) h (dY+z),W):=by
 obtain⟨e,he,hz⟩:=EI hz;have h2:((⟨b,o,none⟩:aP).add (0*z))=⟨b,o,none⟩:=by rw[cP];simp
 unfold ft mH;simp only[he,hz,fm,kK,mP,ba,yo,aq h0,aq h1,zK,h2]
end
end
section
variable [ah]
def adL(W:AW)(cs:List ad)(b:Nat):aC (W.add (.cells cs)) b=if b=W.next then some cs else aC W b:=by
 by_cases h:b=W.next
 ·subst h;rw[aq rfl];exact bU
 ·rw[ap h];unfold aC;rw[W.aD _ (λe=>h e.symm)]
def abQ(W:AW)(c:Nat)(cs:List ad)(b:Nat):aC (W.put c (.cells cs)) b=if b=c then some cs else aC W b:=by
 by_cases h:b=c
 ·subst h;rw[aq rfl];exact p8 _
 ·rw[ap h];exact vE _ (λe=>h e.symm)
def aek(W:AW)(cs:List ad)(b:Nat):aK (W.add (.cells cs)) b=if b=W.next then some cs else aK W b:=by
 by_cases h:b=W.next
 ·subst h;rw[aq rfl];exact cC
 ·rw[ap h];unfold aK;rw[W.aD _ (λe=>h e.symm)]
def aco(W:AW)(c:Nat)(cs:List ad)(b:Nat):aK (W.put c (.cells cs)) b=if b=c then some cs else aK W b:=by
 by_cases h:b=c
 ·subst h;rw[aq rfl];exact bT _
 ·rw[ap h];exact bB _ (λe=>h e.symm)
def QP(W:AW):Le W W=True:=eq_true (Le.refl W)
def Tt{W W':AW}(h:Le W W')(o:db):Le W (W'.add o)=True:=eq_true (h.add o)
def Wl{W W':AW}(h:Le W W'){b:Nat}(hb:W.next<=b)(o:db):Le W (W'.put b o)=True:=eq_true (h.put hb o)
def ZN(a:Option aP):one (.pointer a)=true:=aL rfl rfl
def Yv{W:AW}{b o:Nat}{x:Option aP}:gv 1 (.pointer (some ⟨b,o,none⟩)) (.pointer x) W=(aK W b).bind λcs=>if o<cs.length then some (ak,W.put b (.cells (cs.set o (.pointer x))))else none:=nY rfl rfl
def Rp(cs vs:List ad):fN cs 0 vs=vs++cs.drop vs.length:=by unfold fN;rw[qJ,lM,aN]
def agK(b:Bool):qk ak b=false:=aL (by unfold qk ak;rfl) rfl
def HX:=au @adL (au @abQ (au @aek (au @aco (au @QP (au @Tt (au @Wl (au @ZN (au @Yv (au @AW.ar (au @AW.bh (au @i9 (au @Nat.le_add_right (au @aM (au @Nat.add_eq_left (au @Nat.left_eq_add (au @Rp (au @jf (au @cV.{1} (au @Nat.one_ne_zero (au @uC (au @List.take_nil.{0} (au @yo (au @and_true (au @agK @ai))))))))))))))))))))))))
end
section
variable [ah]
section
variable {P:ag} {W:AW} {α:Type}
def Az{ts:Array ae}{z bytes:Nat}(hk:mq P ts z bytes=true){b o n c:Nat}{cs new:List ad}(hc:aC W b=some cs)(hn:new=(cs.drop o).take (n*z))(hl:new.length=n*z)(h0:0<n)(h1:new.all Eng.one=true)
 {a:aP}(hb:n<1099511627776)(nD:(2*n+192)*bytes<=281474976710656):
 dB P W ts (.slice (some a) 0 0) (.slice (some ⟨b,o,none⟩) n c)=some (.slice (some ⟨W.next,0,none⟩) n (dY+z),W.add (.cells new)):=by
 obtain⟨t,e,zv,k1,k2,k3,k4,k5,k6⟩:=oC hk;have hr:mm W b o (n*z)=some new:=by rw[iw,hc];simp only;rw[aq (by rw[<-hn];exact hl),hn]
 have Xq:bM W (.slice (some ⟨b,o,none⟩) n c) (n*z)=some new:=by unfold bM;simp only;rw[ap (by have:=mO h0 k5;omega),bK];exact hr
 have M8:bM W (.slice (some a) 0 0) (0*z)=some []:=by unfold bM;simp
 have hB:0<dY:=by unfold dY;omega
 have Sl:¬0=dY+z:=by unfold dY;omega
 unfold dB;simp only[k1,k2,k3,k4,ba,aN,aq (au k5 (au k6 (au hb nD))),ap (show¬n=0 by omega),Xq,M8,h1,ap Sl,aq hB,ap (show¬n<=0 by omega),AW.dm,lM]
def qT{ts:Array ae}{z bytes:Nat}(hk:mq P ts z bytes=true){a a2:Option aP}{l c c2:Nat}(h:l<=c)(hb:l<1099511627776)(nD:(2*l+192)*bytes<=281474976710656):
 dB P W ts (.slice a l c) (.slice a2 0 c2)=some (.slice a l c,W):=by
 obtain⟨t,e,zv,k1,k2,k3,k4,k5,k6⟩:=oC hk;unfold dB;simp only[k1,k2,k3,k4,ba,fY,aq (au k5 (au k6 (au hb nD))),aq h]
def Dy{f:α->List ad}(h1:∀a,(f a).all one=true):∀l:List α,(l.flatMap f).all one=true
 |[]=>rfl
 |a::l=>by rw[gU,List.all_append,h1 a,Dy h1 l];rfl
def EL(lo:Nat)(W:AW)(z:Nat)(f:α->List ad)(v:ad)(l:List α):Prop:=
 (l=[]/\(v=.slice none 0 0\/∃B,v=.slice (some ⟨B,0,none⟩) 0 0))\/(l≠[]/\∃B c,lo<=B/\B<W.next/\v=.slice (some ⟨B,0,none⟩) l.length c/\(c=dY+z\/c=l.length)/\W.get B=some (.cells (l.flatMap f)))
def Rd(W:AW)(z:Nat)(f:α->List ad)(v:ad)(l:List α):Prop:=
 ∃a c,v=.slice a l.length c/\(l=[]\/∃b o cs,a=some ⟨b,o,none⟩/\b<W.next/\aC W b=some cs/\(cs.drop o).take (l.length*z)=l.flatMap f)
def EL.nil(lo:Nat)(W:AW)(z:Nat)(f:α->List ad):EL lo W z f (.slice none 0 0) []:=.inl ⟨rfl,.inl rfl⟩
def EL.ajY(lo:Nat)(W:AW)(z:Nat)(f:α->List ad)(B:Nat):EL lo W z f (.slice (some ⟨B,0,none⟩) 0 0) []:=.inl ⟨rfl,.inr ⟨B,rfl⟩⟩
def EL.keep{lo z:Nat}{f:α->List ad}{v:ad}{l:List α}{W':AW}(h:EL lo W z f v l)(hn:W.next<=W'.next)(hg:∀b,lo<=b->b<W.next->W'.get b=W.get b):EL lo W' z f v l:=by
 rcases h with h|⟨h0,B,c,h1,h2,h3,hc,h4⟩
 ·exact .inl h
 ·exact .inr ⟨h0,B,c,h1,by omega,h3,hc,by rw[hg B h1 h2];exact h4⟩
def EL.low{lo X8 z:Nat}{f:α->List ad}{v:ad}{l:List α}(h:EL lo W z f v l)(hl:X8<=lo):EL X8 W z f v l:=by
 rcases h with h|⟨h0,B,c,h1,h⟩
 ·exact .inl h
 ·exact .inr ⟨h0,B,c,by omega,h⟩
def Fx.el{lo z:Nat}{f:α->List ad}{v:ad}{l:List α}(h:Fx lo W z f v l):EL lo W z f v l:=by
 rcases h with⟨rfl,rfl⟩|⟨h0,B,h1,h2,h3,h4⟩
 ·exact .inl ⟨rfl,.inl rfl⟩
 ·exact .inr ⟨h0,B,_,h1,h2,h3,.inl rfl,h4⟩
def EL.slice{lo z:Nat}{f:α->List ad}{v:ad}{l:List α}(h:EL lo W z f v l):∃a c,v=.slice a l.length c:=by rcases h with⟨rfl,rfl|⟨B,rfl⟩⟩|⟨_,B,c,_,_,rfl,_⟩<;>exact⟨_,_,rfl⟩
def EL.rd{lo z:Nat}{f:α->List ad}{v:ad}{l:List α}(hf:∀a,(f a).length=z)(h:EL lo W z f v l):Rd W z f v l:=by
 rcases h with⟨rfl,rfl|⟨B,rfl⟩⟩|⟨h0,B,c,i1,i2,rfl,hc,i4⟩
 ·exact⟨none,0,rfl,.inl rfl⟩
 ·exact⟨_,0,rfl,.inl rfl⟩
 ·exact⟨_,_,rfl,.inr ⟨B,0,_,rfl,i2,az i4,by rw[jF,<-cD hf l,cY]⟩⟩
def Rd.keep{z:Nat}{f:α->List ad}{v:ad}{l:List α}{W':AW}(h:Rd W z f v l)(aS:Le W W'):Rd W' z f v l:=by
 obtain⟨a,c,rfl,h⟩:=h;refine⟨a,c,rfl,?_⟩;rcases h with h|⟨b,o,cs,h1,h2,h3,h4⟩
 ·exact .inl h
 ·exact .inr ⟨b,o,cs,h1,eE h2 aS.next,by unfold aC at h3|-;rw[aS.get b h2];exact h3,h4⟩
section
variable {t:ae} {z lo:Nat} {f:α->List ad} {v:ad} {l:List α} {kk:aO} {k:Nat}
def EL.app{ts:Array ae}{bytes:Nat}{v2:ad}{l2:List α}(hk:mq P ts z bytes=true)(hf:∀a,(f a).length=z)(h1:∀a,(f a).all one=true)
 (h:EL lo W z f v l)(h2:Rd W z f v2 l2)(hb:l.length+l2.length<1099511627776)(nD:(2*(l.length+l2.length)+192)*bytes<=281474976710656)(MI:lo<=W.next):
 ∃v' W',dB P W ts v v2=some (v',W')/\EL lo W' z f v' (l++l2)/\W.next<=W'.next/\∀b,b<lo->W'.get b=W.get b:=by
 have Sf:0<z:=by obtain⟨t,e,zv,_,_,_,_,k5,_⟩:=oC hk;exact k5
 obtain⟨a,c,rfl,h2⟩:=h2;by_cases he:l2=[]
 ·subst he;rw[iD];have Qw:(2*l.length+192)*bytes<=281474976710656:=by simpa using nD
  rcases h with⟨rfl,rfl|⟨B,rfl⟩⟩|⟨Ch,B,c',i1,i2,rfl,hc,i4⟩
  ·exact⟨_,_,qT hk (aM _) (by simp at hb;omega) (by simpa using Qw),.inl ⟨rfl,.inl rfl⟩,aM _,λ_ _=>rfl⟩
  ·exact⟨_,_,qT hk (aM _) (by simp at hb;omega) (by simpa using Qw),.inl ⟨rfl,.inr ⟨B,rfl⟩⟩,aM _,λ_ _=>rfl⟩
  ·exact⟨_,_,qT hk (by rcases hc with rfl|rfl<;>(try unfold dY)<;>omega) (by omega) Qw,.inr ⟨Ch,B,c',i1,i2,rfl,hc,i4⟩,aM _,λ_ _=>rfl⟩
 ·rcases h2 with h2|⟨b,o,cs,rfl,j1,j2,j3⟩
  ·exact absurd h2 he
  have Pt:0<l2.length:=ww.2 he;have Oj:(l2.flatMap f).length=l2.length*z:=cD hf l2;have ha:=Dy h1 l2;rcases h with⟨rfl,rfl|⟨B,rfl⟩⟩|⟨Ch,B,c',i1,i2,rfl,hc,i4⟩
  ·refine⟨_,_,Ht hk j2 j3.symm Oj Pt ha (by simp at hb;omega) (by simpa using nD),.inr ⟨by simpa using he,W.next,_,MI,by rw[AW.ar];omega,by simp,.inl rfl,by rw[AW.aH];simp⟩,by rw[AW.ar];omega,λb hb=>AW.aD _ _ (by omega)⟩
  ·refine⟨_,_,Az hk j2 j3.symm Oj Pt ha (by simp at hb;omega) (by simpa using nD),.inr ⟨by simpa using he,W.next,_,MI,by rw[AW.ar];omega,by simp,.inl rfl,by rw[AW.aH];simp⟩,by rw[AW.ar];omega,λb hb=>AW.aD _ _ (by omega)⟩
  ·have uj:0<l.length:=ww.2 Ch;rcases hc with rfl|rfl
   ·refine⟨_,_,Ot hk j2 j3.symm Oj Pt ha i4 (cD hf l) hb nD uj,.inr ⟨by simp[Ch],W.next,_,MI,by rw[AW.ar,AW.dz];omega,by rw[cT],.inl rfl,?_⟩,by rw[AW.ar,AW.dz];omega,λb hb=>?_⟩
    ·have:=(W.kill B).aH (.cells (l.flatMap f++l2.flatMap f));rw[AW.dz]at this;rw[this,jg]
    ·rw[AW.aD _ _ (by rw[AW.dz];omega),AW.cE _ (by omega)]
   ·refine⟨_,_,YF hk j2 j3.symm Oj Pt ha (az i4) (cD hf l) hb nD uj,.inr ⟨by simp[Ch],W.next,_,MI,by rw[AW.ar];omega,by rw[cT],.inl rfl,by rw[AW.aH,jg]⟩,by rw[AW.ar];omega,λb hb=>AW.aD _ _ (by omega)⟩
end
end
def iR{α:Type}(W:AW)(z:Nat)(f:α->List ad)(v:ad)(l:List α)(bo:Option Nat):Prop:=
 (l=[]/\v=.slice none 0 0/\bo=none)\/(l≠[]/\∃B,bo=some B/\B<W.next/\v=.slice (some ⟨B,0,none⟩) l.length (dY+z)/\W.get B=some (.cells (l.flatMap f)))
def iR.js{α:Type}{W:AW}{z:Nat}{f:α->List ad}{v:ad}{l:List α}{bo:Option Nat}(h:iR W z f v l bo):Fx 0 W z f v l:=by
 rcases h with⟨h1,h2,-⟩|⟨h0,B,-,h2,h3,h4⟩
 ·exact .inl ⟨h1,h2⟩
 ·exact .inr ⟨h0,B,mP _,h2,h3,h4⟩
def iR.keep{α:Type}{W W':AW}{z:Nat}{f:α->List ad}{v:ad}{l:List α}{bo:Option Nat}(h:iR W z f v l bo)(hn:W.next<=W'.next)(hg:∀B,bo=some B->W'.get B=W.get B):iR W' z f v l bo:=by
 rcases h with h|⟨h0,B,h1,h2,h3,h4⟩
 ·exact .inl h
 ·exact .inr ⟨h0,B,h1,by omega,h3,(hg B h1).trans h4⟩
def iR.lt{α:Type}{W:AW}{z:Nat}{f:α->List ad}{v:ad}{l:List α}{bo:Option Nat}(h:iR W z f v l bo){B:Nat}(hB:bo=some B):B<W.next:=by
 rcases h with⟨-,-,h⟩|⟨h0,B',h1,h2,-⟩
 ·rw[h]at hB;cases hB
 ·rw[h1]at hB;injection hB with hB;omega
def iR.push{α:Type}{P:ag}{W:AW}{ts:Array ae}{z bytes:Nat}{f:α->List ad}{v:ad}{l:List α}{bo:Option Nat}{a:α}(hk:mq P ts z bytes=true)(hf:∀a,(f a).length=z)(h1:∀a,(f a).all one=true)
 (h:iR W z f v l bo){b c:Nat}(hc:aC W b=some (f a))(hb:l.length+1<1099511627776)(nD:(2*(l.length+1)+192)*bytes<=281474976710656):
 ∃v' W',dB P W ts v (.slice (some ⟨b,0,none⟩) 1 c)=some (v',W')/\iR W' z f v' (l++[a]) (some W.next)/\W'.next=W.next+1/\∀b,b<W.next->bo≠some b->W'.get b=W.get b:=by
 have hn:f a=((f a).drop 0).take (1*z):=by rw[jF,iI,<-hf a,cY]
 have hl:(f a).length=1*z:=by rw[hf];omega
 rcases h with⟨rfl,rfl,rfl⟩|⟨h0,B,rfl,i2,rfl,i4⟩
 ·refine⟨_,_,Ht (b:=b) (o:=0) (c:=c) hk hc hn hl (by omega) (h1 a) (by omega) (by simpa using nD),.inr ⟨by simp,W.next,rfl,by rw[AW.ar];omega,by simp,by rw[AW.aH];simp⟩,AW.ar _ _,λd hd _=>AW.aD _ _ (by omega)⟩
 ·have uj:0<l.length:=ww.2 h0;refine⟨_,_,Ot (b:=b) (o:=0) (c:=c) hk hc hn hl (by omega) (h1 a) i4 (cD hf l) (by omega) nD uj,.inr ⟨by simp,W.next,rfl,by rw[AW.ar,AW.dz];omega,by simp,?_⟩,by rw[AW.ar,AW.dz],λd hd ee=>?_⟩
  ·have:=(W.kill B).aH (.cells (l.flatMap f++f a));rw[AW.dz]at this;rw[this,jg];simp
  ·rw[AW.aD _ _ (by rw[AW.dz];omega),AW.cE _ (λe=>ee (by rw[e]))]
section
variable {P:ag} {W:AW} {α:Type} {t:ae} {z lo:Nat} {f:α->List ad} {v:ad} {l:List α} {kk:aO} {k:Nat}
end
def XY{W W':AW}(v:ad):gc W (v,W')=(v,W')\/(gc W (v,W')=(v,W)/\Le W W'/\bC v=true):=by
 unfold gc;split
 ·rename_i h;have:=h.1;simp only[a8]at this;exact .inr ⟨rfl,h.2,this.1⟩
 ·exact .inl rfl
def KH{o t:Option (ad×AW)}{W:AW}{Q:ad->AW->Prop}(h:Ok t λr=>Q r.1 r.2)(Mi:∀{r},t=some r->o=some (gc W r))(hq:∀v W',Q v W'->Le W W'->bC v=true->Q v W):∃v W',o=some (v,W')/\Q v W':=by
 obtain⟨⟨v,W'⟩,h1,h2⟩:=h;rcases XY (W:=W) (W':=W') v with hg|⟨hg,aS,hp⟩
 ·exact⟨v,W',by rw[Mi h1,hg],h2⟩
 ·exact⟨v,W,by rw[Mi h1,hg],hq v W' h2 aS hp⟩
def S7{P:ag}{W:AW}{t:ae}{x y u:ad}:iS P [(x,some t),(y,none),(u,none)] W=(fR P t x W).bind λr=>some (.tuple #[r.1,y,u],W):=by unfold iS fR;simp only[rO];cases ju P W t x<;>rfl
end
end Go.Eng
namespace Go.Proofs.YtmaoneengdafhaaGreatDoor
structure RunT where
 row:Int
 fi:Int
 ma:Int
def yy(r:Int):Int->List Bool->Int->Int->List RunT
 |_,[],c,m=>if 0<m then [⟨r,c,m⟩]else []
 |s,true::l,c,m=>yy r (s+1) l c (m+1)
 |s,false::l,c,m=>(if 0<m then [⟨r,c,m⟩]else [])++yy r (s+1) l (s+1) 0
def QM(n:Int):Int:=if n=1 then 1 else 0
def ami(a:List Bool):Prop:=a=[]\/∃b,a=b++[false]
def ak4(c:List Bool):Prop:=c=[]\/∃b,c=false::b
def MS{r:Int}:∀(l:List Bool) (s:Int) (m:Nat) (x:RunT),x∈yy r s l (s-m) m->∃(a c:List Bool) (k:Nat),0<k/\x.ma=k/\x.row=r/\x.fi=s-m+a.length/\ami a/\ak4 c/\List.replicate m true++l=a++(List.replicate k true++c)
 |[],s,m,x,h=>by
  simp only[yy]at h;by_cases h2:(0:Int)<m
  ·rw[aq h2]at h;have:=nL.mp h;subst this;exact⟨[],[],m,by omega,rfl,rfl,by simp,Or.inl rfl,Or.inl rfl,by simp⟩
  ·rw[ap h2]at h;cases h
 |true::l,s,m,x,h=>by
  simp only[yy]at h;have h2:x∈yy r (s+1) l (s+1-((m+1:Nat):Int)) ((m+1:Nat):Int):=by rw[show s+1-((m+1:Nat):Int)=s-m by omega,show((m+1:Nat):Int)=(m:Int)+1 by omega];exact h
  obtain⟨a,c,k,e1,e2,e3,e4,e5,e6,e7⟩:=MS l (s+1) (m+1) x h2;refine⟨a,c,k,e1,e2,e3,by omega,e5,e6,?_⟩;rw[<-e7,List.replicate_succ',mA];rfl
 |false::l,s,m,x,h=>by
  simp only[yy]at h;rcases py.mp h with h|h
  ·by_cases h2:(0:Int)<m
   ·rw[aq h2]at h;have:=nL.mp h;subst this;exact⟨[],false::l,m,by omega,rfl,rfl,by simp,Or.inl rfl,Or.inr ⟨l,rfl⟩,by simp⟩
   ·rw[ap h2]at h;cases h
  ·have h2:x∈yy r (s+1) l (s+1-((0:Nat):Int)) ((0:Nat):Int):=by rw[show s+1-((0:Nat):Int)=s+1 by omega];exact h
   obtain⟨a,c,k,e1,e2,e3,e4,e5,e6,e7⟩:=MS l (s+1) 0 x h2;simp only[List.replicate_zero,lM]at e7;refine⟨List.replicate m true++false::a,c,k,e1,e2,e3,?_,?_,e6,?_⟩
   ·rw[cT,xT,cG,e4];omega
   ·rcases e5 with e5|⟨b,e5⟩
    ·subst e5;exact Or.inr ⟨List.replicate m true,rfl⟩
    ·subst e5;exact Or.inr ⟨List.replicate m true++false::b,by simp⟩
   ·rw[e7];simp
def DI(l:List Bool)(f m:Nat):List Bool:=(l.drop f).take m
def Ba(l:List Bool):Nat->Nat->List Nat->List RunT
 |_,_,[]=>[]
 |r,f,m::t=>yy r f (DI l f m) f 0++Ba l (r+1) (f+m) t
def VD(l:List Bool)(f m:Nat):(DI l f m).length<=m:=by unfold DI;rw[fu];exact Nat.min_le_left _ _
end Go.Proofs.YtmaoneengdafhaaGreatDoor
namespace Go.Eng
open Go
section
variable [ah]
section
variable {P:ag} {W:AW} {r:Nat} {m:Int->Option ad} {n:Nat} {t kt e:ae}
def A1(l:List (Int×ad×Nat)):List MapEntry:=l.map λp=>{key:=.int .u32 p.1,val:=p.2.1,born:=p.2.2}
def Ip(l:List (Int×ad×Nat))(k:Int):∀i,Instr.findNow (.int .u32) (.int .u32 k) (A1 l) i=some (pG l k i):=by
 induction l with
 |nil=>intro i;rfl
 |cons p l ih=>
  intro i;show(match Instr.sameNow (.int .u32) (.int .u32 k) (.int .u32 p.1)with|some true=>some (some (i,p.2.1))|some false=>Instr.findNow (.int .u32) (.int .u32 k) (A1 l) (i+1)|none=>none)=_;unfold pG;by_cases h:k=p.1
  ·have:Instr.sameNow (.int .u32) (.int .u32 k) (.int .u32 p.1)=some true:=by simp[Instr.sameNow,h]
   rw[this,aq h]
  ·have:Instr.sameNow (.int .u32) (.int .u32 k) (.int .u32 p.1)=some false:=by simp[Instr.sameNow,h]
   rw[this,ap h];exact ih (i+1)
def Vd(W:AW)(r:Nat)(m:Int->Option ad)(n:Nat):Prop:=∃l c,W.get r=some (.map (A1 l) c)/\(jM l).Nodup/\l.length=n/\∀k,FT l k=m k
def Od(l:List (Int×ad×Nat)):eI (A1 l)=true:=by unfold eI A1;rw[List.all_map,cw];intro p _;rfl
def Ev(hk:P.underlying kt=some (.int .u32))(empty:Bool)(k:Int):rL P empty kt (.int .u32 k)=true:=by
 unfold rL;have:bW P (Instr.checkKey empty 10000 kt (.int .u32 k))=some ():=by unfold Instr.checkKey;simp only[eT,dV hk,bL];rfl
 rw[this];rfl
def AY(hk:P.underlying kt=some (.int .u32))(l:List (Int×ad×Nat))(k:Int):tr P kt (.int .u32 k) (A1 l)=some (pG l k 0):=by unfold tr OP;have hp:bC (.int .u32 k)=true/\eI (A1 l)=true:=⟨rfl,Od l⟩;simp only[aq hp,hk,Ip]
def WM(h:Vd W r m n)(ht:P.underlying t=some (.map kt e))(hk:P.underlying kt=some (.int .u32)){z:ad}(hz:iM P e=some z)(k:Int):pT P t (.map (some r)) (.int .u32 k) false W=some ((m k).getD z,W):=by
 obtain⟨l,c,hg,hn,hl,hm⟩:=h;unfold pT ll;simp only[ht,hg,Ev hk,ba,AY hk];rw[<-hm k,wP l k 0];unfold uY;cases pG l k 0 with
 |none=>simp only[hz];rfl
 |some q=>rfl
def S4(h:Vd W r m n)(ht:P.underlying t=some (.map kt e))(hk:P.underlying kt=some (.int .u32))(k:Int)(v:ad):∃es c,ii P t (.map (some r)) (.int .u32 k) v W=some (ak,W.put r (.map es c))/\Vd (W.put r (.map es c)) r (λx=>if x=k then some v else m x) (if(m k).isSome then n else n+1):=by
 obtain⟨l,c,hg,hn,hl,hm⟩:=h;have Pg:m k=(pG l k 0).map (·.2):=by rw[<-hm k,wP l k 0]
 cases hf:pG l k 0 with
 |none=>
  obtain⟨h1,h2⟩:=vZ hf;rw[hf]at Pg;refine⟨A1 (l++[(k,v,c)]),c+1,?_,l++[(k,v,c)],c+1,AW.aW _ _ _,?_,?_,λx=>by rw[h2,hm]⟩
  ·unfold ii gJ;simp only[ht,hg,Ev hk,ba,AY hk,hf,cF];unfold A1;rw[qI];rfl
  ·unfold jM at h1 hn|-;rw[qI,C9];refine⟨hn,by simp,λa ha b hb Uk=>?_⟩;simp only[kg,li,nL]at hb;subst hb;subst Uk;exact h1 ha
  ·rw[Pg];simp[hl]
 |some q=>
  obtain⟨j,v0⟩:=q;obtain⟨_,⟨b,h2,h3⟩,-,-,-,h7⟩:=wn hn hf;rw[zK]at h2 h3 h7;rw[hf]at Pg;refine⟨A1 (l.set j (k,v,b)),c,?_,l.set j (k,v,b),c,AW.aW _ _ _,by rw[h7];exact hn,by rw[Pg];simp[hl],λx=>by rw[h3,hm]⟩;have he:(A1 l)[j]? =some {key:=.int .u32 k,val:=v0,born:=b}:=by unfold A1;rw[jH,h2];rfl
  have hs:Instr.sameBits 10000 (.int .u32 k) (.int .u32 k)=true:=by unfold Instr.sameBits;simp
  have nQ:bC (.int .u32 k)=true:=rfl;unfold ii gJ;simp only[ht,hg,Ev hk,ba,AY hk,hf,cF,he,hs,nQ,lF];unfold A1;rw[List.map_set]
def WT:Vd (W.add (.map [] 0)) W.next (λ_=>none) 0:=⟨[],0,AW.aH _ _,by simp[jM],rfl,λk=>rfl⟩
end
end
end Go.Eng
namespace Go.Eng
open Go Go.RowKit
section
variable [ah]
def VI(P:ag)(bO:Nat):Nat->List rq->Bool
 |off,[]=>off==bO
 |off,f::fs=>f.offset==off&&VI P bO (off+P.cellsOf f.type) fs
def Nf(P:ag):Nat->ae->Bool
 |0,_=>false
 |n+1,t=>match P.underlying t with
  |some .bool=>true
  |some (.int _)=>true
  |some .string=>true
  |some (.struct fs)=>VI P (P.cellsOf t) 0 fs.toList&&fs.toList.all λf=>Nf P n f.type
  |some (.slice e)=>decide (0<P.cellsOf e)&&Nf P n e
  |_=>false
def yS(g:ae->List ad->Prop):List ae->List ad->Prop
 |[],cs=>cs=[]
 |t::ts,cs=>∃c1 c2,cs=c1++c2/\g t c1/\yS g ts c2
def yS.imp{g g':ae->List ad->Prop}(h:∀t cs,g t cs->g' t cs):∀{ts:List ae} {cs:List ad},yS g ts cs->yS g' ts cs
 |[],_,hc=>hc
 |_::_,_,⟨c1,c2,e,h1,h2⟩=>⟨c1,c2,e,h _ _ h1,yS.imp h h2⟩
def DR(P:ag)(W:AW):Nat->ae->List ad->Prop
 |0,_,_=>False
 |n+1,t,cs=>match P.underlying t with
  |some .bool=>∃b,cs=[.bool b]
  |some (.int k)=>∃m,cs=[.int k m]/\k.min<=m/\m<=k.max
  |some .string=>∃s:ByteArray,cs=[.string s]/\s.size<9223372036854775808
  |some (.struct fs)=>yS (DR P W n) (fs.toList.map (·.type)) cs
  |some (.slice e)=>∃a len cap,cs=[.slice a len cap]/\len<=cap/\cap<dY/\(a=none\/∃b,a=some ⟨b,0,none⟩)/\(len=0\/∃(b:Nat) (l:List (List ad)),a=some ⟨b,0,none⟩/\b<W.next/\aC W b=some l.flatten/\l.length=len/\∀c∈l,c.length=P.cellsOf e/\DR P W n e c)
  |_=>False
def DR.mono{P:ag}{W W':AW}(aS:Le W W'):∀{n:Nat} {t:ae} {cs:List ad},DR P W n t cs->DR P W' n t cs:=by
 intro n;induction n with
 |zero=>intro t cs h;exact h.elim
 |succ n ih=>
  intro t cs h;unfold DR at h|-;split at h
  ·exact h
  ·exact h
  ·exact h
  ·exact yS.imp (λt cs h=>ih h) h
  ·obtain⟨a,len,cap,e1,e2,e3,e3',h⟩:=h;refine⟨a,len,cap,e1,e2,e3,e3',?_⟩;rcases h with h|⟨b,l,e4,e5,e6,e7,h⟩
   ·exact .inl h
   ·exact .inr ⟨b,l,e4,eE e5 aS.next,(aS.aC e5).trans e6,e7,λc hc=>⟨(h c hc).1,ih (h c hc).2⟩⟩
  ·exact h
structure iZ (σ:cI) (W:AW) (w:am):Prop where
 rel:bg σ W w.heap
 ro:Gr σ W
 some_:∃b g,σ b=some g
def iZ.add{σ:cI}{W:AW}{w:am}(h:iZ σ W w){B s:Nat}{cs:List ad}{c:Array ad}{t:ae}{fr:Nat×Nat}(hB:w.heap[B]? =some (.cells c t fr))
 (hc:∀(i:Nat) (v:ad),cs[i]? =some v->∃v',c[s+i]? =some v'/\VR σ v v'):
 iZ (bP σ W.next ⟨B,s,s+cs.length⟩) (W.add (.ro cs)) w/\Sub σ (bP σ W.next ⟨B,s,s+cs.length⟩):=by
 have Ap:=h.rel.fresh;have hs:Sub σ (bP σ W.next ⟨B,s,s+cs.length⟩):=dd Ap;have kW:B<w.heap.size:=(dC.1 hB).1;have ee:∀{x:Nat},x≠W.next->(W.add (.ro cs)).get x=W.get x:=λhx=>W.aD _ (aV hx)
 have pk:∀x g,bP σ W.next ⟨B,s,s+cs.length⟩ x=some g->(x=W.next/\g=⟨B,s,s+cs.length⟩)\/(x≠W.next/\σ x=some g):=λx g hc=>by
  unfold bP at hc;split at hc
  ·rename_i hx;injection hc with hc;exact .inl ⟨hx,hc.symm⟩
  ·rename_i hx;exact .inr ⟨hx,hc⟩
 have qg:Gr (bP σ W.next ⟨B,s,s+cs.length⟩) (W.add (.ro cs)):=by
  intro x g hx;rcases pk x g hx with⟨rfl,rfl⟩|⟨h1,h2⟩
  ·exact⟨cs,AW.aH _ _⟩
  ·obtain⟨ck,pS⟩:=h.ro x g h2;exact⟨ck,by rw[ee h1];exact pS⟩
 refine⟨⟨⟨?_,?_,?_,?_⟩,qg,?_⟩,hs⟩
 ·intro x hx;rw[AW.ar]at hx;rw[ee (by omega)];exact h.rel.free x (by omega)
 ·intro x g hx;rw[AW.ar];rcases pk x g hx with⟨rfl,rfl⟩|⟨_,h2⟩
  ·exact⟨by omega,kW⟩
  ·have:=h.rel.m8 x g h2;exact⟨by omega,this.2⟩
 ·intro x o g hx hk;rcases pk x g hk with⟨rfl,rfl⟩|⟨h1,h2⟩
  ·rw[AW.aH]at hx;injection hx with hx;subst hx;exact⟨c,t,fr,hB,aM _,λi v hv=>let⟨v',a,b⟩:=hc i v hv;⟨v',a,b.mono hs⟩⟩
  ·rw[ee h1]at hx;exact(h.rel.obj x o g hx h2).mono hs
 ·intro b1 b2 o1 o2 g1 g2 Mk h1 h2 k1 k2 hr;obtain⟨c1,e1⟩:=qg b1 g1 k1;obtain⟨c2,e2⟩:=qg b2 g2 k2;rw[h1]at e1;rw[h2]at e2;injection e1 with e1;injection e2 with e2;subst e1;subst e2;simp[Sy]at hr
 ·obtain⟨b,g,hb⟩:=h.some_;exact⟨b,g,hs b g hb⟩
def G2{w:am}{base:Nat}{a:aP}{n:Nat}{cs:List ad}(h:w.cells? base a n=some cs)(hn:0<n):∃c t fr,w.heap[a.block]? =some (.cells c t fr)/\a.spot=none/\cs.length=n/\∀i,i<n->c[a.off+i]? =cs[i]? :=by
 unfold World.cells? at h;split at h;case isFalse=>cases h
 have hl:=mapM_some_length h;rw[CW]at hl;have hg:∀i,i<n->w.cell? (a.add i)=cs[i]? :=λi hi=>mapM_some_get h i i (by simp[hi])
 have h0:=hg 0 hn;have e0:a.add 0=a:=by simp[Addr.add]
 rw[e0,bS (by omega)]at h0;unfold World.cell? at h0;split at h0;case h_2=>cases h0
 rename_i c t fr hh;split at h0;case isTrue=>cases h0
 rename_i tI;refine⟨c,t,fr,hh,by simpa using tI,hl,λi hi=>?_⟩;rw[<-hg i hi];unfold World.cell?;have eb:(a.add i).block=a.block:=by unfold Addr.add;split<;>rfl
 have eo:(a.add i).off=a.off+i:=by unfold Addr.add;split<;>simp_all
 have es:(a.add i).spot=none:=by unfold Addr.add;split<;>simp_all
 rw[eb,hh];simp only[es,eo,ql,nH,cV]
section
variable {H:Type} {enc:ae×ad->H} {P:ag} {w:am}
def UI(P:ag)(w:am)(n:Nat)(t:ae)(ck:List ad):Prop:=∀σ W,iZ σ W w->∃σ2 W2 cs,iZ σ2 W2 w/\Sub σ σ2/\Le W W2/\LR σ2 cs ck/\DR P W2 n t cs
def zt{n:Nat}{bO:Nat}{ck:List ad}(hl:ck.length=bO):∀{fs:List rq} {off:Nat},VI P bO off fs=true->(∀f∈fs,UI P w n f.type ((ck.drop f.offset).take (P.cellsOf f.type)))->
 ∀σ W,iZ σ W w->∃σ2 W2 cs,iZ σ2 W2 w/\Sub σ σ2/\Le W W2/\LR σ2 cs (ck.drop off)/\yS (DR P W2 n) (fs.map (·.type)) cs
 |[],off,h,_,σ,W,ho=>by unfold VI at h;have:=wq.1 h;refine⟨σ,W,[],ho,.refl _,.refl _,?_,rfl⟩;rw[Ih (by omega)];exact .nil
 |f::fs,off,h,hf,σ,W,ho=>by
  unfold VI at h;simp only[a8]at h;have Eo:=wq.1 h.1;obtain⟨σ1,W1,c1,o1,s1,l1,r1,a1⟩:=hf f (by simp) σ W ho;obtain⟨σ2,W2,c2,o2,s2,l2,r2,a2⟩:=zt hl h.2 (λg hg=>hf g (by simp[hg])) σ1 W1 o1;refine⟨σ2,W2,c1++c2,o2,s1.trans s2,l1.trans l2,?_,c1,c2,rfl,a1.mono l2,a2⟩;rw[Eo]at r1;have e:ck.drop off=(ck.drop off).take (P.cellsOf f.type)++ck.drop (off+P.cellsOf f.type):=by rw[<-pM,Fv]
  rw[e];exact(r1.mono s2).append r2
def Ep{n z:Nat}{e:ae}:∀{LL:List (List ad)},(∀c∈LL,c.length=z/\UI P w n e c)->
 ∀σ W,iZ σ W w->∃(σ2:cI) (W2:AW) (l:List (List ad)),iZ σ2 W2 w/\Sub σ σ2/\Le W W2/\LR σ2 l.flatten LL.flatten/\l.length=LL.length/\∀c∈l,c.length=z/\DR P W2 n e c
 |[],_,σ,W,ho=>⟨σ,W,[],ho,.refl _,.refl _,.nil,rfl,by simp⟩
 |c0::LL,h,σ,W,ho=>by
  obtain⟨σ1,W1,c1,o1,s1,l1,r1,a1⟩:=(h c0 (by simp)).2 σ W ho;obtain⟨σ2,W2,l,o2,s2,l2,r2,e2,a2⟩:=Ep (LL:=LL) (λc hc=>h c (by simp[hc])) σ1 W1 o1;refine⟨σ2,W2,c1::l,o2,s1.trans s2,l1.trans l2,?_,by simp[e2],?_⟩
  ·rw[List.flatten_cons,List.flatten_cons];exact(r1.mono s2).append r2
  ·intro c hc;rcases dD.1 hc with rfl|hc
   ·exact⟨by rw[r1.1];exact(h c0 (by simp)).1,a1.mono l2⟩
   ·exact a2 c hc
def LY(L:List ad)(o z:Nat):∀n,((List.range n).map λi=>(L.drop (o+i*z)).take z).flatten=(L.drop o).take (n*z)
 |0=>by simp
 |n+1=>by rw[ux,qI,List.flatten_append,LY L o z n,Nat.succ_mul,List.take_add,pM];simp
def xX:∀{n m:Nat} {t:ae} {ck:List ad} {x:bN H×List cx},Nf P n t=true->DataW.trod enc P w 0 (λ_=>true) true m t ck=some x->UI P w n t ck:=by
 intro n;induction n with
 |zero=>intro m t ck x h;cases h
 |succ n ih=>
  intro m t ck x h hx σ W ho;unfold Nf at h;split at h
  ·rename_i ht;obtain⟨b,rfl,_⟩:=DataW.trod_bool ht hx;exact⟨σ,W,[.bool b],ho,.refl _,.refl _,.cons (.bool b) .nil,by unfold DR;rw[ht];exact⟨b,rfl⟩⟩
  ·rename_i k ht;obtain⟨z,rfl,_,hwf⟩:=DataW.trod_int ht hx;simp only[Lit.wf,a8,gG]at hwf;exact⟨σ,W,[.int k z],ho,.refl _,.refl _,.cons (.int k z) .nil,by unfold DR;rw[ht];exact⟨z,rfl,hwf⟩⟩
  ·rename_i ht;obtain⟨s,rfl,_,hs⟩:=DataW.trod_string ht hx;exact⟨σ,W,[.string s],ho,.refl _,.refl _,.cons (.string s) .nil,by unfold DR;rw[ht];exact⟨s,rfl,by unfold maxLen at hs;omega⟩⟩
  ·rename_i fs ht;simp only[a8,cw]at h;obtain⟨xs,m',_,_,hl,eG,hf⟩:=DataW.trod_struct ht hx;have:=zt (P:=P) (w:=w) (n:=n) hl h.1 (λf hfm=>by
    obtain⟨i,hi,rfl⟩:=zb hfm;have ZP:i<fs.size:=by simpa using hi
    have h1:=hf i fs[i] (by rw[hZ ZP]);rw[bS (by omega)]at h1;have e:fs.toList[i]=fs[i]:=by simp
    rw[e];exact ih (by rw[<-e];exact h.2 _ hfm) h1) σ W ho;obtain⟨σ2,W2,cs,o2,s2,l2,r2,a2⟩:=this;rw[jF]at r2;exact⟨σ2,W2,cs,o2,s2,l2,r2,by unfold DR;rw[ht];exact a2⟩
  ·rename_i e ht;simp only[a8,gG]at h;obtain⟨hz,wu⟩:=h;have mk:∀{W2:AW} {a:Option aP} {len cap:Nat},len<=cap->cap<dY->(a=none\/∃b,a=some ⟨b,0,none⟩)->(len=0\/∃(b:Nat) (l:List (List ad)),a=some ⟨b,0,none⟩/\b<W2.next/\aC W2 b=some l.flatten/\l.length=len/\∀c∈l,c.length=P.cellsOf e/\DR P W2 n e c)->DR P W2 (n+1) t [.slice a len cap]:=λh1 h2 FB h3=>by unfold DR;rw[ht];exact⟨_,_,_,rfl,h1,h2,FB,h3⟩
   rcases DataW.trod_slice ht hx with⟨rfl,_⟩|⟨a,len,cap,aoc,iB,m',_,rfl,_,_,Zi,m5,hel,aS,tI,_⟩
   ·exact⟨σ,W,[.slice none 0 0],ho,.refl _,.refl _,.cons (.DO 0 0) .nil,mk (aM _) (by unfold dY;omega) (.inl rfl) (.inl rfl)⟩
   obtain⟨hrl,Ko⟩:=tI rfl;have Z7:cap<dY:=by unfold maxLen at m5;unfold dY;omega
   by_cases hc0:cap=0
   ·obtain rfl:len=0:=by omega
    subst hc0;obtain⟨b,g,hg⟩:=ho.some_;exact⟨σ,W,[.slice (some ⟨b,0,none⟩) 0 0],ho,.refl _,.refl _,.cons (.cX ⟨b,0,none⟩ a 0 g hg (.inl rfl)) .nil,mk (aM _) (by unfold dY;omega) (.inr ⟨b,rfl⟩) (.inl rfl)⟩
   ·
    have tY:∀i,i<cap->∃ci,w.cells? 0 (a.add (i*P.cellsOf e)) (P.cellsOf e)=some ci/\∃x,DataW.trod enc P w 0 (λ_=>true) true m' e ci=some x:=by
     intro i hi;by_cases hil:i<len
     ·have h1:=aS i hil;rw[bS (by omega)]at h1;obtain⟨ci,h2,h3⟩:=Option.bind_eq_some_iff.1 h1;exact⟨ci,h2,_,h3⟩
     ·have h1:=Ko (i-len) (by omega);rw[bS (by omega),show len+(i-len)=i by omega]at h1;obtain⟨ci,h2,h3⟩:=Option.bind_eq_some_iff.1 h1;exact⟨ci,h2,_,h3⟩
    obtain⟨c0,afJ,_⟩:=tY 0 (by omega);have ea0:a.add (0*P.cellsOf e)=a:=by simp[Addr.add]
    rw[ea0]at afJ;obtain⟨c,tt,fr,hB,aba,_,_⟩:=G2 afJ hz;have hci:∀i,i<cap->∃x,((c.toList.drop (a.off+i*P.cellsOf e)).take (P.cellsOf e)).length=P.cellsOf e/\DataW.trod enc P w 0 (λ_=>true) true m' e ((c.toList.drop (a.off+i*P.cellsOf e)).take (P.cellsOf e))=some x:=by
     intro i hi;obtain⟨ci,h1,x,h2⟩:=tY i hi;obtain⟨c2,t2,fr2,Sl,_,zS,tL⟩:=G2 h1 hz;have eb:(a.add (i*P.cellsOf e)).block=a.block:=by unfold Addr.add;split<;>rfl
     have eo:(a.add (i*P.cellsOf e)).off=a.off+i*P.cellsOf e:=by unfold Addr.add;split<;>simp_all
     rw[eb,hB]at Sl;injection Sl with Sl;injection Sl with Sl;subst Sl;rw[eo]at tL;have ec:(c.toList.drop (a.off+i*P.cellsOf e)).take (P.cellsOf e)=ci:=by
      apply vw;intro j;by_cases hj:j<P.cellsOf e
      ·rw[lD,aq hj,qn,rY];exact tL j hj
      ·rw[lD,ap hj,iE (by omega)]
     rw[ec];exact⟨x,zS,h2⟩
    obtain⟨σ1,W1,l,o1,s1,l1,r1,e1,a1⟩:=Ep (P:=P) (w:=w) (n:=n) (z:=P.cellsOf e) (e:=e) (LL:=(List.range len).map λi=>(c.toList.drop (a.off+i*P.cellsOf e)).take (P.cellsOf e)) (λci hm=>by
     obtain⟨i,hi,rfl⟩:=mE.1 hm;rw[nF]at hi;obtain⟨x,h1,h2⟩:=hci i (by omega);exact⟨h1,ih wu h2⟩) σ W ho;rw[LY]at r1;rw[gV,CW]at e1;obtain⟨o2,s2⟩:=o1.add (s:=a.off) (cs:=l.flatten) hB (λi v hv=>by
     obtain⟨v',Yl,hr⟩:=r1.get hv;refine⟨v',?_,hr⟩;rw[lD]at Yl;split at Yl
     ·rw[qn,rY]at Yl;exact Yl
     ·cases Yl);have lw:Le W1 (W1.add (.ro l.flatten)):=(Le.refl W1).add _;have ev:(⟨a.block,a.off+0,none⟩:aP)=a:=by
     obtain⟨b,o,s⟩:=a;simp only at aba;subst aba;rfl
    have hv:VR (bP σ1 W1.next ⟨a.block,a.off,a.off+l.flatten.length⟩) (.slice (some ⟨W1.next,0,none⟩) len cap) (.slice (some ⟨a.block,a.off+0,none⟩) len cap):=
     .slice ⟨W1.next,0,none⟩ len cap cap ⟨a.block,a.off,a.off+l.flatten.length⟩ cZ rfl (.known cap Z7)
    rw[ev]at hv;refine⟨_,_,[.slice (some ⟨W1.next,0,none⟩) len cap],o2,s1.trans s2,l1.trans lw,.cons hv .nil,mk Zi Z7 (.inr ⟨W1.next,rfl⟩) (.inr ⟨W1.next,l,rfl,by rw[AW.ar];omega,Fm (W1.aH _),e1,λci hm=>⟨(a1 ci hm).1,(a1 ci hm).2.mono lw⟩⟩)⟩
  ·cases h
end
end
end Go.Eng
namespace Go.Eng
open Go Go.RowKit Go.ChangeShapes Go.WideShapes
section
variable [ah]
section
variable {P:ag} {W:AW} {α:Type}
def DR.int{n:Nat}{t:ae}{cs:List ad}{k:aO}(h:DR P W (n+1) t cs)(ht:P.underlying t=some (.int k)):∃m,cs=[.int k m]:=by unfold DR at h;rw[ht]at h;obtain⟨m,h,_⟩:=h;exact⟨m,h⟩
def DR.am8{n:Nat}{t:ae}{cs:List ad}{k:aO}(h:DR P W (n+1) t cs)(ht:P.underlying t=some (.int k)):∃m,cs=[.int k m]/\k.min<=m/\m<=k.max:=by unfold DR at h;rw[ht]at h;exact h
def DR.str{n:Nat}{t:ae}{cs:List ad}(h:DR P W (n+1) t cs)(ht:P.underlying t=some .string):∃s:ByteArray,cs=[.string s]/\s.size<9223372036854775808:=by unfold DR at h;rw[ht]at h;exact h
def DR.struct{n:Nat}{t:ae}{cs:List ad}{fs:Array rq}(h:DR P W (n+1) t cs)(ht:P.underlying t=some (.struct fs)):yS (DR P W n) (fs.toList.map (·.type)) cs:=by unfold DR at h;rw[ht]at h;exact h
def DR.slice{n:Nat}{t e:ae}{cs:List ad}(h:DR P W (n+1) t cs)(ht:P.underlying t=some (.slice e)):
 ∃a len cap,cs=[.slice a len cap]/\len<=cap/\cap<dY/\(len=0\/∃(b:Nat) (l:List (List ad)),a=some ⟨b,0,none⟩/\b<W.next/\aC W b=some l.flatten/\l.length=len/\∀c∈l,c.length=P.cellsOf e/\DR P W n e c):=by
 unfold DR at h;rw[ht]at h;obtain⟨a,len,cap,h1,h2,h3,_,h4⟩:=h;exact⟨a,len,cap,h1,h2,h3,h4⟩
def DR.ads{n:Nat}{t e:ae}{cs:List ad}(h:DR P W (n+1) t cs)(ht:P.underlying t=some (.slice e)):
 ∃a len cap,cs=[.slice a len cap]/\len<=cap/\cap<dY/\(a=none\/∃b,a=some ⟨b,0,none⟩)/\(len=0\/∃(b:Nat) (l:List (List ad)),a=some ⟨b,0,none⟩/\b<W.next/\aC W b=some l.flatten/\l.length=len/\∀c∈l,c.length=P.cellsOf e/\DR P W n e c):=by
 unfold DR at h;rw[ht]at h;exact h
def Ky{z:Nat}{at_:List ad->Nat->α->Prop}:∀{l:List (List ad)},(∀c∈l,c.length=z/\∃x:α,∀pre post,at_ (pre++(c++post)) pre.length x)->∀pre:List ad,
 ∃xs:List α,xs.length=l.length/\∀i (h:i<xs.length),at_ (pre++l.flatten) (pre.length+i*z) xs[i]
 |[],_,_=>⟨[],rfl,λi h=>by simp at h⟩
 |c::l,hc,pre=>by
  obtain⟨hz,x,hx⟩:=hc c (by simp);obtain⟨xs,h1,h2⟩:=Ky (l:=l) (λd hd=>hc d (by simp[hd])) (pre++c);refine⟨x::xs,by simp[h1],λi h=>?_⟩;rw[List.flatten_cons];match i with
  |0=>simpa using hx pre l.flatten
  |i+1=>have:=h2 i (by simpa using h);rw[cT,hz,mA]at this;rw[List.getElem_cons_succ,Nat.succ_mul,Nat.add_comm (i*z) z,<-i9];exact this
def aey{α:Type}(W:AW)(z:Nat)(at_:List ad->Nat->α->Prop)(v:ad)(l:List α):Prop:=Row W z at_ v l/\(∃a c,v=.slice a l.length c/\l.length<=c/\c<dY/\(l≠[]->∃b o,a=some ⟨b,o,none⟩))
def DR.row{n:Nat}{t e:ae}{cs:List ad}(h:DR P W (n+1) t cs)(ht:P.underlying t=some (.slice e)){at_:List ad->Nat->α->Prop}
 (oX:∀c,c.length=P.cellsOf e->DR P W n e c->∃x:α,∀pre post,at_ (pre++(c++post)) pre.length x):∃v l,cs=[v]/\aey W (P.cellsOf e) at_ v l:=by
 obtain⟨a,len,cap,rfl,h1,h2,h3⟩:=h.slice ht;rcases h3 with rfl|⟨b,l,rfl,h4,h5,rfl,h6⟩
 ·exact⟨_,[],rfl,⟨a,cap,rfl,.inl rfl⟩,a,cap,rfl,h1,h2,λh=>absurd rfl h⟩
 ·obtain⟨xs,e1,e2⟩:=Ky (z:=P.cellsOf e) (at_:=at_) (l:=l) (λc hc=>⟨(h6 c hc).1,oX c (h6 c hc).1 (h6 c hc).2⟩) [];refine⟨_,xs,rfl,⟨_,cap,by rw[e1],.inr ⟨b,0,l.flatten,rfl,h4,h5,λi hi=>?_⟩⟩,_,cap,by rw[e1],by omega,h2,λ_=>⟨b,0,rfl⟩⟩;have:=e2 i hi;simpa using this
def DR.ints{n:Nat}{t e:ae}{cs:List ad}{k:aO}(h:DR P W (n+2) t cs)(ht:P.underlying t=some (.slice e))(he:P.underlying e=some (.int k))(hz:P.cellsOf e=1):∃v l,cs=[v]/\aey W 1 (oQ k) v l:=by have:=h.row ht (at_:=oQ k) (λc _ hc=>by obtain⟨m,rfl⟩:=hc.int he;refine⟨m,λpre post=>?_⟩;unfold oQ;rw[qG (by omega)];simp);rwa [hz]at this
def DR.ait{n:Nat}{t e:ae}{cs:List ad}{k:aO}(h:DR P W (n+2) t cs)(ht:P.underlying t=some (.slice e))(he:P.underlying e=some (.int k))(hz:P.cellsOf e=1):∃v l,cs=[v]/\aey W 1 (oQ k) v l/\∀x∈l,k.min<=x/\x<=k.max:=by
 have:=h.row ht (at_:=λcs p m=>oQ k cs p m/\k.min<=m/\m<=k.max) (λc _ hc=>by obtain⟨m,rfl,hb⟩:=hc.am8 he;refine⟨m,λpre post=>⟨?_,hb⟩⟩;unfold oQ;rw[qG (by omega)];simp);rw[hz]at this;obtain⟨v,l,e1,⟨a,c,e2,h3⟩,h4⟩:=this;refine⟨v,l,e1,⟨⟨a,c,e2,?_⟩,h4⟩,?_⟩
 ·rcases h3 with h3|⟨b,o,cs,i1,i2,i3,i4⟩
  ·exact .inl h3
  ·exact .inr ⟨b,o,cs,i1,i2,i3,λi hi=>(i4 i hi).1⟩
 ·intro x hx;rcases h3 with h3|⟨b,o,cs,i1,i2,i3,i4⟩
  ·rw[h3]at hx;cases hx
  ·obtain⟨i,hi,rfl⟩:=List.mem_iff_getElem.1 hx;exact(i4 i hi).2
def yS.nil{g:ae->List ad->Prop}{cs:List ad}(h:yS g [] cs):cs=[]:=h
def yS.cons{g:ae->List ad->Prop}{t:ae}{ts:List ae}{cs:List ad}(h:yS g (t::ts) cs):∃c1 c2,cs=c1++c2/\g t c1/\yS g ts c2:=h
end
section
variable {H:Type} {enc:ae×ad->H} {P:ag} {w w':am} {base:Nat} {VX:Nat->Bool} {held:Bool}
def dx.same{p:cx}(hq:dx w w')(hp:p.block<w.heap.size):w.sameAt w' p:=by
 cases p with
 |cell b off=>exact World.cell?_of_block (a:=⟨b,off,none⟩) (hq.block b hp)
 |map b=>exact hq.block b hp
def dx.trodAll(hq:dx w w'):∀{ts:List ae} {vs:List ad} {ds:List (bN H)} {ps:List cx},DataW.TrodAll enc P w base VX held ts vs ds ps->DataW.TrodAll enc P w' base VX held ts vs ds ps
 |[],[],[],_,h=>h
 |_::_,_::_,_::_,_,⟨p,q,⟨n,h1⟩,h2,e⟩=>⟨p,q,⟨n,DataW.trod_carry n _ _ _ h1 (λx hx=>hq.same (DataW.trod_lt n _ _ _ h1 x hx))⟩,hq.trodAll h2,e⟩
def Rl{f:eO}{s:ChangeSpec}{args:Array ad}{ds gs:List (bN H)}{nz:List cx}{T:ae->Prop}(K:Kids P T)(hz:∀t e,T t->P.underlying t=some (.slice e)->0<P.cellsOf e)(hT:∀t∈f.params.toList,T t)
 (hW:DataW.Whole enc P f.params.toList s.vars false w args.toList ds gs nz)(hq:dx w w')(hv:s.vars=[])(Gj:s.fn H ds={results:=[.lit (.bool true)],args:=ds}){t:ae}(hr:f.resultTypes=#[t])(ht:P.underlying t=some .bool):
 s.post enc P f false true false false w args (.bool true) w':=by
 have hW':=hW;obtain⟨p,q,hA,hV,rfl,_,_⟩:=hW;rw[hv]at hV;obtain⟨rfl,rfl⟩:=trodVars_none hV;have kW:=hA.lt;refine⟨ds,[],p++[],[],p,[],hW',?_,?_,?_,hq.grown.frame _,λh=>by cases h⟩
 ·rw[hr,iD,Gj];exact trodAll_cons_mk (shut_bool ht _) trodAll_mk0
 ·rw[iD,Gj];exact hq.trodAll (hA.respare K hz hT (λx hx=>by simpa using kW x hx))
 ·rw[hv,iD,Gj];exact rfl
end
end
end Go.Eng
namespace Go.Eng
open Go
@[reducible] noncomputable def Pj (D:Nat->Array aj->Option (List (Nat×List Nat))) (ng:List Nat) (ex:ae->Bool:=λ_=>false):ah where
 D:=D
 ex:=ex
 ng:=ng
 Fr:=T ad
 En:=λR t=>(T.get (path t) R).getD ak
 VM:=λR t v=>T.set (some v) (path t) R
 blank:=.lf
 lz:=λR t v=>by rw[T.lz];rfl
 fJ:=λR t u v h=>by rw[T.fJ _ _ _ _ (wg h)]
 Aw:=λt=>by rw[T.Au];rfl
end Go.Eng
namespace Go.Eng
open Go Go.RowKit
section
variable [ah]
def Bi(F:Nat)(val:List ad->AW->Option ad):Callee:=λf args W=>match f with
 |.func (.func g) fs cs=>(match Nat.beq g F&&(fs.isEmpty&&cs.isEmpty)with
  |true=>(match val args W with
   |some v=>some (v,W)
   |none=>none)
  |false=>none)
 |_=>none
def Gm{P:ag}{ng:List Nat}{F:Nat}{fn:eO}{body:bA}(Gj:P.funcs[F]? =some fn)(mY:(fn.name== "runtime.NumGoroutine")=false)(hb:fn.body=some body){val:List ad->AW->Option ad}
 (tY:∀args W v,val args W=some v->bC v=true/\∀σ (w:am) cu,bg σ W w.heap->LR σ args cu->Calls P F cu.toArray w λe w'=>e=.returned v/\dx w w'):bI P ng (Bi F val):=by
 intro f args W v W' h σ w f' cu hW hG hf cq;unfold Bi at h;split at h;case h_2=>cases h
 rename_i g fs cs;split at h;case h_2=>cases h
 rename_i J6;simp only[a8,dM,wE]at J6;obtain⟨rfl,rfl,rfl⟩:=J6;split at h;case h_2=>cases h
 rename_i u hu;injection h with h;injection h with h1 h2;subst h1;subst h2;obtain⟨FA,tH,ck,Ap,Rj,pS,rfl⟩:=hf.jO;cases Ap;obtain rfl:tH=#[]:=by have h1:tH.toList.length=0:=Rj.1.symm;exact qz.1 (mz.1 h1)
 obtain rfl:ck=#[]:=by have h1:ck.toList.length=0:=pS.1.symm;exact qz.1 (mz.1 h1)
 obtain⟨nQ,hc⟩:=tY _ _ _ hu;refine⟨dK Gj mY hb _ w,?_⟩;have e1:(#[]:Array ad)++cu.toArray++#[]=cu.toArray:=by simp
 rw[e1];refine lL (show CallsIn Fence.wide 0 P g _ w _ from(qj (n:=0)).2 (hc σ w cu hW cq)) ?_;rintro e w' ⟨rfl,hq⟩;exact⟨_,rfl,σ,g8 nQ,hq.rel hW,hq.ext σ W⟩
def KL{w w':am}(h:Below w.heap.size w w'):dx w w':=⟨h.os,h.tape,h.output,h.size,h.block⟩
def strOf(v:ad):Option ByteArray:=match v with
 |.string s=>some s
 |_=>none
def Iv:List ad->Option (List ByteArray):=List.rec (motive:=λ_=>Option (List ByteArray)) (some []) (λv _ ih=>match strOf v with
 |some b=>ih.map (λl=>b::l)
 |none=>none)
def DE:∀{cs:List ad} {l:List ByteArray},Iv cs=some l->cs=l.map Value.string
 |[],l,h=>by injection h with h;subst h;rfl
 |v::cs,l,h=>by
  have h':(match strOf v with
   |some b=>(Iv cs).map (λl=>b::l)
   |none=>none)=some l:=h;cases hv:strOf v with
  |none=>rw[hv]at h';cases h'
  |some b0=>
   rw[hv]at h';cases hb:Iv cs with
   |none=>rw[hb]at h';cases h'
   |some l0=>rw[hb]at h';injection h' with h';subst h';rw[DE hb];cases v<;>first|(injection hv with hv;subst hv;rfl)|cases hv
def J5(xs:List ByteArray)(sep:ByteArray):List UInt8:=Lib.join (xs.map (·.data.toList)) sep.data.toList
def yA(args:List ad)(W:AW):Option ad:=match args with
 |[.slice (some a) n c,.string sep]=>(match bM W (.slice (some a) n c) n with
  |some cs=>(match Iv cs with
   |some xs=>if 0<n/\n<=1099511627776/\n<=c/\(J5 xs sep).length<=1099511627776 then some (.string ⟨(J5 xs sep).toArray⟩)else none
   |none=>none)
  |none=>none)
 |_=>none
def MF{args:List ad}{W:AW}{v:ad}(h:yA args W=some v):∃a n c sep xs,args=[.slice (some a) n c,.string sep]/\bM W (.slice (some a) n c) n=some (xs.map Value.string)/\0<n/\n<=1099511627776/\n<=c/\(J5 xs sep).length<=1099511627776/\v=.string ⟨(J5 xs sep).toArray⟩:=by
 unfold yA at h;split at h;case h_2=>cases h
 rename_i a n c sep;split at h;case h_2=>cases h
 rename_i cs pS;split at h;case h_2=>cases h
 rename_i xs Za;split at h;case isFalse=>cases h
 rename_i hc;injection h with h;have:=DE Za;subst this;exact⟨a,n,c,sep,xs,rfl,pS,hc.1,hc.2.1,hc.2.2.1,hc.2.2.2,h.symm⟩
def MC{P:ag}{F:Nat}(hJ:∀(bk o c:Nat) (xs:List ByteArray) (sep:ByteArray) (w:am),(∀(j:Nat) x,xs[j]? =some x->w.cell? ⟨bk,o+j,none⟩=some (.string x))->bk<w.heap.size->xs.length<=140737488355328->xs.length<=c->
 (Lib.join (xs.map (·.data.toList)) sep.data.toList).length<=140737488355328->
 Calls P F #[.slice (some ⟨bk,o,none⟩) xs.length c,.string sep] w λe w'=>e=.returned (.string ⟨(Lib.join (xs.map (·.data.toList)) sep.data.toList).toArray⟩)/\Below w.heap.size w w')
 {args:List ad}{W:AW}{v:ad}(h:yA args W=some v):bC v=true/\∀σ (w:am) cu,bg σ W w.heap->LR σ args cu->Calls P F cu.toArray w λe w'=>e=.returned v/\dx w w':=by
 obtain⟨a,n,c,sep,xs,rfl,hr,h0,hn,Xr,hl,rfl⟩:=MF h;refine⟨rfl,λσ w cu hW cq=>?_⟩;obtain⟨v',l',rfl,hv,hl1⟩:=cq.of_cons;obtain⟨s',Xo,rfl,hs,zS⟩:=hl1.of_cons;obtain rfl:=zS.of_nil;have EP:s'=.string sep:=VR.xV hs;subst EP;cases hv with
 |cX=>omega
 |slice _ _ _ c' g hg tI hc=>
  have SR:n<=c':=by rcases hc.inv with⟨_,h2⟩|⟨_,_,_,h2,_⟩<;>omega
  obtain⟨a',c2,ck,e,h1,h2,h3⟩:=fz (z:=1) hW (by rw[jE];exact hr) (.slice a n c c' g hg tI hc) (by omega);injection e with e1 e2 e3;injection e1 with e1;subst e1;subst e3;rw[jE,gV]at h2;have hB:=(hW.m8 _ _ hg).2;have:=hJ g.B (g.s+a.off) c' xs sep w (λj x hj=>by obtain⟨u,u1,u2⟩:=h1.get (show(xs.map Value.string)[j]? =some (.string x)by rw[jH,hj];rfl);have h4:=h3 j u u1;rw[cP]at h4;cases u2;exact h4) hB (by omega) (by omega) (by unfold J5 at hl;omega);rw[h2]at this;exact this.mono λe w' ⟨he,hb⟩=>⟨he,KL hb⟩
def PD(F:Nat)(T:ae):Callee:=λf args W=>match f with
 |.func (.func g) fs cs=>(match Nat.beq g F&&(fs.isEmpty&&cs.isEmpty)with
  |true=>(match args with
   |[.pointer (some ⟨b,0,none⟩)]=>(match W.get b with
    |some (.tc t [p,s])=>if t=T then(match p with
     |.pointer none=>some (.tuple #[],W.put b (.tc T [.pointer (some ⟨b,0,none⟩),s]))
     |.pointer (some ⟨b2,0,none⟩)=>if b2=b then some (.tuple #[],W)else none
     |_=>none)else none
    |_=>none)
   |_=>none)
  |false=>none)
 |_=>none
def TG{P:ag}{ng:List Nat}{F:Nat}{T:ae}{fn:eO}{body:bA}(Gj:P.funcs[F]? =some fn)(mY:(fn.name== "runtime.NumGoroutine")=false)(hb:fn.body=some body)(Df:ah.ex T=true)
 (ahe:∀(b:Nat) (w:am),w.cell? ⟨b,0,none⟩=some (.pointer (some ⟨b,0,none⟩))->Calls P F #[.pointer (some ⟨b,0,none⟩)] w λe w'=>e=.returned (.tuple #[])/\w'=w)
 (I4:∀(b:Nat) (w:am),w.cell? ⟨b,0,none⟩=some (.pointer none)->w.shape? b=some (T,2)->w.frozen? ⟨b,0,none⟩=false->Calls P F #[.pointer (some ⟨b,0,none⟩)] w λe w'=>e=.returned (.tuple #[])/\w'=w.setCell ⟨b,0,none⟩ (.pointer (some ⟨b,0,none⟩))):
 bI P ng (PD F T):=by
 intro f args W v W' h σ w f' cu hW hG hf cq;unfold PD at h;split at h;case h_2=>cases h
 rename_i g fs cs;split at h;case h_2=>cases h
 rename_i J6;simp only[a8,dM,wE]at J6;obtain⟨rfl,rfl,rfl⟩:=J6;split at h;case h_2=>cases h
 rename_i b;split at h;case h_2=>cases h
 rename_i t p s di;split at h;case isFalse=>cases h
 rename_i hT;subst hT;obtain⟨FA,tH,ck,Ap,Rj,pS,rfl⟩:=hf.jO;cases Ap;obtain rfl:tH=#[]:=by have h1:tH.toList.length=0:=Rj.1.symm;exact qz.1 (mz.1 h1)
 obtain rfl:ck=#[]:=by have h1:ck.toList.length=0:=pS.1.symm;exact qz.1 (mz.1 h1)
 obtain⟨x',l',rfl,hx,hl⟩:=cq.of_cons;obtain rfl:=hl.of_nil;obtain⟨gs,Si,_,rfl⟩:=hx.tn;refine⟨dK Gj mY hb _ w,?_⟩;have e1:(#[]:Array ad)++[Value.pointer (some ⟨gs.B,gs.s+0,none⟩)].toArray++#[]=#[.pointer (some ⟨gs.B,gs.s+0,none⟩)]:=by simp
 rw[e1];obtain⟨a1,a2,a3,c,q1,q2,q3,q4⟩:=hW.obj b _ gs di Si;have a4:=a3.2 Df;simp only[cG,wC]at a4;rw[a1];obtain⟨p',hp1,hp2⟩:=q4 0 p rfl;obtain⟨s',HM,zA⟩:=q4 1 s rfl;have qY:c.size=2:=by omega
 split at h
 ·injection h with h;injection h with h1 h2;subst h1;subst h2;obtain rfl:p'=.pointer none:=by cases hp2;rfl
  refine lL (show CallsIn Fence.wide 0 P g _ w _ from(qj (n:=0)).2 (I4 gs.B w (by simp[World.cell?,q1,hp1]) (by simp[World.shape?,q1,qY]) (mf.afo (hW.obj b _ gs di Si) (λ_ hx=>by cases hx) (by omega) rfl))) ?_;rintro e w' ⟨rfl,rfl⟩;have oX:(w.setCell ⟨gs.B,0,none⟩ (.pointer (some ⟨gs.B,0,none⟩))).heap[gs.B]? =some (.cells (c.setIfInBounds 0 (.pointer (some ⟨gs.B,0,none⟩))) t (0,0)):=by show(w.heap.modify gs.B _)[gs.B]? =_;rw[uZ,aq rfl,q1];rfl
  obtain⟨r1,r2⟩:=hW.VL (w':=w.setCell ⟨gs.B,0,none⟩ (.pointer (some ⟨gs.B,0,none⟩))) (ck:=[.pointer (some ⟨b,0,none⟩),s]) di Si (by show(w.heap.modify _ _).size=_;simp) rfl rfl rfl
   (λB hB=>by show(w.heap.modify gs.B _)[B]? =_;rw[uZ,ap (aV hB)]) q1 oX (by simp) rfl (λi v hv=>by
    match i,hv with
    |0,hv=>simp only[Bx,gK]at hv;subst hv;refine⟨.pointer (some ⟨gs.B,gs.s+0,none⟩),?_,.ptr ⟨b,0,none⟩ gs Si rfl⟩;rw[a1];simp only[CX,fY,ba];rw[kE]
    |1,hv=>simp only[zm,Bx,gK]at hv;subst hv;exact⟨s',by rw[A8 (by omega)];exact HM,zA⟩
    |i+2,hv=>simp at hv)
  exact⟨_,rfl,σ,.undef,r1,r2⟩
 ·rename_i b2;split at h;case isFalse=>cases h
  rename_i Mk;subst Mk;injection h with h;injection h with h1 h2;subst h1;subst h2;obtain⟨g2,tL,_,rfl⟩:=hp2.tn;rw[Si]at tL;injection tL with tL;subst tL;rw[a1]at hp1;refine lL (show CallsIn Fence.wide 0 P g _ w _ from(qj (n:=0)).2 (ahe gs.B w (by simpa[World.cell?,q1]using hp1))) ?_;rintro e w' ⟨rfl,rfl⟩;exact⟨_,rfl,σ,.undef,hW,eF.refl _ _ _⟩
 ·cases h
end
end Go.Eng
