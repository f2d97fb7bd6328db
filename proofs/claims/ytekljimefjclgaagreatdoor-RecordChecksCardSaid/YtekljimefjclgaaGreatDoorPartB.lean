/- A part: contracts and laws. -/
import Derived.Test.YtekljimefjclgaaGreatDoorPartA
import Derived.LoopNIn
import Derived.RangeFuncRecord
import Derived.RowKit3
import Derived.ProofKit
import Derived.OpenShut
import Derived.Maps.RangeWalk
import Derived.Orders
import Derived.RowKit
import Derived.Sort.Grow
import Derived.ChangeArms
import Derived.ReadAgain
import Derived.Shelf.Sort.Plain
import Derived.Test.YtekljimefjclgaaGreatDoorChecked
set_option linter.unusedVariables false
set_option linter.unusedSimpArgs false
set_option linter.unusedSectionVars false
set_option linter.defProp false
noncomputable section
open Go renaming Act->aV,Addr->aP,Code->bs,DataW->bP,Deferred->dq,Exit->cS,Field->pq,Func->eV,FuncId->gn,IntKind->aN,MemPlace->dp,Oper->ao,Operand->ap,Program->ah,TypeId->ai,Value->ae,World->aq,undef->ag
namespace Go.Eng
open Go
section
variable [ak]
inductive X where
 |normal|exit (id:Nat)|ret
def X.to:X->cS
 |.normal=>.normal
 |.exit id=>.exit id
 |.ret=>.ret
def X.jump:X->Option bs
 |.normal=>none
 |.exit id=>some (.exit id)
 |.ret=>some .ret
def iQ(body:ak.Fr->AW->Option (X×ak.Fr×AW)):Nat->ak.Fr->AW->Option (X×ak.Fr×AW)
 |0,_,_=>none
 |n+1,R,W=>match body R W with
  |some (.normal,R',W')=>iQ body n R' W'
  |r=>r
def bT(P:ah)(call:Callee)(top:Bool)(nt:Nat):bs->ak.Fr->AW->Option (X×ak.Fr×AW)
 |.skip,R,W=>some (.normal,R,W)
 |.label _,R,W=>some (.normal,R,W)
 |.region id ops xE,R,W=>
  match xE with
  |false=>(ni P call ops ops.toList R W).map λr=>(.normal,r.1,r.2)
  |true=>match ak.D id ops with
   |none=>(ni P call ops ops.toList R W).map λr=>(.normal,r.1,r.2)
   |some pl=>(iI P call ops pl R W).map λr=>(.normal,r.1,r.2)
 |.seq a b,R,W=>match bT P call top nt a R W with
  |some (.normal,R',W')=>bT P call top nt b R' W'
  |r=>r
 |.cond c a b,R,W=>match aA R c with
  |.bool true=>bT P call top nt a R W
  |.bool false=>bT P call top nt b R W
  |_=>none
 |.block id b,R,W=>match bT P call top nt b R W with
  |some (.exit i,R',W')=>if i=id then some (.normal,R',W')else some (.exit i,R',W')
  |r=>r
 |.loop b,R,W=>iQ (bT P call top nt b) 1000000 R W
 |.rangeFunc f ps anD bd,R,W=>
  match top with
  |false=>none
  |true=>match aA R f with
   |.func (.func i) fs cs=>W.new (.loop .ready none R nt ps anD bd) λl W1=>
    match call (.func (.func i) fs cs) [.func (.yield l) #[] #[]] W1 with
    |some (_,W2)=>match W2.get l with
     |some (.loop st kV _ _ _ _ _)=>(match st with
      |.busy=>none
      |_=>match kV with
       |none=>some (.normal,R,W2.kill l)
       |some (.exit i)=>some (.exit i,R,W2.kill l)
       |some .ret=>some (.ret,R,W2.kill l)
       |_=>none)
     |_=>none
    |none=>none
   |_=>none
 |.exit id,R,W=>some (.exit id,R,W)
 |.ret,R,W=>some (.ret,R,W)
 |.goto _,_,_=>none
 |.scope _,_,_=>none
 |.refuse _,_,_=>none
def nF(n0:Nat)(σ:cV)(w:aq):List dq->Prop
 |[]=>True
 |d::ds=>(∃r,d={target:=.collected r,args:=#[]}/\n0<=r/\w.heap[r]? =some (.deferred (some []))/\(∀b g,σ b=some g->g.B≠r)/\
  ∀d'∈ds,∀r',d'.target=.collected r'->r'≠r)/\nF n0 σ w ds
section
variable {P:ah} {σ σ':cV} {W W':AW} {w w':aq} {n0:Nat}
def nF.ext(he:eB σ W w σ' W' w'):∀{ds:List dq},nF n0 σ w ds->nF n0 σ' w' ds:=by
 intro ds;induction ds with
 |nil=>intro _;trivial
 |cons d ds ih=>
  rintro⟨⟨r,h1,h2,h3,h4,h5⟩,Uy⟩;have hr:r<w.heap.size:=(dB.1 h3).1;have hm:¬ZB σ W r:=by rintro⟨b,g,hg,e,_⟩;exact h4 b g hg e
  refine⟨⟨r,h1,h2,(he.dK r hr hm).trans h3,λb g hg e=>?_,h5⟩,ih Uy⟩;rcases he.grow b g hg (by omega)with h|h
  ·exact h4 b g h e
  ·rw[e]at h;exact hm h
def bg.push(h:bg σ W w.heap)(x:Obj)(hx:∀c t fr,x≠ .cells c t fr):bg σ W (w.heap.push x)/\eB σ W w σ W {w with heap:=w.heap.push x}:=by
 have eG:∀B,B<w.heap.size->(w.heap.push x)[B]? =w.heap[B]? :=λB hB=>by rw[qd];rw[bZ]
 refine⟨⟨h.free,λb g hg=>?_,λb o g hb hg=>(h.obj b o g hb hg).same (eG _ (h.np b g hg).2),h.ny⟩,
  ⟨.refl _,λ_ _ h=>h,by simp,rfl,rfl,rfl,λB hB _=>eG B hB,λ_ _ h k=>⟨h,k⟩,λb g hg _=>.inl hg⟩⟩
 ·have:=h.np b g hg;simp;omega
def bg.other(h:bg σ W w.heap){r:Nat}(hr:∀b g,σ b=some g->g.B≠r)(x:Obj):bg σ W (w.heap.setIfInBounds r x):=by
 refine⟨h.free,λb g hg=>?_,λb o g hb hg=>(h.obj b o g hb hg).same ?_,h.ny⟩
 ·have:=h.np b g hg;simpa using this
 ·rw[Ce (bL (hr b g hg))]
def DE(ops:Array ao):(List.range ops.size).filterMap (λi=>ops[i]?)=ops.toList:=by
 have h1:(List.range ops.size).filterMap (λi=>ops[i]?)=(List.range ops.size).map λi=>ops.getD i default:=by
  have key:∀l:List Nat,(∀i∈l,i<ops.size)->l.filterMap (λi=>ops[i]?)=l.map λi=>ops.getD i default:=by
   intro l;induction l with
   |nil=>intro _;rfl
   |cons i l ih=>intro h;have hi:i<ops.size:=h i (by simp);simp only[List.filterMap_cons,i6,gp hi];rw[ih λj hj=>h j (by simp[hj])];simp[hi]
  exact key _ λi hi=>by simpa using hi
 rw[h1];refine tY λi=>?_
 simp only[jf,rn];by_cases hi:i<ops.size
 ·rw[zK hi];simp[hi]
 ·rw[pH (by simpa using hi)];simp[hi]
def YR{ng:List Nat}{nt:Nat}{call:Callee}(hc:bV P ng call){ops:Array ao}(iJ:∀(i:Nat) (o:ao),ops[i]? =some o->jt nt ng o=true){ro:Option Nat}{Q:cS->aV->aq->Prop}{Rf:ak.Fr}{Wf:AW}:
 ∀(l:List Nat) (σ:cV) (R:ak.Fr) (W:AW) (a:aV) (w:aq),(∀i∈l,i<ops.size)->bg σ W w.heap->tx σ ng->dS nt σ R a.tmps->
  ni P call ops (l.filterMap λi=>ops[i]?) R W=some (Rf,Wf)->
  (∀σ' a' w',dS nt σ' Rf a'.tmps->a'.defers=a.defers->bg σ' Wf w'.heap->eB σ W w σ' Wf w'->Q .normal a' w')->wpOpsIn (FE ro) 0 P ops Q l a w:=by
 intro l;induction l with
 |nil=>intro σ R W a w _ hW hG hR h hQ;injection h with h;injection h with h1 h2;subst h1;subst h2;exact hQ σ a w hR rfl hW (.refl _ _ _)
 |cons i l ih=>
  intro σ R W a w hl hW hG hR h hQ;have hi:i<ops.size:=hl i (by simp);have hg:ops[i]? =some ops[i]:=gp hi;simp only[List.filterMap_cons,hg,ni]at h;split at h;case h_2=>cases h
  rename_i R' W' hs;have yl:∀t∈(ops[i]).looksAt ops,VR σ (cR R t) (a.tmps.getD t ag):=λt ht=>hR.2 t (Hm iJ hg ht)
  have hρ:=pJ hG (iJ _ _ hg) yl;have zt:=xT yl;simp only[wpOpsIn,hg,zt];unfold jm at hs;split at hs
  ·rename_i hw;rw[ax hw];split at hs
   ·rename_i v W1 qz;injection hs with hs;injection hs with ze lX;subst ze;subst lX;refine D8 hc hW hG qz hρ λσ' v' w' hv hw' he=>?_
    exact ih σ' _ _ _ w' (λj hj=>hl j (by simp[hj])) hw' (hG.mono he.sub) ((hR.mono he.sub).put _ hv) h
     (λEb a' Pp k1 k2 k3 k4=>hQ Eb a' Pp k1 (by rw[k2,mU]) k3 (he.trans k4))
   ·cases hs
  ·rename_i hw;rw[ay hw];injection hs with hs;injection hs with ze lX;subst ze;subst lX
   exact⟨λf _=>trivial,ih σ _ _ _ w (λj hj=>hl j (by simp[hj])) hW hG (hR.put _ .undef) h
    (λEb a' Pp k1 k2 k3 k4=>hQ Eb a' Pp k1 (by rw[k2,mU]) k3 k4)⟩
end
end
section
variable [ak]
section
variable {P:ah}
def uG{x:X}{R':ak.Fr}{W':AW}{y:Option (ak.Fr×AW)}(h:(y.map λr=>((X.normal,r.1,r.2):X×ak.Fr×AW))=some (x,R',W')):x=.normal/\y=some (R',W'):=by
 cases y with
 |none=>cases h
 |some r=>simp only[cD,fI,nE]at h;obtain⟨h1,h2,h3⟩:=h;exact⟨h1.symm,by rw[<-h2,<-h3]⟩
def Wd(P:ah)(ng:List Nat)(nt n0:Nat)(ro:Option Nat)(c:bs)(x:X)(R:ak.Fr)(W:AW)(R':ak.Fr)(W':AW):Prop:=
 ∀(σ:cV) (a:aV) (w:aq) (Q:cS->aV->aq->Prop),bg σ W w.heap->tx σ ng->dS nt σ R a.tmps->nF n0 σ w a.defers->n0<=w.heap.size->
  (∀σ' a' w',dS nt σ' R' a'.tmps->nF n0 σ' w' a'.defers->bg σ' W' w'.heap->eB σ W w σ' W' w'->Q x.to a' w')->c.wpIn (FE ro) 0 P Q a w
def LP{x:X}(hx:x≠ .normal){N:aV->aq->Prop}{Q:cS->aV->aq->Prop}{a:aV}{w:aq}(h:Q x.to a w):Exit.then N Q x.to a w:=by
 cases x with
 |normal=>exact absurd rfl hx
 |exit id=>exact h
 |ret=>exact h
def Hl{x:X}{id:Nat}{Q:cS->aV->aq->Prop}{a:aV}{w:aq}(h:(match x with|.exit i=>if i=id then Q .normal a w else Q (.exit i) a w|x=>Q x.to a w)):Exit.inBlock id Q x.to a w:=by
 cases x with
 |normal=>exact h
 |exit i=>exact h
 |ret=>exact h
def QA{ng:List Nat}{nt n0:Nat}{ro:Option Nat}{b:bs}{body:ak.Fr->AW->Option (X×ak.Fr×AW)}(hb:∀x R W R' W',body R W=some (x,R',W')->Wd P ng nt n0 ro b x R W R' W'):
 ∀(m:Nat) (x:X) (R:ak.Fr) (W:AW) (R':ak.Fr) (W':AW),iQ body m R W=some (x,R',W')->x≠ .normal/\∀(σ:cV) (a:aV) (w:aq) (Q:cS->aV->aq->Prop),bg σ W w.heap->tx σ ng->dS nt σ R a.tmps->nF n0 σ w a.defers->n0<=w.heap.size->
  (∀σ' a' w',dS nt σ' R' a'.tmps->nF n0 σ' w' a'.defers->bg σ' W' w'.heap->eB σ W w σ' W' w'->Q x.to a' w')->Code.roundsIn (FE ro) 0 P b Q m a w:=by
 intro m;induction m with
 |zero=>intro x R W R' W' h;cases h
 |succ m ih=>
  intro x R W R' W' h;unfold iQ at h;split at h
  ·rename_i R1 W1 h1;obtain⟨hx,abZ⟩:=ih x R1 W1 R' W' h;refine⟨hx,λσ a w Q hW hG hR hM hn hQ=>?_⟩;refine hb _ _ _ _ _ h1 σ a w _ hW hG hR hM hn λσ1 a1 w1 k1 k2 k3 k4=>?_
   exact abZ σ1 a1 w1 Q k3 (hG.mono k4.sub) k1 k2 (fL hn k4.size) λσ2 a2 w2 g1 g2 g3 g4=>hQ σ2 a2 w2 g1 g2 g3 (k4.trans g4)
  ·rename_i fe;have hx:x≠ .normal:=by rintro rfl;exact fe R' W' h
   refine⟨hx,λσ a w Q hW hG hR hM hn hQ=>?_⟩;exact hb _ _ _ _ _ h σ a w _ hW hG hR hM hn λσ1 a1 w1 k1 k2 k3 k4=>LP hx (hQ σ1 a1 w1 k1 k2 k3 k4)
def rN(hm:P.follows .mixedOrders=true){ng:List Nat}{nt n0:Nat}(LW:ng=ak.ng){call:Callee}(hc:bV P ng call){top:Bool}{ro:Option Nat}(nS:top=true->ro=none):
 ∀(c:bs),gK nt ng c=true->∀(x:X) (R:ak.Fr) (W:AW) (R':ak.Fr) (W':AW),bT P call top nt c R W=some (x,R',W')->Wd P ng nt n0 ro c x R W R' W':=by
 intro c;induction c with
 |skip=>intro _ x R W R' W' h σ a w Q hW hG hR hM hn hQ;injection h with h;injection h with h1 h2;injection h2 with h2 h3;subst h1;subst h2;subst h3;exact wpIn_skip (hQ σ a w hR hM hW (.refl _ _ _))
 |label l=>intro _ x R W R' W' h σ a w Q hW hG hR hM hn hQ;injection h with h;injection h with h1 h2;injection h2 with h2 h3;subst h1;subst h2;subst h3;exact wpIn_label (hQ σ a w hR hM hW (.refl _ _ _))
 |exit id=>intro _ x R W R' W' h σ a w Q hW hG hR hM hn hQ;injection h with h;injection h with h1 h2;injection h2 with h2 h3;subst h1;subst h2;subst h3;exact wpIn_exit (hQ σ a w hR hM hW (.refl _ _ _))
 |ret=>intro _ x R W R' W' h σ a w Q hW hG hR hM hn hQ;injection h with h;injection h with h1 h2;injection h2 with h2 h3;subst h1;subst h2;subst h3;exact wpIn_ret (hQ σ a w hR hM hW (.refl _ _ _))
 |goto l=>intro _ x R W R' W' h;cases h
 |scope b _=>intro _ x R W R' W' h;cases h
 |refuse s=>intro _ x R W R' W' h;cases h
 |region id ops xE=>
  intro iJ x R W R' W' h σ a w Q hW hG hR hM hn hQ;simp only[gK,bB,ls,rK]at iJ;have HI:∀(i:Nat) (o:ao),ops[i]? =some o->jt nt ng o=true:=λi o ho=>cr.1 iJ.1 o (by have:=Array.mem_of_getElem? ho;simpa using this)
  unfold bT at h;split at h
  ·obtain⟨hx,hy⟩:=uG h;subst hx;refine wpIn_region (YR hc HI (List.range ops.size) σ R W a w (by simp) hW hG hR (by rw[DE];exact hy) λσ' a' w' k1 k2 k3 k4=>?_);exact hQ σ' a' w' k1 (by rw[k2];exact hM.ext k4) k3 k4
  ·have mq:Ep ops (RG ops (ak.D id ops))=true:=iJ.2.resolve_left (by simp);split at h
   ·rename_i hD;obtain⟨hx,hy⟩:=uG h;subst hx;rw[hD]at mq;refine Hi hm hc iJ.1 mq hW hG hR (Rf:=R') (Wf:=W') ?_ λσ' a' w' k1 k2 k3 k4=>hQ σ' a' w' k1 (by rw[k2];exact hM.ext k4) k3 k4
    show iI P call ops ((List.range ops.size).map λi=>(i,[])) R W=_;rw[Km _ _ _ (by simp),DE];exact hy
   ·rename_i pl hD;obtain⟨hx,hy⟩:=uG h;subst hx;rw[hD]at mq;exact Hi hm hc iJ.1 mq hW hG hR hy λσ' a' w' k1 k2 k3 k4=>hQ σ' a' w' k1 (by rw[k2];exact hM.ext k4) k3 k4
 |seq b c Ij ihc=>
  intro iJ x R W R' W' h σ a w Q hW hG hR hM hn hQ;simp only[gK,bB]at iJ;unfold bT at h;split at h
  ·rename_i R1 W1 h1;refine wpIn_seq (Ij iJ.1 _ _ _ _ _ h1 σ a w _ hW hG hR hM hn λσ1 a1 w1 k1 k2 k3 k4=>?_);exact ihc iJ.2 _ _ _ _ _ h σ1 a1 w1 Q k3 (hG.mono k4.sub) k1 k2 (fL hn k4.size) λσ2 a2 w2 g1 g2 g3 g4=>hQ σ2 a2 w2 g1 g2 g3 (k4.trans g4)
  ·rename_i fe;have hx:x≠ .normal:=by rintro rfl;exact fe R' W' h
   exact wpIn_seq (Ij iJ.1 _ _ _ _ _ h σ a w _ hW hG hR hM hn λσ1 a1 w1 k1 k2 k3 k4=>LP hx (hQ σ1 a1 w1 k1 k2 k3 k4))
 |cond o b c Ij ihc=>
  intro iJ x R W R' W' h σ a w Q hW hG hR hM hn hQ;simp only[gK,bB]at iJ;obtain⟨⟨h1,h2⟩,h3⟩:=iJ;have hv:=Dx hR hG h1;unfold bT at h;split at h
  ·rename_i he;rw[he]at hv;exact wpIn_cond_true hv.gx (Ij h2 _ _ _ _ _ h σ a w Q hW hG hR hM hn hQ)
  ·rename_i he;rw[he]at hv;exact wpIn_cond_false hv.gx (ihc h3 _ _ _ _ _ h σ a w Q hW hG hR hM hn hQ)
  ·cases h
 |block id b ih=>
  intro iJ x R W R' W' h σ a w Q hW hG hR hM hn hQ;simp only[gK]at iJ;unfold bT at h;split at h
  ·rename_i i R1 W1 h1;refine wpIn_block (ih iJ _ _ _ _ _ h1 σ a w _ hW hG hR hM hn λσ1 a1 w1 k1 k2 k3 k4=>Hl ?_);simp only;split at h
   ·rename_i hi;injection h with h;injection h with e1 e2;injection e2 with e2 e3;subst e1;subst e2;subst e3;rw[ax hi];exact hQ σ1 a1 w1 k1 k2 k3 k4
   ·rename_i hi;injection h with h;injection h with e1 e2;injection e2 with e2 e3;subst e1;subst e2;subst e3;rw[ay hi];exact hQ σ1 a1 w1 k1 k2 k3 k4
  ·rename_i fe;refine wpIn_block (ih iJ _ _ _ _ _ h σ a w _ hW hG hR hM hn λσ1 a1 w1 k1 k2 k3 k4=>Hl ?_);cases x with
   |normal=>exact hQ σ1 a1 w1 k1 k2 k3 k4
   |exit i=>exact absurd h (fe i R' W')
   |ret=>exact hQ σ1 a1 w1 k1 k2 k3 k4
 |loop b ih=>intro iJ x R W R' W' h σ a w Q hW hG hR hM hn hQ;simp only[gK]at iJ;unfold bT at h;exact wpIn_loop_rounds _ ((QA (λx R W R' W' hh=>ih iJ x R W R' W' hh) _ x R W R' W' h).2 σ a w Q hW hG hR hM hn hQ)
 |rangeFunc f ps anD bd _ _=>
  intro iJ x R W R' W' h σ a w Q hW hG hR hM hn hQ;simp only[gK,bB]at iJ;obtain⟨⟨⟨h1,h2⟩,h3⟩,h4⟩:=iJ;unfold bT at h;split at h
  ·cases h
  have GO:ro=none:=nS rfl;subst GO;split at h;case h_2=>cases h
  rename_i i0 fs0 cs0 hf0;rw[AW.dj]at h;split at h;case h_2=>cases h
  rename_i u W2 acy;split at h;case h_2=>cases h
  rename_i st kV R9 Lg K9 LV KS eM;obtain⟨p1,p2⟩:=hW.push (.deferred (some [])) (λ_ _ _ e=>by cases e);let w0:aq:={w with heap:=w.heap.push (.deferred (some []))};let D2:Nat->Loop:=λfn=>{state:=.ready,pending:=none,fn,tmps:=a.tmps,params:=ps,assign:=anD,body:=bd,defers:=w.heap.size}
  refine wpIn_rangeFunc λfn _=>?_
  have Gt:Sub σ (bR σ W.next ⟨w0.heap.size,0,1⟩):=dh hW.fresh;obtain⟨q1,q2⟩:=bg.alloc (w:=w0) p1 (o:=.loop .ready none R nt ps anD bd) (x:=.loop (D2 fn)) (e:=1)
   ⟨rfl,rfl,D2 fn,by simp,rfl,rfl,hR.mono Gt,rfl,rfl,rfl,⟨by rw[<-LW];exact hG.mono Gt,by rw[<-LW];exact h3⟩,⟨by rw[<-LW];exact hG.mono Gt,by rw[<-LW];exact h4⟩,h2⟩
  have hfv:=(Dx hR hG h1).mono Gt;rw[hf0]at hfv;have cM:LR (bR σ W.next ⟨w0.heap.size,0,1⟩) [.func (.yield W.next) #[] #[]] [.func (.yield w0.heap.size) #[] #[]]:=
   .cons (.func _ _ _ _ _ _ (.yield _ _ de) rfl (λi v v' x=>by simp at x) rfl (λi v v' x=>by simp at x)) .nil
  have VJ:=hc _ _ _ _ _ acy _ {w0 with heap:=w0.heap.push (.loop (D2 fn))} _ _ q1 (hG.mono Gt) hfv cM;have ah5:w0.heap.size=w.heap.size+1:=by simp[w0]
  have Ym:nF n0 (bR σ W.next ⟨w0.heap.size,0,1⟩) {w0 with heap:=w0.heap.push (.loop (D2 fn))} ([{target:=.collected w.heap.size,args:=#[]}]++a.defers):=by
   refine⟨⟨w.heap.size,rfl,hn,?_,?_,?_⟩,(hM.ext p2).ext q2⟩
   ·show(w0.heap.push _)[w.heap.size]? =_;rw[qd,bZ];simp[w0]
   ·intro b g hg e;unfold bR at hg;split at hg
    ·injection hg with hg;subst hg;simp at e;omega
    ·have:=(hW.np b g hg).2;omega
   ·intro d' gq r' ht e;have:∀{ds:List dq},nF n0 σ w ds->∀d'∈ds,∀r',d'.target=.collected r'->r'<w.heap.size:=by
     intro ds;induction ds with
     |nil=>intro _ d' gq;cases gq
     |cons d ds ih=>
      rintro⟨⟨r,e1,e2,e3,_⟩,Uy⟩ d' gq r' ht;rcases df.1 gq with rfl|gq
      ·rw[e1]at ht;injection ht with ht;subst ht;exact(dB.1 e3).1
      ·exact ih Uy d' gq r' ht
    have:=this hM d' gq r' ht;omega
  unfold tH at VJ;split at VJ;case h_3=>exact VJ.elim
  ·rename_i fv i fs cs ud;obtain⟨c1,c2⟩:=VJ;refine⟨w0.heap.size,[{target:=.collected w.heap.size,args:=#[]}],{w0 with heap:=w0.heap.push (.loop (D2 fn))},{target:=.fn (.func i) cs,args:=fs++#[.func (.yield w0.heap.size) #[] #[]]},{w0 with heap:=w0.heap.push (.loop (D2 fn))},i,fs++#[.func (.yield w0.heap.size) #[] #[]]++cs,{w0 with heap:=w0.heap.push (.loop (D2 fn))},?_,?_,λ_ _=>trivial,?_,λhd=>by rw[A8]at hd;simp at hd,?_⟩
   ·show(Instr.enterLoop fn a.tmps ps anD bd none).run P w=_;rw[run_enterLoop_outer,ah5];rfl
   ·show(resolve a.eval (rangeCall f w0.heap.size) 0).run P _=.ok _ {w0 with heap:=w0.heap.push (.loop (D2 fn))};have:a.eval f=.func (.func i) fs cs:=ud;have agM:a.eval (.const (.func (.yield w0.heap.size) #[] #[]))=.func (.yield w0.heap.size) #[] #[]:=rfl;simp[resolve,this,Deferred.ofValue,agM]
   ·show(invoke (.fn (.func i) cs) (fs++#[.func (.yield w0.heap.size) #[] #[]])).run P _=_;have c1':(callFunc i (fs++#[.func (.yield w0.heap.size) #[] #[]]++cs)).run P {w0 with heap:=w0.heap.push (.loop (D2 fn))}=_:=c1;simpa[invoke]using c1'
   ·refine mf (Aw c2) ?_;rintro e w' ⟨v',rfl,σ',k1,k2,k3⟩;obtain⟨hz,Yo⟩:σ' W.next=some ⟨w0.heap.size,0,1⟩/\True:=⟨k3.sub _ _ de,aB⟩;obtain⟨_,_,r,r1,r2,r3,r4,r5,r6,r7,r8,r9,bK⟩:=k2.obj _ _ _ eM hz;have ah4:st≠ .busy:=by rintro rfl;simp at h
    have aiG:=run_endLoop (P:=P) r1 (by rw[r2];exact ah4);obtain⟨s1,s2⟩:=k2.setObj (w:=w') (o':=.loop .exhausted kV R9 Lg K9 LV KS) (x:=.loop {r with state:=.exhausted}) eM (λ_=>by simp) hz ⟨rfl,rfl⟩ (λc t fr e=>by rw[r1]at e;cases e)
     ⟨rfl,rfl,{r with state:=.exhausted},by simp[(k2.np _ _ hz).2],rfl,r3,r4,r5,r6,r7,r8,r9,bK⟩
    obtain⟨t1,t2⟩:=bg.kill (w:={w' with heap:=w'.heap.setIfInBounds w0.heap.size (.loop {r with state:=.exhausted})}) s1 (b:=W.next) (g0:=⟨w0.heap.size,0,1⟩) (λcs=>by rw[AW.bE];simp) hz;have aaG:(W2.put W.next (.loop .exhausted kV R9 Lg K9 LV KS)).kill W.next=W2.kill W.next:=by simp only[AW.kill,AW.put];congr 1;exact T.set_set _ _ _ _
    rw[aaG]at t1 t2;have Hw:eB σ W w σ' (W2.kill W.next) {w' with heap:=w'.heap.setIfInBounds w0.heap.size (.loop {r with state:=.exhausted})}:=
     (((p2.trans q2).trans k3).trans s2).trans t2
    have WW:nF n0 σ' {w' with heap:=w'.heap.setIfInBounds w0.heap.size (.loop {r with state:=.exhausted})} ([{target:=.collected w.heap.size,args:=#[]}]++a.defers):=
     ((Ym.ext k3).ext s2).ext t2
    refine⟨kV,{w' with heap:=w'.heap.setIfInBounds w0.heap.size (.loop {r with state:=.exhausted})},by rw[aiG,r3];rfl,?_⟩;have fin:∀x',x=x'->R'=R->W'=W2.kill W.next->Q x'.to {a with defers:=[{target:=.collected w.heap.size,args:=#[]}]++a.defers} {w' with heap:=w'.heap.setIfInBounds w0.heap.size (.loop {r with state:=.exhausted})}:=by rintro x' rfl rfl rfl;exact hQ σ' _ _ (hR.mono Hw.sub) WW t1 Hw
    cases kV with
    |none=>
     have:x=.normal/\R'=R/\W'=W2.kill W.next:=by cases st<;>simp at h<;>simp_all
     exact fin .normal this.1 this.2.1 this.2.2
    |some cc=>
     cases cc<;>first
      |(exfalso;cases st<;>simp at h;done)
      |skip
     ·rename_i id;have:x=.exit id/\R'=R/\W'=W2.kill W.next:=by cases st<;>simp at h<;>simp_all
      exact wpIn_exit (fin (.exit id) this.1 this.2.1 this.2.2)
     ·have:x=.ret/\R'=R/\W'=W2.kill W.next:=by cases st<;>simp at h<;>simp_all
      exact wpIn_ret (fin .ret this.1 this.2.1 this.2.2)
  ·rename_i fv l fs cs ud;exfalso;obtain⟨CQ,rJ,cz,k1,_,_,k4⟩:=hfv.jU;cases k1;rw[ud]at k4;cases k4
end
end
section
variable [ak]
def dQ:Nat->List ae->ak.Fr->ak.Fr
 |_,[],R=>R
 |k,v::l,R=>dQ (k+1) l (HG R k v)
def lR:List Tmp->List ae->ak.Fr->ak.Fr
 |t::ts,v::l,R=>lR ts l (HG R t v)
 |_,_,R=>R
def CK(P:ah)(W:AW)(R:ak.Fr):List ResultVar->Option (List ae)
 |[]=>some []
 |.tmp t::l=>match CK P W R l with
  |some vs=>some (cR R t::vs)
  |none=>none
 |.cell a t::l=>match iw P W t (cR R a)with
  |some v=>match CK P W R l with
   |some vs=>some (v::vs)
   |none=>none
  |none=>none
def pc(P:ah)(W:AW)(R:ak.Fr)(rs:Array ResultVar):Option ae:=
 match CK P W R rs.toList with
 |some [v]=>some v
 |some vs=>some (.tuple vs.toArray)
 |none=>none
def Dn(nt:Nat):ResultVar->Bool
 |.tmp t=>Nat.blt t nt
 |.cell a _=>Nat.blt a nt
def KC(ng:List Nat)(fn:eV):Bool:=
 match fn.body with
 |some c=>gK fn.ntmps ng c&&fn.results.toList.all (Dn fn.ntmps)&& !(fn.name== "runtime.NumGoroutine")
 |none=>true
def ky(ng:List Nat)(bad:List Nat):Nat->List eV->Bool
 |_,[]=>true
 |i,fn::l=>(GI i bad||KC ng fn)&&ky ng bad (i+1) l
def jn(P:ah)(bad:List Nat)(spec call:Callee):Callee:=λf args W=>
 match f with
 |.func (.func i) fs cs=>match GI i bad with
  |true=>spec (.func (.func i) fs cs) args W
  |false=>match P.funcs[i]? with
   |some fn=>match fn.body with
    |some c=>match Nat.ble (fs.toList.length+(args.length+cs.toList.length)) fn.ntmps with
     |true=>match bT P call true fn.ntmps c (dQ 0 (fs.toList++(args++cs.toList)) ak.blank) W with
      |some (x,R,W')=>match x with
       |.exit _=>none
       |_=>match pc P W' R fn.results with
        |some v=>some (v,W')
        |none=>none
      |none=>none
     |false=>none
    |none=>none
   |none=>none
 |.func (.yield l) fs _=>match W.get l with
  |some (.loop .ready none R nt ps anD bd)=>match Nat.beq (fs.toList.length+args.length) ps.size with
   |true=>match bT P call false nt anD (lR ps.toList (fs.toList++args) R) W with
    |some (.normal,R1,W1)=>match W1.get l with
     |some (.loop .ready Sl R9 Lg K9 LV KS)=>match bT P call false nt bd R1 (W1.put l (.loop .busy Sl R9 Lg K9 LV KS))with
      |some (x,_,W2)=>match W2.get l with
       |some (.loop _ _ R8 Un Vs T1 Tv)=>match x with
        |.normal=>some (.bool true,W2.put l (.loop .ready none R8 Un Vs T1 Tv))
        |x=>some (.bool false,W2.put l (.loop .done x.jump R8 Un Vs T1 Tv))
       |_=>none
      |none=>none
     |_=>none
    |_=>none
   |false=>none
  |_=>none
 |_=>none
def JD(P:ah)(bad:List Nat)(spec:Callee):Nat->Callee
 |0=>λ_ _ _=>none
 |n+1=>jn P bad spec (JD P bad spec n)
def JN{ng:List Nat}{bad:List Nat}:∀(l:List eV) (k:Nat),ky ng bad k l=true->∀(i:Nat) (fn:eV),l[i]? =some fn->GI (k+i) bad=false->KC ng fn=true:=by
 intro l;induction l with
 |nil=>intro k _ i fn h;simp at h
 |cons f l ih=>
  intro k h i fn hi hb;simp only[ky,bB,ls]at h;cases i with
  |zero=>
   simp at hi;subst hi;rcases h.1 with h1|h1
   ·simp at hb;rw[h1]at hb;cases hb
   ·exact h1
  |succ i=>simp at hi;exact ih (k+1) h.2 i fn hi (by rw[<-hb];congr 1;omega)
def UQ(t:Nat):cR ak.blank t=ag:=ak.xd t
def Mj:∀(l:List ae) (k:Nat) (R:ak.Fr) (t:Nat),cR (dQ k l R) t=if k<=t/\t<k+l.length then l.getD (t-k) ag else cR R t:=by
 intro l;induction l with
 |nil=>intro k R t;simp[dQ];intro h1 h2;omega
 |cons v l ih=>
  intro k R t;simp only[dQ,ih,dG];by_cases h:k=t
  ·subst h;rw[bZ,nj,sE];simp
  ·rw[pC _ _ h];by_cases h2:k+1<=t/\t<k+1+l.length
   ·rw[ax h2,nj];obtain⟨j,hj⟩:∃j,t-k=j+1:=⟨t-k-1,by omega⟩;have:t-(k+1)=j:=by omega
    rw[this,hj];simp
   ·rw[ay h2,bZ]
section
variable {P:ah} {σ:cV} {W:AW} {w:aq}
def SB{nt:Nat}{l:List ae}{a:Array ae}(h:LR σ l a.toList)(hn:l.length<=nt):dS nt σ (dQ 0 l ak.blank) (a++Array.replicate (nt-a.size) ag):=by
 have fb:l.length=a.size:=by have:=h.1;simpa using this
 refine⟨by simp;omega,λt ht=>?_⟩;rw[Mj];by_cases gY:t<l.length
 ·rw[nj];have h1:l[t]? =some l[t]:=dm gY;obtain⟨v',e,hv⟩:=h.get h1;have e1:l.getD (t-0) ag=l[t]:=by simp[gY]
  have e2:(a++Array.replicate (nt-a.size) ag).getD t ag=v':=by
   rw[rn]at e;have:t<a.size:=by omega
   simp[wm,this];rw[gp this]at e;injection e
  rw[e1,e2];exact hv
 ·rw[bZ,UQ];have e2:(a++Array.replicate (nt-a.size) ag).getD t ag=ag:=by simp only[rI,wm];rw[bZ];simp[Array.getElem?_replicate];split<;>rfl
  rw[e2];exact .undef
def Ue{nt:Nat}:∀(ts:List Tmp) (l l':List ae) (R:ak.Fr) (tm:Array ae),LR σ l l'->ts.all (λt=>Nat.blt t nt)=true->dS nt σ R tm->
 dS nt σ (lR ts l R) ((ts.zip l').foldl (λtmps (x:Tmp×ae)=>tmps.setIfInBounds x.1 x.2) tm):=by
 intro ts;induction ts with
 |nil=>intro l l' R tm h _ hR;cases l<;>exact hR
 |cons t ts ih=>
  intro l l' R tm h ha hR;cases l with
  |nil=>have:=h.of_nil;subst this;exact hR
  |cons v l=>obtain⟨v',TU,rfl,hv,hl⟩:=h.of_cons;simp only[eP,bB]at ha;exact ih l TU _ _ hl ha.2 (hR.set t hv)
def Gn(hW:bg σ W w.heap){t:ai}{x x' v:ae}(h:iw P W t x=some v)(hx:VR σ x x'):
 ∃v',(do loadVar t (<-asAddr x'):Sem ae).run P w=.ok v' w/\VR σ v v':=by
 obtain⟨v',h1,h2⟩:=Dd hW h hx;refine⟨v',?_,h2⟩;rw[<-h1];unfold iw at h;split at h
 ·obtain⟨g,hg,hs,rfl⟩:=hx.wo;simp[asAddr,Instr.loadAt,Instr.sureAddr]
 ·cases h
def Ev(tmps:Array ae)(r:ResultVar):Sem ae:=
 match r with
 |.tmp t=>pure (tmps.getD t ag)
 |.cell a t=>do loadVar t (<-asAddr (tmps.getD a ag))
def Jq(fn:eV)(tmps:Array ae):results fn tmps=(do let vs<-fn.results.mapM (Ev tmps);pure (if h:vs.size=1 then vs[0]else .tuple vs)):=rfl
def Sn(hW:bg σ W w.heap){nt:Nat}{R:ak.Fr}{tmps:Array ae}(hR:dS nt σ R tmps):∀(rs:List ResultVar) (vs:List ae),rs.all (Dn nt)=true->CK P W R rs=some vs->
 ∃Cp,LR σ vs Cp/\(rs.mapM (Ev tmps)).run P w=.ok Cp w:=by
 intro rs;induction rs with
 |nil=>intro vs _ h;injection h with h;subst h;exact⟨[],.nil,by simp⟩
 |cons r rs ih=>
  intro vs iJ h;simp only[eP,bB]at iJ;cases r with
  |tmp t=>
   unfold CK at h;split at h
   ·rename_i vs0 h0;injection h with h;subst h;obtain⟨Cp,k1,k2⟩:=ih vs0 iJ.2 h0;refine⟨_,.cons (hR.2 t (by simpa[Dn,i9]using iJ.1)) k1,?_⟩;have h1:(Ev tmps (.tmp t)).run P w=.ok (tmps.getD t ag) w:=rfl;rw[List.mapM_cons,ch,h1,b8,ch,k2,b8];rfl
   ·cases h
  |cell a t=>
   unfold CK at h;split at h
   ·rename_i v hv;split at h
    ·rename_i vs0 h0;injection h with h;subst h;obtain⟨Cp,k1,k2⟩:=ih vs0 iJ.2 h0;obtain⟨v',k3,k4⟩:=Gn hW hv (hR.2 a (by simpa[Dn,i9]using iJ.1));refine⟨_,.cons k4 k1,?_⟩;have h1:(Ev tmps (.cell a t)).run P w=.ok v' w:=k3;rw[List.mapM_cons,ch,h1,b8,ch,k2,b8];rfl
    ·cases h
   ·cases h
def El(hW:bg σ W w.heap){fn:eV}{R:ak.Fr}{tmps:Array ae}{v:ae}(iJ:fn.results.toList.all (Dn fn.ntmps)=true)(hR:dS fn.ntmps σ R tmps)(h:pc P W R fn.results=some v):
 ∃v',(results fn tmps).run P w=.ok v' w/\VR σ v v':=by
 unfold pc at h;have key:∀vs,CK P W R fn.results.toList=some vs->∃Cp,LR σ vs Cp/\(results fn tmps).run P w=.ok (if h:Cp.toArray.size=1 then Cp.toArray[0]else .tuple Cp.toArray) w:=by intro vs hvs;obtain⟨Cp,k1,k2⟩:=Sn hW hR _ _ iJ hvs;refine⟨Cp,k1,?_⟩;rw[Jq,ch,Array.mapM_eq_mapM_toList,Sem.run_map,k2];rfl
 split at h
 ·rename_i u hu;injection h with h;subst h;obtain⟨Cp,k1,k2⟩:=key _ hu;obtain⟨v',l',rfl,k3,k4⟩:=k1.of_cons;have:=k4.of_nil;subst this;exact⟨v',by rw[k2];simp,k3⟩
 ·rename_i vs fe hvs;injection h with h;subst h;obtain⟨Cp,k1,k2⟩:=key _ hvs;refine⟨.tuple Cp.toArray,?_,VR.tuple' (by simpa using k1)⟩;rw[k2];have:Cp.toArray.size≠1:=by
   intro e;have e2:vs.length=1:=by have:=k1.1;simp at e;omega
   match vs,e2 with
   |[u],_=>exact fe u rfl
  rw[dif_neg this]
 ·cases h
end
section
variable {P:ah} {σ σ0:cV} {W W0:AW} {w w0:aq}
def eB.other(he:eB σ0 W0 w0 σ W w){r:Nat}(hr:w0.heap.size<=r){x y:Obj}(hy:w.heap[r]? =some y)(hx:∀c t fr,x≠ .cells c t fr)(hy':∀c t fr,y≠ .cells c t fr):eB σ0 W0 w0 σ W (w.putObj r x):=
 ⟨he.sub,he.ro,by simpa[World.putObj]using he.size,he.os,he.tape,he.output,λB hB hm=>by rw[World.putObj_heap_other (by omega)];exact he.dK B hB hm,he.ghost,he.grow⟩
def Zd{fn:eV}{R:ak.Fr}{tmps:Array ae}{v:ae}(iJ:fn.results.toList.all (Dn fn.ntmps)=true)(hR:dS fn.ntmps σ R tmps)(h:pc P W R fn.results=some v):
 ∀(ds:List dq) (w:aq),nF w0.heap.size σ w ds->bg σ W w.heap->eB σ0 W0 w0 σ W w->
  LeavesInM (FE none) 0 P fn tmps (λe w'=>∃v',e=.returned v'/\∃σ',VR σ' v v'/\bg σ' W w'.heap/\eB σ0 W0 w0 σ' W w') ds .returning w:=by
 intro ds;induction ds with
 |nil=>intro w _ hW he;obtain⟨v',k1,k2⟩:=El hW iJ hR h;exact⟨v',k1,v',rfl,σ,k2,hW,he⟩
 |cons d ds ih=>
  rintro w ⟨⟨r,e1,e2,e3,e4,e5⟩,Uy⟩ hW he;refine⟨by simp,.inl ⟨r,w.putObj r (.deferred none),by rw[e1],run_takeDeferred e3,ih _ ?_ (hW.other e4 _) (he.other e2 e3 (λ_ _ _ e=>by cases e) (λ_ _ _ e=>by cases e))⟩⟩;have:∀{ds:List dq},(∀d'∈ds,∀r',d'.target=.collected r'->r'≠r)->nF w0.heap.size σ w ds->nF w0.heap.size σ (w.putObj r (.deferred none)) ds:=by
   intro ds;induction ds with
   |nil=>intro _ _;trivial
   |cons d ds ih=>rintro fe ⟨⟨r',a1,a2,a3,a4,a5⟩,Uy⟩;exact⟨⟨r',a1,a2,by rw[World.putObj_heap_other (fe d (by simp) r' (by rw[a1]))];exact a3,a4,a5⟩,ih (λd' gq=>fe d' (by simp[gq])) Uy⟩
  exact this e5 Uy
end
end
section
variable [ak]
def JV(l:Nat):(FE none).inRound l=FE (some l):=rfl
def eI{P:ah}{f:gn}{fn:eV}{c:bs}(hf:P.funcs[f]? =some fn)(oQ:(fn.name== "runtime.NumGoroutine")=false)(hb:fn.body=some c)(args:Array ae)(w:aq):
 (callFunc f args).run P w=.ok (.enter f args) w:=by
 have h1:fn.name≠ "runtime.NumGoroutine" :=by simpa using oQ
 simp[callFunc,hf,h1,hb]
def yU{P:ah}(hm:P.follows .mixedOrders=true){ng:List Nat}(LW:ng=ak.ng){bad:List Nat}(hP:ky ng bad 0 P.funcs.toList=true){spec:Callee}(hs:bV P ng spec){call:Callee}(ih:bV P ng call):
 bV P ng (jn P bad spec call):=by
 intro f args W v W' h σ w f' da hW hG hf cM
 unfold jn at h
 split at h
 ·
  rename_i i fs cs;split at h
  ·exact hs _ _ _ _ _ h σ w f' da hW hG hf cM
  rename_i ahb;split at h;case h_2=>cases h
  rename_i fn F6;split at h;case h_2=>cases h
  rename_i c Rs;split at h;case h_2=>cases h
  rename_i fb;split at h;case h_2=>cases h
  rename_i x R W1 abc;have Tk:KC ng fn=true:=JN _ _ hP i fn (by rw[rn];exact F6) (by simpa using ahb);unfold KC at Tk;rw[Rs]at Tk;simp only[bB,rK]at Tk;obtain⟨⟨hco,aiF⟩,oQ⟩:=Tk;obtain⟨CQ,rJ,cz,Cz,Cy,nK,rfl⟩:=hf.jU;cases Cz;have hx:(∀id,x≠ .exit id)/\∃v0,pc P W1 R fn.results=some v0/\v0=v/\W1=W':=by
   cases x with
   |exit id=>cases h
   |normal=>
    refine⟨λid e=>X.noConfusion e,?_⟩;simp only at h;split at h
    ·rename_i v0 YZ;injection h with h;injection h with h1 h2;exact⟨v0,YZ,h1,h2⟩
    ·cases h
   |ret=>
    refine⟨λid e=>X.noConfusion e,?_⟩;simp only at h;split at h
    ·rename_i v0 YZ;injection h with h;injection h with h1 h2;exact⟨v0,YZ,h1,h2⟩
    ·cases h
  obtain⟨Va,v0,YZ,rfl,rfl⟩:=hx;have qH:LR σ (fs.toList++(args++cs.toList)) (rJ++da.toArray++cz).toList:=by have h1:=(Cy.append (cM.append nK));simpa[ji]using h1
  have abk:(fs.toList++(args++cs.toList)).length<=fn.ntmps:=by have:=Nat.le_of_ble_eq_true fb;simpa using this
  refine⟨eI F6 oQ Rs _ w,?_⟩;refine callsIn_of_wp_marks F6 Rs trivial ?_;refine rN hm LW ih (n0:=w.heap.size) (λ_=>rfl) c hco x _ _ _ _ abc σ _ w _ hW hG (SB qH abk) trivial (aS _) λσ' a' w' k1 k2 k3 k4=>?_
  have hl:=Zd aiF k1 YZ a'.defers w' k2 k3 k4;cases x with
  |exit id=>exact absurd rfl (Va id)
  |normal=>exact hl
  |ret=>exact hl
 ·
  rename_i l fs cs;split at h;case h_2=>cases h
  rename_i R nt ps anD bd eM;split at h;case h_2=>cases h
  rename_i fb;split at h;case h_2=>cases h
  rename_i R1 W1 XJ;split at h;case h_2=>cases h
  rename_i Sl R9 Lg K9 LV KS VX;split at h;case h_2=>cases h
  rename_i x R2 W2 XN;split at h;case h_2=>cases h
  rename_i st8 pd8 R8 Un Vs T1 Tv Ww;obtain⟨CQ,rJ,cz,Cz,Cy,nK,rfl⟩:=hf.jU;cases Cz with
  |yield _ g hg=>
  obtain⟨g1,g2,r,r1,r2,r3,r4,r5,r6,r7,⟨hG1,YO⟩,⟨hG2,S8⟩,hps⟩:=hW.obj _ _ _ eM hg;have qH:LR σ (fs.toList++args) (rJ++da.toArray).toList:=by have h1:=Cy.append cM;simpa using h1
  have oJ:(rJ++da.toArray).size=r.params.size:=by have h1:=qH.1;have h2:fs.toList.length+args.length=ps.size:=w9 fb;rw[cm,h2,Array.length_toList]at h1;rw[r5];exact h1.symm
  refine⟨r.fn,_,r.assign,r.body,run_yield r1 oJ,?_⟩;rw[r6,r7];refine roundIn_of_wpIn trivial ?_;have hR0:dS nt σ (lR ps.toList (fs.toList++args) R) ((r.params.zip (rJ++da.toArray)).foldl (λtmps (x:Tmp×ae)=>tmps.setIfInBounds x.1 x.2) r.tmps):=by have:=Ue ps.toList _ _ R r.tmps qH hps r4;rw[r5,<-Array.foldl_toList,Array.toList_zip];exact this
  rw[<-LW]at YO S8;rw[JV];refine rN hm LW ih (n0:=w.heap.size) (ro:=some g.B) (λe=>by cases e) anD YO .normal _ _ _ _ XJ σ _ w _ hW hG hR0 trivial (aS _) λσ1 a1 w1 k1 k2 k3 k4=>?_
  have hg1:σ1 l=some g:=k4.sub _ _ hg;obtain⟨_,_,rr,q1,q2,q3,q4,q5,q6,q7,q8,q9,q10⟩:=k3.obj _ _ _ VX hg1;have abp:g.s=0/\g.e=1:=⟨g1,g2⟩;obtain⟨s1,s2⟩:=k3.setObj (w:=w1) (o':=.loop .busy Sl R9 Lg K9 LV KS) (x:=.loop {rr with state:=.busy}) VX (λ_=>by simp) hg1 abp (λc t fr e=>by rw[q1]at e;cases e)
   ⟨g1,g2,{rr with state:=.busy},by simp[(k3.np _ _ hg1).2],rfl,q3,q4,q5,q6,q7,q8,q9,q10⟩
  refine⟨_,run_beginRound q1 q2,?_⟩;refine rN hm LW ih (n0:=w.heap.size) (ro:=some g.B) (λe=>by cases e) bd S8 x _ _ _ _ XN σ1 a1 (w1.putObj g.B (.loop {rr with state:=.busy})) _ s1 (hG.mono k4.sub) k1 (k2.ext s2) (by have:=k4.size;simpa using this) λσ2 a2 w2 _ _ t3 t4=>?_
  have GM:σ2 l=some g:=t4.sub _ _ hg1;obtain⟨_,_,r8,u1,u2,u3,u4,u5,u6,u7,u8,u9,u10⟩:=t3.obj _ _ _ Ww GM;have fin:∀(jump:Option bs) (I0:LoopState),I0=(if jump.isNone then .ready else .done)->v=.bool jump.isNone->W'=W2.put l (.loop I0 jump R8 Un Vs T1 Tv)->
   ∃v' w',(Instr.endRound g.B jump).run P w2=.ok v' w'/\∃v'',Ending.returned v'=.returned v''/\∃σ',VR σ' v v''/\bg σ' W' w'.heap/\eB σ W w σ' W' w':=by
   intro jump I0 px hv WX;subst px;subst hv;subst WX;obtain⟨z1,z2⟩:=t3.setObj (w:=w2) (o':=.loop (if jump.isNone then .ready else .done) jump R8 Un Vs T1 Tv) (x:=.loop {r8 with state:=if jump.isNone then .ready else .done,pending:=jump}) Ww (λ_=>by simp) GM abp (λc t fr e=>by rw[u1]at e;cases e)
    ⟨g1,g2,{r8 with state:=if jump.isNone then .ready else .done,pending:=jump},by simp[(t3.np _ _ GM).2],rfl,rfl,u4,u5,u6,u7,u8,u9,u10⟩
   exact⟨_,_,run_endRound jump u1,_,rfl,σ2,.bool _,z1,((k4.trans s2).trans t4).trans z2⟩
  cases x with
  |normal=>simp only at h;injection h with h;injection h with h1 h2;exact fin none .ready rfl h1.symm h2.symm
  |exit id=>simp only at h;injection h with h;injection h with h1 h2;exact fin (some (.exit id)) .done rfl h1.symm h2.symm
  |ret=>simp only at h;injection h with h;injection h with h1 h2;exact fin (some .ret) .done rfl h1.symm h2.symm
 ·cases h
def Dq{P:ah}(hm:P.follows .mixedOrders=true){ng:List Nat}(LW:ng=ak.ng){bad:List Nat}(hP:ky ng bad 0 P.funcs.toList=true){spec:Callee}(hs:bV P ng spec):
 ∀n,bV P ng (JD P bad spec n)
 |0=>λf args W v W' h=>by cases h
 |n+1=>yU hm LW hP hs (Dq hm LW hP hs n)
end
section
variable [ak]
def jV(P:ah)(ok:Bool)(s:Sem Next):Option ae:=
 if ok then match vD (cd P s)with
  |some v=>if bI v then some v else none
  |none=>none
 else none
def j0(v:ae)(W:AW):Option (ae×AW):=some (v,W)
def bt(c a b:ae)(W:AW):Option (ae×AW):=match c with
 |.bool true=>some (a,W)
 |.bool false=>some (b,W)
 |_=>none
def bc(P:ah)(t:ai)(W:AW):Option (ae×AW):=match jK P t with
 |some z=>some (.pointer (some ⟨W.next,0,none⟩),W.add (lz t z.cells.toList))
 |none=>none
def cC(x:ae)(W:AW):Option (ae×AW):=some (.pointer (some ⟨W.next,0,none⟩),W.add (.cells x.cells.toList))
def Ya(P:ah)(t:ai)(vs:List (Nat×ae)):Option ae:=
 match jK P t,P.underlying t with
 |some z,some (.struct fs)=>match oU P fs.toList with
  |some pl=>(yz (pl.toArray[·]?) z.cells vs).map .agg
  |none=>none
 |some z,some (.array _ e)=>match kv P e with
  |some n=>(yz (λi=>some (i*n,n)) z.cells vs).map .agg
  |none=>none
 |_,_=>none
def bH(P:ah)(t:ai)(vs:List (Nat×ae))(W:AW):Option (ae×AW):=(Ya P t vs).map λv=>(v,W)
def aC(P:ah)(t:ai)(len:Nat)(vs:List (Nat×ae))(W:AW):Option (ae×AW):=
 match P.underlying t with
 |some (.slice e)=>match kv P e,jK P e with
  |some n,some z=>
   if len*n<=16777216/\len<ge/\(Nat.beq z.cells.size n&&z.cells.toList.all cJ)=true then
    match yz (λi=>some (i*n,n)) (yX z.cells.toList len).toArray vs with
    |some c=>some (Value.slice (some ⟨W.next,0,none⟩) len len,W.add (.cells c.toList))
    |none=>none
   else none
  |_,_=>none
 |_=>none
def iH(P:ah)(t:ai)(a:ae)(W:AW):Option (ae×AW):=(iw P W t a).map λv=>(v,W)
def xy(W:AW)(b off:Nat)(vs:List ae):Option AW:=match W.get b with
 |some (.cells cs)=>(match Bn cs off vs with
  |some l=>some (W.put b (.cells l))
  |none=>none)
 |_=>none
def BX(W:AW)(b off:Nat)(vs:List ae):xy W b off vs=match W.get b with
 |some (.cells cs)=>if off+vs.length<=cs.length/\vs.all one=true then some (W.put b (.cells (fN cs off vs)))else none
 |_=>none:=by
 unfold xy;split
 ·rename_i cs nK;rw[xO];by_cases h:off+vs.length<=cs.length/\vs.all one=true
  ·rw[ax h,ax h]
  ·rw[ay h,ay h]
 ·rfl
def OK{W W':AW}{b off:Nat}{vs:List ae}(h:xy W b off vs=some W'):lq W b off vs=some W':=by
 unfold xy at h;unfold lq;split at h
 ·rename_i cs nK;rw[nK];exact h
 ·cases h
def vM(P:ah)(W:AW)(t:ai)(x v:ae):Option AW:=
 match x with
 |.pointer (some a)=>match kv P t with
  |some n=>if v.cells.size=n then xy W a.block a.off v.cells.toList else none
  |none=>none
 |_=>none
def JW{P:ah}{W W':AW}{t:ai}{x v:ae}(h:vM P W t x v=some W'):um P W t x v=some W':=by
 unfold vM at h;unfold um;split at h
 ·split at h
  ·rename_i n hn;simp only[hn];split at h
   ·rename_i hc;rw[ax hc];exact OK h
   ·cases h
  ·cases h
 ·cases h
def ZM(P:ah)(t:ai)(a x:ae)(W:AW):Option (ae×AW):=(vM P W t a x).map λW'=>(ag,W')
def aW(x:ae)(W:AW):Option (ae×AW):=match x with
 |.pointer (some a)=>some (.pointer (some a),W)
 |.func (.func f) a b=>some (.func (.func f) a b,W)
 |.func (.yield l) a b=>some (.func (.yield l) a b,W)
 |.iface t v=>some (.iface t v,W)
 |_=>none
def opd:Bool->ap
 |true=>.const ag
 |false=>.tmp 0
def jZ:ap->Bool:=Operand.rec (λ_=>false) (λ_=>true) (λ_=>false) (λ_=>false)
def CF(op:BinOp)(t:ai)(x y:ap)(a b:ae):eqGuard op t x y a b=eqGuard op t (opd (jZ x)) (opd (jZ y)) a b:=by cases x<;>cases y<;>rfl
def aw(P:ah)(op:BinOp)(t:ai)(a b:Bool)(vx vy:ae)(W:AW):Option (ae×AW):=
 match pn P W op t vx vy with
 |some v=>some (v,W)
 |none=>(jV P (bI vx&&(bI vy&&true)) (do pure (.value (<-(do eqGuard op t (opd a) (opd b) vx vy;binOp op t vx vy))))).map λv=>(v,W)
def CP(P:ah)(op:UnOp)(x:ae)(W:AW):Option (ae×AW):=
 (jV P (bI x&&true) (do pure (.value (<-Op.unary op x)))).map λv=>(v,W)
def Dv(P:ah)(s d:ai)(x:ae)(W:AW):Option (ae×AW):=
 (Ax P W s d x (jV P (bI x&&true) (do pure (.value (<-convert s d x))))).map λv=>(v,W)
def Q7(P:ah)(t:ai)(x:ae)(W:AW):Option (ae×AW):=match P.underlying t with
 |some (.interface _)=>none
 |some _=>some (.iface t x,W)
 |none=>none
def vq(fn:Fn)(first ie:Array ae)(W:AW):Option (ae×AW):=match fn with
 |.func f=>some (.func (.func f) first ie,W)
 |_=>none
def mP(P:ah)(t:ai)(r:Option ae)(W:AW):Option (ae×AW):=match r with
 |none=>some (Value.map (some W.next),W.add (.map [] 0))
 |some h=>match P.underlying t,h with
  |some (.map _ _),.int _ _=>some (Value.map (some W.next),W.add (.map [] 0))
  |_,_=>none
def mO(P:ah)(t:ai)(l c:ae)(W:AW):Option (ae×AW):=
 match P.underlying t with
 |some (.slice e)=>match kv P e,jK P e,(P.info? e).map (·.bytes),l,c with
  |some n,some z,some bytes,.int _ (.ofNat l),.int _ (.ofNat c)=>
   if l<=c/\c<9223372036854775808/\c*bytes<=281474976710656/\(iL z (c*n)).toList.all cJ=true then
    some (Value.slice (some ⟨W.next,0,none⟩) l c,W.add (.cells (iL z (c*n)).toList))
   else none
  |_,_,_,_,_=>none
 |_=>none
def gh(P:ah)(t:ai)(x:ae)(lo hi mx:Option ae)(W:AW):Option (ae×AW):=
 match mD P t x lo hi mx with
 |some v=>some (v,W)
 |none=>(jV P ((x::(lo.toList++(hi.toList++mx.toList))).all bI) (do pure (.value (<-Instr.sliceAt t x lo hi mx)))).map λv=>(v,W)
def Iz(P:ah)(s:ai)(x:ae)(f:Nat)(W:AW):Option (ae×AW):=match P.underlying s,x with
 |some (.struct fs),.pointer (some a)=>match fs[f]? with
  |some fl=>match kv P fl.type with
   |some (_+1)=>some (.pointer (some (a.add fl.offset)),W)
   |_=>none
  |none=>none
 |_,_=>none
def Xg(P:ah)(t:ai)(x:ae)(f:Nat)(W:AW):Option (ae×AW):=match P.underlying t,x with
 |some (.struct fs),.agg cs=>match fs[f]? with
  |some fl=>(vi P fl.type cs fl.offset).map λv=>(v,W)
  |none=>none
 |_,_=>none
def IV(P:ah)(t:ai)(x i:ae)(W:AW):Option (ae×AW):=match P.underlying t,x,lh i with
 |some (.slice e),.slice (some a) len _,some n=>match kv P e with
  |some z=>if n<len then some (.pointer (some (a.add (n*z))),W)else none
  |none=>none
 |some (.array len e),.pointer (some a),some n=>match kv P e with
  |some z=>if n<len then some (.pointer (some (a.add (n*z))),W)else none
  |none=>none
 |_,_,_=>none
def dU(P:ah)(t:ai)(x i:ae)(W:AW):Option (ae×AW):=match P.underlying t,x,lh i with
 |some (.array len e),.agg cs,some n=>match kv P e with
  |some z=>if n<len then(vi P e cs (n*z)).map λv=>(v,W)else none
  |none=>none
 |_,_,_=>(jV P (bI x&&(bI i&&true)) (do pure (.value (<-Instr.index t x i)))).map λv=>(v,W)
def gS(P:ah)(t:ai)(m k:ae)(ok:Bool)(W:AW):Option (ae×AW):=(kR P W t m k ok).map λv=>(v,W)
def g8(P:ah)(t:ai)(m k v:ae)(W:AW):Option (ae×AW):=(jh P W t m k v).map λW'=>(ag,W')
def au(x:ae)(i:Nat)(W:AW):Option (ae×AW):=match x with
 |.tuple vs=>(vs[i]?).map λv=>(v,W)
 |_=>none
def Tq(P:ah)(x:ae)(t:ai)(ok:Bool)(W:AW):Option (ae×AW):=match P.underlying t,x with
 |some (.interface _),_=>none
 |some _,.iface u v=>if u=t then some (if ok then .tuple #[v,.bool true]else v,W)else none
 |_,_=>none
def wS(P:ah)(t:ai)(x:ae)(W:AW):Option (ae×AW):=match P.underlying t,x with
 |some .string,.string s=>some (Value.pointer (some ⟨W.next,0,none⟩),W.add (.kW s 0))
 |_,_=>none
def RN(it:ae)(W:AW):Option (ae×AW):=match it with
 |.pointer (some ⟨b,0,_⟩)=>match W.get b with
  |some (.kW s pos)=>if pos<s.size then some (.tuple #[.bool true,goInt pos,.int .i32 (Utf8.decode s pos).1],W.put b (.kW s (pos+(Utf8.decode s pos).2)))else some (.tuple #[.bool false],W)
  |_=>none
 |_=>none
def aG(P:ah)(b:Builtin)(ts:Array ai)(ty:ai)(cf:Array Bool)(args:List ae)(W:AW):Option (ae×AW):=
 match b,args with
 |.len,[.slice _ n _]=>match(ts[0]?).bind P.underlying with
  |some (.slice _)=>some (goInt n,W)
  |_=>none
 |.len,[.map none]=>match(ts[0]?).bind P.underlying with
  |some (.map _ _)=>some (goInt 0,W)
  |_=>none
 |.len,[.map (some r)]=>match(ts[0]?).bind P.underlying,W.get r with
  |some (.map _ _),some (.map es _)=>some (goInt es.length,W)
  |_,_=>none
 |.append,[s,x]=>uV P W ts s x
 |.copy,[d,x]=>KM P W ts d x
 |.clear,[x]=>(EE P W ts x).map λW'=>(.tuple #[],W')
 |.delete,[m,k]=>(mb P W ts m k).map λW'=>(.tuple #[],W')
 |.unsafeSliceData,[x]=>(pK x).map λv=>(v,W)
 |.unsafeString,[p,n]=>kM P W ts p n
 |_,_=>(jV P (args.all bI) (builtin b ts ty cf args.toArray)).map λv=>(v,W)
def UW(P:ah)(call:Callee)(r:ae)(name:String)(args:List ae)(W:AW):Option (ae×AW):=match r with
 |.iface t v=>match oP P t name with
  |some f=>call (.func (.func f) #[] #[]) (v::args) W
  |none=>none
 |_=>none
def WC(x:ap)(P:ah)(call:Callee)(o:ao)(R:ak.Fr)(W:AW):Option (ae×AW):=j0 (aA R x) W
def adV(c a b:ap)(P:ah)(call:Callee)(o:ao)(R:ak.Fr)(W:AW):Option (ae×AW):=bt (aA R c) (aA R a) (aA R b) W
def XO(t:ai)(P:ah)(call:Callee)(o:ao)(R:ak.Fr)(W:AW):Option (ae×AW):=bc P t W
def ajh(t:ai)(x:ap)(P:ah)(call:Callee)(o:ao)(R:ak.Fr)(W:AW):Option (ae×AW):=cC (aA R x) W
def Xv(t:ai)(ps:Array (Nat×ap))(P:ah)(call:Callee)(o:ao)(R:ak.Fr)(W:AW):Option (ae×AW):=bH P t (mF R ps) W
def H0(t:ai)(n:Nat)(ps:Array (Nat×ap))(P:ah)(call:Callee)(o:ao)(R:ak.Fr)(W:AW):Option (ae×AW):=aC P t n (mF R ps) W
def Ut(_t:ai)(_m _k _v:ap)(P:ah)(call:Callee)(o:ao)(R:ak.Fr)(W:AW):Option (ae×AW):=none
def ad6(t:ai)(a:ap)(P:ah)(call:Callee)(o:ao)(R:ak.Fr)(W:AW):Option (ae×AW):=iH P t (aA R a) W
def Zs(t:ai)(a x:ap)(P:ah)(call:Callee)(o:ao)(R:ak.Fr)(W:AW):Option (ae×AW):=ZM P t (aA R a) (aA R x) W
def abn(_g:Nat)(P:ah)(call:Callee)(o:ao)(R:ak.Fr)(W:AW):Option (ae×AW):=none
def OE(x:ap)(P:ah)(call:Callee)(o:ao)(R:ak.Fr)(W:AW):Option (ae×AW):=aW (aA R x) W
def YT(op:BinOp)(t:ai)(x y:ap)(yt:ai)(P:ah)(call:Callee)(o:ao)(R:ak.Fr)(W:AW):Option (ae×AW):=aw P op t (jZ x) (jZ y) (aA R x) (aA R y) W
def adS(op:UnOp)(t:ai)(x:ap)(P:ah)(call:Callee)(o:ao)(R:ak.Fr)(W:AW):Option (ae×AW):=CP P op (aA R x) W
def QG(s d:ai)(x:ap)(P:ah)(call:Callee)(o:ao)(R:ak.Fr)(W:AW):Option (ae×AW):=Dv P s d (aA R x) W
def kTO(_d:ai)(_x:ap)(P:ah)(call:Callee)(o:ao)(R:ak.Fr)(W:AW):Option (ae×AW):=none
def Bz(t:ai)(x:ap)(P:ah)(call:Callee)(o:ao)(R:ak.Fr)(W:AW):Option (ae×AW):=Q7 P t (aA R x) W
def Mt(fn:Fn)(first ie:Array ap)(P:ah)(call:Callee)(o:ao)(R:ak.Fr)(W:AW):Option (ae×AW):=vq fn (first.map (aA R)) (ie.map (aA R)) W
def Q3(t:ai)(r:Option ap)(P:ah)(call:Callee)(o:ao)(R:ak.Fr)(W:AW):Option (ae×AW):=mP P t (r.map (aA R)) W
def JX(t:ai)(l c:ap)(P:ah)(call:Callee)(o:ao)(R:ak.Fr)(W:AW):Option (ae×AW):=mO P t (aA R l) (aA R c) W
def XH(t:ai)(x:ap)(lo hi mx:Option ap)(P:ah)(call:Callee)(o:ao)(R:ak.Fr)(W:AW):Option (ae×AW):=gh P t (aA R x) (lo.map (aA R)) (hi.map (aA R)) (mx.map (aA R)) W
def IA(s:ai)(x:ap)(f:Nat)(P:ah)(call:Callee)(o:ao)(R:ak.Fr)(W:AW):Option (ae×AW):=Iz P s (aA R x) f W
def Yb(t:ai)(x:ap)(f:Nat)(P:ah)(call:Callee)(o:ao)(R:ak.Fr)(W:AW):Option (ae×AW):=Xg P t (aA R x) f W
def IY(t:ai)(x i:ap)(P:ah)(call:Callee)(o:ao)(R:ak.Fr)(W:AW):Option (ae×AW):=IV P t (aA R x) (aA R i) W
def XV(t:ai)(x i:ap)(P:ah)(call:Callee)(o:ao)(R:ak.Fr)(W:AW):Option (ae×AW):=dU P t (aA R x) (aA R i) W
def UP(t:ai)(m k:ap)(ok:Bool)(P:ah)(call:Callee)(o:ao)(R:ak.Fr)(W:AW):Option (ae×AW):=gS P t (aA R m) (aA R k) ok W
def IH(t:ai)(m k v:ap)(P:ah)(call:Callee)(o:ao)(R:ak.Fr)(W:AW):Option (ae×AW):=g8 P t (aA R m) (aA R k) (aA R v) W
def aiX(_t:ai)(_m _k:ap)(P:ah)(call:Callee)(o:ao)(R:ak.Fr)(W:AW):Option (ae×AW):=none
def aey(_t:ai)(_m _s _v:ap)(P:ah)(call:Callee)(o:ao)(R:ak.Fr)(W:AW):Option (ae×AW):=none
def YG(t:ai)(x:ap)(P:ah)(call:Callee)(o:ao)(R:ak.Fr)(W:AW):Option (ae×AW):=wS P t (aA R x) W
def aet(it:ap)(s:Bool)(P:ah)(call:Callee)(o:ao)(R:ak.Fr)(W:AW):Option (ae×AW):=match s with
 |true=>RN (aA R it) W
 |false=>none
def kO(_it:ap)(P:ah)(call:Callee)(o:ao)(R:ak.Fr)(W:AW):Option (ae×AW):=none
def G6(x:ap)(_t a:ai)(ok:Bool)(P:ah)(call:Callee)(o:ao)(R:ak.Fr)(W:AW):Option (ae×AW):=Tq P (aA R x) a ok W
def PD(x:ap)(i:Nat)(P:ah)(call:Callee)(o:ao)(R:ak.Fr)(W:AW):Option (ae×AW):=au (aA R x) i W
def ac8(c:Call)(P:ah)(call:Callee)(o:ao)(R:ak.Fr)(W:AW):Option (ae×AW):=
 match c.callee with
 |.builtin b=>aG P b c.argTypes o.type (c.args.map jZ) (c.args.toList.map (aA R)) W
 |.value f=>call (aA R f) (c.args.toList.map (aA R)) W
 |.invoke r name=>UW P call (aA R r) name (c.args.toList.map (aA R)) W
def kC(_c:Call)(P:ah)(call:Callee)(o:ao)(R:ak.Fr)(W:AW):Option (ae×AW):=none
def kOO(_c _x:ap)(P:ah)(call:Callee)(o:ao)(R:ak.Fr)(W:AW):Option (ae×AW):=none
def aaE(_t:ai)(_c:ap)(_ok:Bool)(P:ah)(call:Callee)(o:ao)(R:ak.Fr)(W:AW):Option (ae×AW):=none
def U0(_cs:Array SelectCase)(_bl:Bool)(P:ah)(call:Callee)(o:ao)(R:ak.Fr)(W:AW):Option (ae×AW):=none
def ah0:Op->ah->Callee->ao->ak.Fr->AW->Option (ae×AW):=
 Op.rec (motive:=λ_=>ah->Callee->ao->ak.Fr->AW->Option (ae×AW)) WC WC adV XO ajh Xv H0 Ut ad6 Zs abn abn OE YT adS QG kTO Bz Mt Q3 kTO JX XH IA Yb IY XV UP IH aiX aey YG aet kO G6 PD ac8 kC kC kO kOO aaE U0
def Vj(P:ah)(call:Callee)(o:ao)(R:ak.Fr)(W:AW):Option (ae×AW):=ah0 o.op P call o R W
def ta{P:ah}{R:ak.Fr}{o:ao}(hs:sK o.op=true):ic P R o=jV P (o.op.operands.toList.all λx=>bI (aA R x)) (execOp (aA R) o):=by unfold ic jV;rw[hs,je];rfl
def all_map{α β:Type}(f:α->β)(p:β->Bool)(l:List α):(l.map f).all p=l.all λx=>p (f x):=by rw[List.all_map];rfl
def FL(P:ah)(call:Callee)(dst:Option Tmp)(b:Builtin)(args:Array ap)(ts:Array ai)(ty:ai)(pos:String)(after:Array Edge)(guard:Option (Nat×Bool))(R:ak.Fr)(W:AW):
 aG P b ts ty (args.map jZ) (args.toList.map (aA R)) W=gZ P ⟨dst,.call ⟨.builtin b,args,ts⟩,ty,pos,after,guard⟩ b ts (args.toList.map (aA R)) R W:=by
 have hf:jV P ((args.toList.map (aA R)).all bI) (builtin b ts ty (args.map jZ) (args.toList.map (aA R)).toArray)=ic P R ⟨dst,.call ⟨.builtin b,args,ts⟩,ty,pos,after,guard⟩:=by
  rw[ta rfl];have h1:((args.toList.map (aA R)).all bI)=((Op.call {callee:=Callee.builtin b,args:=args,argTypes:=ts}).operands.toList.all λx=>bI (aA R x)):=by
   rw[all_map];have:(Op.call {callee:=.builtin b,args:=args,argTypes:=ts}).operands=args:=by simp[Op.operands,Call.operands]
   rw[this]
  have h2:builtin b ts ty (args.map jZ) (args.toList.map (aA R)).toArray=execOp (aA R) ⟨dst,.call ⟨.builtin b,args,ts⟩,ty,pos,after,guard⟩:=by
   have h4:args.map jZ=args.map (λ|.const _=>true|_=>false):=by congr 1;funext x;cases x<;>rfl
   have h3:(args.toList.map (aA R)).toArray=args.map (aA R):=by apply oD.1;simp
   rw[h4,h3];symm;simp[execOp,resolve,invoke];rfl
  rw[h1,h2]
 unfold aG gZ;rw[hf];rfl
def KH:Op->Bool
 |.store .. =>true
 |_=>false
def XL(P:ah)(call:Callee)(o:ao)(R:ak.Fr)(W:AW)(hs:KH o.op=false):Vj P call o R W=oh P call o R W:=by
 rw[sG];obtain⟨dst,op,type,pos,after,guard⟩:=o;cases op with
 |store t a x=>cases hs
 |pick c a b=>rfl
 |alloc t=>show bc P t W=_;(simp only[fV,CY,bc,AW.dj];try rfl)
 |box t x=>show cC (aA R x) W=_;simp only[fV,CY,cC,AW.dj]
 |buildSlice t len ps=>show aC P t len (mF R ps) W=_;(simp only[fV,CY,aC,jl,AW.dj];try rfl)
 |binOp op t x y yt=>show aw P op t (jZ x) (jZ y) (aA R x) (aA R y) W=_;simp only[fV,CY,aw];rw[ta rfl,<-CF];rfl
 |unOp op t x=>show CP P op (aA R x) W=_;simp only[fV,CY,CP];rw[ta rfl];rfl
 |convert s d x=>show Dv P s d (aA R x) W=_;simp only[fV,CY,Dv];rw[ta rfl];rfl
 |makeFunc fn a b=>cases fn<;>rfl
 |makeMap t r=>
  cases r with
  |none=>show mP P t none W=_;(simp only[fV,CY,mP,AW.dj];try rfl)
  |some r=>show mP P t (some (aA R r)) W=_;(simp only[fV,CY,mP,AW.dj];try rfl)
 |makeSlice t l c=>show mO P t (aA R l) (aA R c) W=_;(simp only[fV,CY,mO,kq,AW.dj];try rfl)
 |slice t x lo hi mx=>
  show gh P t (aA R x) (lo.map (aA R)) (hi.map (aA R)) (mx.map (aA R)) W=_;simp only[fV,CY,gh];rw[ta rfl];have:(aA R x::((lo.map (aA R)).toList++((hi.map (aA R)).toList++(mx.map (aA R)).toList))).all bI=((Op.slice t x lo hi mx).operands.toList.all λx=>bI (aA R x)):=by cases lo<;>cases hi<;>cases mx<;>simp[Op.operands]
  rw[this];rfl
 |index t x i=>show dU P t (aA R x) (aA R i) W=_;simp only[fV,CY,dU];rw[ta rfl];rfl
 |range t x=>show wS P t (aA R x) W=_;(simp only[fV,CY,wS,AW.dj];try rfl)
 |next it s=>cases s<;>rfl
 |call c=>
  obtain⟨callee,args,ts⟩:=c;cases callee with
  |builtin b=>exact FL P call dst b args ts type pos after guard R W
  |value f=>rfl
  |invoke r name=>rfl
 |_=>rfl
def JI{P:ah}{call:Callee}{o:ao}{R:ak.Fr}{W:AW}{r:ae×AW}(h:Vj P call o R W=some r):oh P call o R W=some r:=by
 cases hs:KH o.op with
 |false=>rw[<-XL P call o R W hs];exact h
 |true=>
  rw[sG];obtain⟨dst,op,type,pos,after,guard⟩:=o;cases op<;>(try cases hs);rename_i t a x;have h':(vM P W t (aA R a) (aA R x)).map (λW'=>(ag,W'))=some r:=h;simp only[fV,CY];cases hc:vM P W t (aA R a) (aA R x)with
  |none=>rw[hc]at h';cases h'
  |some W'=>rw[hc]at h';rw[JW hc];exact h'
def aJ(x:ae)(W:AW):Option (ae×AW):=(match x with
 |.pointer (some a)=>(match aI W a.block with
  |some cs=>T8 cs a.off
  |none=>none)
 |_=>none).map λv=>(v,W)
def bA(n:Nat)(x:ae)(W:AW):Option (ae×AW):=(match x with
 |.pointer (some a)=>(kg W a.block a.off n).map λ(l:List ae)=>Value.agg l.toArray
 |_=>none).map λv=>(v,W)
def bU(n:Nat)(x v:ae)(W:AW):Option (ae×AW):=(match x with
 |.pointer (some a)=>if v.cells.size=n then xy W a.block a.off v.cells.toList else none
 |_=>none).map λW'=>(ag,W')
def aR(off:Nat)(x:ae)(W:AW):Option (ae×AW):=match x with
 |.pointer (some a)=>some (.pointer (some (a.add off)),W)
 |_=>none
def iY(z:Nat)(x i:ae)(W:AW):Option (ae×AW):=match x,lh i with
 |.slice (some a) len _,some n=>if n<len then some (.pointer (some (a.add (n*z))),W)else none
 |_,_=>none
def EI(len z:Nat)(x i:ae)(W:AW):Option (ae×AW):=match x,lh i with
 |.pointer (some a),some n=>if n<len then some (.pointer (some (a.add (n*z))),W)else none
 |_,_=>none
end
section
variable [ak]
def ad3:∃f:(∀(α ρ:Type),Option α->(α->Option ρ)->Option ρ),f=λ_ _ x g=>x.bind g:=⟨_,rfl⟩
def aj{α ρ:Type}(x:Option α)(g:α->Option ρ):Option ρ:=Classical.choose ad3 α ρ x g
def Cj{α ρ:Type}(x:Option α)(g:α->Option ρ):aj x g=x.bind g:=by unfold aj;rw[xC ad3]
abbrev KT(ρ:Type):=X->ak.Fr->AW->Option ρ
abbrev LT:=X×ak.Fr×AW
def aZ(v:ae)(w:Bool):Bool:=match v with|.bool b=>b==w|_=>false
def GG(ops:Array ao)(R:ak.Fr)(o:ao):Bool:=match o.guard with
 |none=>true
 |some (j,w)=>match(ops[j]?).bind (·.dst)with
  |some t=>aZ (cR R t) w
  |none=>false
def FO(ops:Array ao)(R:ak.Fr)(o:ao):GG ops R o=fZ ops R o:=by
 unfold GG fZ;cases o.guard with
 |none=>rfl
 |some p=>obtain⟨j,w⟩:=p;simp only;cases(ops[j]?).bind (·.dst)<;>rfl
def aU{ρ:Type}(c:Bool)(a b:ρ):ρ:=Bool.rec (motive:=λ_=>ρ) b a c
def qx(P:ah)(call:Callee)(ops:Array ao)(o:ao)(R:ak.Fr)(W:AW):Option (ae×AW):=
 aU (GG ops R o) (Vj P call o R W) (some (ag,W))
def mvO:Op->Option ap:=Op.rec (motive:=λ_=>Option ap) some some (λ_ _ _=>none) (λ_=>none) (λ_ _=>none) (λ_ _=>none) (λ_ _ _=>none) (λ_ _ _ _=>none) (λ_ _=>none) (λ_ _ _=>none) (λ_=>none) (λ_=>none) (λ_=>none) (λ_ _ _ _ _=>none) (λ_ _ _=>none) (λ_ _ _=>none) (λ_ _=>none) (λ_ _=>none) (λ_ _ _=>none) (λ_ _=>none) (λ_ _=>none) (λ_ _ _=>none) (λ_ _ _ _ _=>none) (λ_ _ _=>none) (λ_ _ _=>none) (λ_ _ _=>none) (λ_ _ _=>none) (λ_ _ _ _=>none) (λ_ _ _ _=>none) (λ_ _ _=>none) (λ_ _ _ _=>none) (λ_ _=>none) (λ_ _=>none) (λ_=>none) (λ_ _ _ _=>none) (λ_ _=>none) (λ_=>none) (λ_=>none) (λ_=>none) (λ_=>none) (λ_ _=>none) (λ_ _ _=>none) (λ_ _=>none)
def VH(o:ao):Option ap:=Option.rec (motive:=λ_=>Option ap) (mvO o.op) (λ_=>none) o.guard
def Ge(P:ah)(call:Callee)(ops:Array ao){ρ:Type}(K:ak.Fr->AW->Option ρ)(l:List ao):ak.Fr->AW->Option ρ:=
 List.rec (motive:=λ_=>ak.Fr->AW->Option ρ) (λR W=>K R W) (λo _ ih R W=>Option.rec (motive:=λ_=>Option ρ) (aj (qx P call ops o R W) λr=>ih (eH R o.dst r.1) r.2) (λx=>ih (eH R o.dst (aA R x)) W) (VH o)) l
def rP(w:Bool)(r:Option (ae×AW))(v:ae):Bool:=aU w (match r with|some (u,_)=>fX u v|none=>false) true
def agN(w:Bool)(r:Option (ae×AW)):Bool:=aU w r.isSome true
def xg(P:ah)(call:Callee)(ops:Array ao)(R:ak.Fr)(W:AW)(j:Nat):Bool:=match ops[j]? with
 |none=>false
 |some o=>match o.dst with
  |some t=>rP (GG ops R o) (Vj P call o R W) (cR R t)
  |none=>agN (GG ops R o) (Vj P call o R W)
def F9(P:ah)(call:Callee)(ops:Array ao){ρ:Type}(K:ak.Fr->AW->Option ρ)(l:List (Nat×List Nat)):ak.Fr->AW->Option ρ:=
 List.rec (motive:=λ_=>ak.Fr->AW->Option ρ) (λR W=>K R W) (λp _ ih R W=>match ops[p.1]? with
  |none=>none
  |some o=>Option.rec (motive:=λ_=>Option ρ) (aj (qx P call ops o R W) λr=>aU (p.2.all (xg P call ops (eH R o.dst r.1) r.2)) (ih (eH R o.dst r.1) r.2) none) (λx=>ih (eH R o.dst (aA R x)) W) (List.rec (motive:=λ_=>Option ap) (VH o) (λ_ _ _=>none) p.2)) l
def bw(R:ak.Fr)(l:List (Nat×ae)):ak.Fr:=List.rec (motive:=λ_=>ak.Fr->ak.Fr) (λR=>R) (λp _ ih R=>ih (eH R (some p.1) p.2)) l R
def qy{ρ:Type}(x:X)(a b:Option ρ):Option ρ:=X.rec (motive:=λ_=>Option ρ) a (λ_=>b) b x
def dE{ρ:Type}(id:Nat)(x:X)(a b:Option ρ):Option ρ:=X.rec (motive:=λ_=>Option ρ) b (λi=>aU (Nat.beq i id) a b) b x
def amQ{ρ:Type}(x:X)(a:Option ρ):Option ρ:=X.rec (motive:=λ_=>Option ρ) a (λ_=>none) a x
def bf{ρ:Type}(v:ae)(a b:Option ρ):Option ρ:=match v with|.bool c=>aU c a b|_=>none
abbrev CT:=∀ρ:Type,ak.Fr->AW->KT ρ->Option ρ
def mg:KT LT:=λx R W=>some (x,R,W)
def Y8:CT:=λ_ R W K=>K .normal R W
def Af(P:ah)(call:Callee)(id:Nat)(ops:Array ao)(xE:Bool):CT:=λ_ R W K=>match xE with
 |false=>Ge P call ops (K .normal) ops.toList R W
 |true=>match ak.D id ops with
  |none=>Ge P call ops (K .normal) ops.toList R W
  |some pl=>F9 P call ops (K .normal) pl R W
def aaJ(_ _:bs)(ia ib:CT):CT:=λρ R W K=>ia ρ R W λx R' W'=>X.rec (motive:=λ_=>Option ρ) (ib ρ R' W' K) (λ_=>K x R' W') (K x R' W') x
def Z4(c:ap)(_ _:bs)(ia ib:CT):CT:=λρ R W K=>bf (aA R c) (ia ρ R W K) (ib ρ R W K)
def Vo(id:Nat)(_:bs)(ib:CT):CT:=λρ R W K=>ib ρ R W λx R' W'=>X.rec (motive:=λ_=>Option ρ) (K x R' W') (λi=>Bool.rec (motive:=λ_=>Option ρ) (K x R' W') (K .normal R' W') (Nat.beq i id)) (K x R' W') x
def ab5(i:Nat):List Nat->List Nat:=List.rec [i] λx l ih=>Bool.rec (x::ih) (x::l) (Nat.beq x i)
def Kr(a b:List Nat):List Nat:=List.rec b (λx _ ih=>ab5 x ih) a
def aeG(i:Nat)(a:List Nat):List Nat:=List.rec [] (λx _ ih=>Bool.rec (x::ih) ih (Nat.beq x i)) a
def O3:bs->List Nat×Bool:=
 Code.rec (motive:=λ_=>List Nat×Bool) ([],false) (λ_ _ _=>([],false)) (λ_ _ a b=>(Kr a.1 b.1,a.2||b.2)) (λ_ _ _ a b=>(Kr a.1 b.1,a.2||b.2)) (λi _ b=>(aeG i b.1,b.2)) (λ_ b=>b)
  (λ_ _ _ _ a b=>(Kr a.1 b.1,a.2||b.2)) (λi=>([i],false)) (λ_ b=>b) (λ_=>([],false)) (λ_=>([],false)) ([],true) (λ_=>([],false))
def iK{ρ:Type}(x:X)(a:Option ρ):Option ρ:=X.rec (motive:=λ_=>Option ρ) none (λ_=>none) a x
def qP{ρ:Type}(x:X)(k:X->Option ρ)(ret:Bool)(l:List Nat):Option ρ:=
 List.rec (motive:=λ_=>Option ρ) (aU ret (iK x (k .ret)) none) (λi _ ih=>dE i x (k (.exit i)) ih) l
def ku{ρ:Type}{x:X}{k:X->Option ρ}{ret:Bool}{r:ρ}:∀{l:List Nat},qP x k ret l=some r->k x=some r
 |[],h=>by
  cases ret with
  |false=>cases h
  |true=>cases x<;>first|exact h|cases h
 |i::l,h=>by
  cases x with
  |normal=>exact ku (l:=l) h
  |ret=>exact ku (l:=l) h
  |exit j=>
   have h':aU (Nat.beq j i) (k (.exit i)) (qP (.exit j) k ret l)=some r:=h;cases hb:Nat.beq j i with
   |true=>rw[hb]at h';have:=w9 hb;subst this;exact h'
   |false=>rw[hb]at h';exact ku (l:=l) h'
def Wp:∃f:(ak.Fr->AW->Option LT)->Nat->ak.Fr->AW->Option LT,f=iQ:=⟨iQ,rfl⟩
def du:(ak.Fr->AW->Option LT)->ak.Fr->AW->Option LT:=λf=>Classical.choose Wp f 1000000
def HP(f:ak.Fr->AW->Option LT):du f=iQ f 1000000:=by unfold du;rw[xC Wp]
def Zi(b:bs)(ib:CT):CT:=λ_ R W K=>aj (du (λR W=>ib LT R W mg) R W) λr=>qP r.1 (λx=>K x r.2.1 r.2.2) (O3 b).2 (O3 b).1
def jb(call:Callee)(f:ae)(obj:dO)(W:AW):Option (X×AW):=match f with
 |.func (.func i) fs cs=>match call (.func (.func i) fs cs) [.func (.yield W.next) #[] #[]] (W.add obj)with
  |some (_,W2)=>match W2.get W.next with
   |some (.loop st kV _ _ _ _ _)=>(match st with
    |.busy=>none
    |_=>match kV with
     |none=>some (.normal,W2.kill W.next)
     |some (.exit i)=>some (.exit i,W2.kill W.next)
     |some .ret=>some (.ret,W2.kill W.next)
     |_=>none)
   |_=>none
  |none=>none
 |_=>none
def EV(call:Callee)(top:Bool)(nt:Nat)(f:ap)(ps:Array Tmp)(anD bd:bs)(_ _:CT):CT:=λ_ R W K=>match top with
 |false=>none
 |true=>aj (jb call (aA R f) (.loop .ready none R nt ps anD bd) W) λr=>qy r.1 (K .normal R r.2) (qP r.1 (λx=>K x R r.2) (O3 bd).2 (O3 bd).1)
def Y1(id:Nat):CT:=λ_ R W K=>K (.exit id) R W
def aaH:CT:=λ_ R W K=>K .ret R W
def TC(_:Nat):CT:=λ_ R W K=>K .normal R W
def YQ(_:Nat):CT:=λ_ _ _ _=>none
def Vn(_:bs)(_:CT):CT:=λ_ _ _ _=>none
def Px(_:String):CT:=λ_ _ _ _=>none
def fK(P:ah)(call:Callee)(top:Bool)(nt:Nat):bs->CT:=
 Code.rec (motive:=λ_=>CT) Y8 (Af P call) aaJ Z4 Vo Zi (EV call top nt) Y1 Vn TC YQ aaH Px
section
variable {P:ah} {call:Callee}
def AN{ops:Array ao}{o:ao}{R:ak.Fr}{W:AW}{r:ae×AW}(h:qx P call ops o R W=some r):jm P call ops o R W=some (eH R o.dst r.1,r.2):=by
 unfold qx at h;unfold jm;rw[FO]at h;cases hw:fZ ops R o with
 |true=>rw[hw]at h;rw[ax rfl];have h':Vj P call o R W=some r:=h;rw[JI h']
 |false=>rw[hw]at h;rw[ay (by simp)];have h':some (ag,W)=some r:=h;injection h' with h';subst h';rfl
def QF{op:Op}{x:ap}(h:mvO op=some x):op=.move x\/op=.assign x:=by cases op<;>first|(injection h with h;subst h;first|exact .inl rfl|exact .inr rfl)|cases h
def KN{ops:Array ao}{o:ao}{R:ak.Fr}{W:AW}{x:ap}(h:VH o=some x):jm P call ops o R W=some (eH R o.dst (aA R x),W):=by
 have hk:qx P call ops o R W=some (aA R x,W):=by
  obtain⟨dst,op,type,pos,after,guard⟩:=o;cases guard with
  |some g=>cases h
  |none=>rcases QF h with rfl|rfl<;>rfl
 rw[AN hk]
def LX{ops:Array ao}{ρ:Type}{K:ak.Fr->AW->Option ρ}{r:ρ}:∀(l:List ao) (R:ak.Fr) (W:AW),Ge P call ops K l R W=some r->(ni P call ops l R W).bind (λq=>K q.1 q.2)=some r:=by
 intro l;induction l with
 |nil=>intro R W h;exact h
 |cons o l ih=>
  intro R W h;cases hm:VH o with
  |some x=>have h':Option.rec (motive:=λ_=>Option ρ) (aj (qx P call ops o R W) λr=>Ge P call ops K l (eH R o.dst r.1) r.2) (λx=>Ge P call ops K l (eH R o.dst (aA R x)) W) (VH o)=some r:=h;rw[hm]at h';rw[ni,KN hm];exact ih _ _ h'
  |none=>
  have h0:Option.rec (motive:=λ_=>Option ρ) (aj (qx P call ops o R W) λr=>Ge P call ops K l (eH R o.dst r.1) r.2) (λx=>Ge P call ops K l (eH R o.dst (aA R x)) W) (VH o)=some r:=h;rw[hm]at h0;have h':aj (qx P call ops o R W) (λr=>Ge P call ops K l (eH R o.dst r.1) r.2)=some r:=h0;rw[Cj]at h';cases hk:qx P call ops o R W with
  |none=>rw[hk]at h';cases h'
  |some q=>rw[hk]at h';rw[ni,AN hk];exact ih _ _ h'
def N5{ops:Array ao}{R:ak.Fr}{W:AW}(j:Nat)(h:xg P call ops R W j=true):nZ P call ops R W j=true:=by
 unfold xg at h;unfold nZ;cases ho:ops[j]? with
 |none=>rw[ho]at h;cases h
 |some o=>
  rw[ho]at h;simp only at h|-;rw[FO]at h;cases hd:o.dst with
  |none=>
   rw[hd]at h;simp only[agN]at h;simp only;cases hw:fZ ops R o with
   |false=>rfl
   |true=>rw[hw]at h;have h':(Vj P call o R W).isSome=true:=h;obtain⟨q,hq⟩:=EN.1 h';rw[JI hq];rfl
  |some t=>
   rw[hd]at h;simp only[rP]at h;simp only;cases hw:fZ ops R o with
   |false=>rfl
   |true=>
    rw[hw]at h;have h':(match Vj P call o R W with|some (u,_)=>fX u (cR R t)|none=>false)=true:=h;cases hq:Vj P call o R W with
    |none=>rw[hq]at h';cases h'
    |some q=>rw[hq]at h';rw[JI hq];exact h'
def Sa{ops:Array ao}{ρ:Type}{K:ak.Fr->AW->Option ρ}{r:ρ}:∀(l:List (Nat×List Nat)) (R:ak.Fr) (W:AW),F9 P call ops K l R W=some r->(iI P call ops l R W).bind (λq=>K q.1 q.2)=some r:=by
 intro l;induction l with
 |nil=>intro R W h;exact h
 |cons p l ih=>
  intro R W h;obtain⟨i,re⟩:=p
  have h0:(match ops[i]? with
   |none=>none
   |some o=>Option.rec (motive:=λ_=>Option ρ) (aj (qx P call ops o R W) λr=>aU (re.all (xg P call ops (eH R o.dst r.1) r.2)) (F9 P call ops K l (eH R o.dst r.1) r.2) none) (λx=>F9 P call ops K l (eH R o.dst (aA R x)) W) (List.rec (motive:=λ_=>Option ap) (VH o) (λ_ _ _=>none) re))=some r:=h;rw[iI];cases ho:ops[i]? with
  |none=>rw[ho]at h0;cases h0
  |some o=>
   rw[ho]at h0;simp only at h0|-;cases hm:(List.rec (motive:=λ_=>Option ap) (VH o) (λ_ _ _=>none) re:Option ap)with
   |some x=>
    rw[hm]at h0;cases re with
    |cons _ _=>cases hm
    |nil=>rw[KN hm];exact ih _ _ h0
   |none=>
   rw[hm]at h0;have h':aj (qx P call ops o R W) (λr=>aU (re.all (xg P call ops (eH R o.dst r.1) r.2)) (F9 P call ops K l (eH R o.dst r.1) r.2) none)=some r:=h0;rw[Cj]at h';cases hk:qx P call ops o R W with
   |none=>rw[hk]at h';cases h'
   |some q=>
    rw[hk]at h';rw[AN hk];simp only[bq]at h'|-;cases ha:re.all (xg P call ops (eH R o.dst q.1) q.2)with
    |false=>rw[ha]at h';cases h'
    |true=>
     rw[ha]at h';have:re.all (nZ P call ops (eH R o.dst q.1) q.2)=true:=by rw[cr]at ha|-;exactλj hj=>N5 j (ha j hj)
     rw[ax this];exact ih _ _ h'
def Ap{f g:ak.Fr->AW->Option LT}(h:∀R W r,f R W=some r->g R W=some r):∀(n:Nat) (R:ak.Fr) (W:AW) (r:LT),iQ f n R W=some r->iQ g n R W=some r:=by
 intro n;induction n with
 |zero=>intro R W r hr;cases hr
 |succ n ih=>
  intro R W r hr;unfold iQ at hr|-;cases hf:f R W with
  |none=>rw[hf]at hr;cases hr
  |some q=>
   rw[h _ _ _ hf];rw[hf]at hr;obtain⟨x,R',W'⟩:=q;cases x with
   |normal=>exact ih _ _ _ hr
   |exit i=>exact hr
   |ret=>exact hr
def Hy{top:Bool}{nt:Nat}:∀(c:bs) (ρ:Type) (R:ak.Fr) (W:AW) (K:KT ρ) (r:ρ),fK P call top nt c ρ R W K=some r->(bT P call top nt c R W).bind (λr=>K r.1 r.2.1 r.2.2)=some r:=by
 intro c;induction c with
 |skip=>intro ρ R W K r h;exact h
 |label l=>intro ρ R W K r h;exact h
 |exit id=>intro ρ R W K r h;exact h
 |ret=>intro ρ R W K r h;exact h
 |goto l=>intro ρ R W K r h;exact h
 |scope b _=>intro ρ R W K r h;cases h
 |refuse s=>intro ρ R W K r h;cases h
 |region id ops xE=>
  intro ρ R W K r h;have h:Af P call id ops xE ρ R W K=some r:=h;unfold Af at h;unfold bT;cases xE with
  |false=>
   simp only at h|-;have:=LX _ _ _ h;cases ha:ni P call ops ops.toList R W with
   |none=>rw[ha]at this;cases this
   |some q=>rw[ha]at this;exact this
  |true=>
   simp only at h|-;cases hd:ak.D id ops with
   |none=>
    rw[hd]at h;simp only at h|-;have:=LX _ _ _ h;cases ha:ni P call ops ops.toList R W with
    |none=>rw[ha]at this;cases this
    |some q=>rw[ha]at this;exact this
   |some pl=>
    rw[hd]at h;simp only at h|-;have:=Sa _ _ _ h;cases ha:iI P call ops pl R W with
    |none=>rw[ha]at this;cases this
    |some q=>rw[ha]at this;exact this
 |seq a b QO Ij=>
  intro ρ R W K r h;have h1:=QO ρ R W _ r h;rw[bT];cases ha:bT P call top nt a R W with
  |none=>rw[ha]at h1;cases h1
  |some q=>
   rw[ha]at h1;obtain⟨x,R',W'⟩:=q;cases x with
   |normal=>exact Ij _ _ _ _ _ h1
   |exit i=>exact h1
   |ret=>exact h1
 |cond c a b QO Ij=>
  intro ρ R W K r h;have h':bf (aA R c) (fK P call top nt a ρ R W K) (fK P call top nt b ρ R W K)=some r:=h;rw[bT];cases hc:aA R c with
  |bool d=>
   rw[hc]at h';cases d with
   |true=>exact QO _ _ _ _ _ h'
   |false=>exact Ij _ _ _ _ _ h'
  |_=>rw[hc]at h';cases h'
 |block id b ih=>
  intro ρ R W K r h;have h1:=ih ρ R W _ r h;rw[bT];cases ha:bT P call top nt b R W with
  |none=>rw[ha]at h1;cases h1
  |some q=>
   rw[ha]at h1;obtain⟨x,R',W'⟩:=q;cases x with
   |normal=>exact h1
   |ret=>exact h1
   |exit i=>
    have h2:aU (Nat.beq i id) (K .normal R' W') (K (.exit i) R' W')=some r:=h1;by_cases hi:i=id
    ·subst hi;rw[nQ]at h2;simp only[bk,bq];exact h2
    ·have:Nat.beq i id=false:=by
      cases hb:Nat.beq i id with
      |true=>exact absurd (w9 hb) hi
      |false=>rfl
     rw[this]at h2;simp only[ay hi,bq];exact h2
 |loop b ih=>
  intro ρ R W K r h;have h':aj (du (λR W=>fK P call top nt b LT R W mg) R W) (λq=>qP q.1 (λx=>K x q.2.1 q.2.2) (O3 b).2 (O3 b).1)=some r:=h;rw[Cj,HP]at h';cases hl:iQ (λR W=>fK P call top nt b LT R W mg) 1000000 R W with
  |none=>rw[hl]at h';cases h'
  |some q=>
   rw[hl]at h';have:=Ap (g:=bT P call top nt b) (λR W q hq=>by
    have:=ih LT R W mg q hq;cases ha:bT P call top nt b R W with
    |none=>rw[ha]at this;cases this
    |some q'=>rw[ha]at this;exact this) _ _ _ _ hl;rw[bT,this];exact ku (show qP q.1 (λx=>K x q.2.1 q.2.2) (O3 b).2 (O3 b).1=some r from h')
 |rangeFunc f ps anD bd _ _=>
  intro ρ R W K r h;have h':EV call top nt f ps anD bd (fK P call top nt anD) (fK P call top nt bd) ρ R W K=some r:=h;unfold EV at h';cases top with
  |false=>cases h'
  |true=>
   simp only[Cj]at h';have h2:(jb call (aA R f) (.loop .ready none R nt ps anD bd) W).bind (λq=>K q.1 R q.2)=some r:=by
    cases ho:jb call (aA R f) (.loop .ready none R nt ps anD bd) W with
    |none=>rw[ho]at h';cases h'
    |some q=>
     rw[ho]at h';obtain⟨x,W'⟩:=q;cases x with
     |normal=>exact h'
     |exit i=>exact ku (show qP (.exit i) (λx=>K x R W') (O3 bd).2 (O3 bd).1=some r from h')
     |ret=>exact ku (show qP .ret (λx=>K x R W') (O3 bd).2 (O3 bd).1=some r from h')
   rw[<-h2];unfold bT jb;simp only;cases aA R f with
   |func fn fs cs=>
    cases fn with
    |func i=>
     simp only[AW.dj];cases call (.func (.func i) fs cs) [.func (.yield W.next) #[] #[]] (W.add (.loop .ready none R nt ps anD bd))with
     |none=>rfl
     |some r=>
      obtain⟨v,W2⟩:=r;simp only;cases W2.get W.next with
      |none=>rfl
      |some obj=>
       cases obj with
       |loop st kV tm n p a b=>
        cases st<;>simp only<;>(cases kV with
         |none=>rfl
         |some c=>cases c<;>rfl)
       |_=>rfl
    |_=>rfl
   |_=>rfl
def DD{top:Bool}{nt:Nat}{c:bs}{R:ak.Fr}{W:AW}{r:LT}(h:fK P call top nt c LT R W mg=some r):bT P call top nt c R W=some r:=by
 have:=Hy c LT R W mg r h;cases ha:bT P call top nt c R W with
 |none=>rw[ha]at this;cases this
 |some q=>rw[ha]at this;exact this
end
def pf(P:ah)(W:AW):List (ae×Option ai)->Option (List ae)
 |[]=>some []
 |(v,none)::l=>match pf P W l with
  |some vs=>some (v::vs)
  |none=>none
 |(a,some t)::l=>match iw P W t a with
  |some v=>match pf P W l with
   |some vs=>some (v::vs)
   |none=>none
  |none=>none
def aD(P:ah)(l:List (ae×Option ai))(W:AW):Option (ae×AW):=match pf P W l with
 |some [v]=>some (v,W)
 |some vs=>some (.tuple vs.toArray,W)
 |none=>none
def rv(R:ak.Fr):ResultVar->ae×Option ai:=ResultVar.rec (λt=>(cR R t,none)) (λa t=>(cR R a,some t))
def AH(P:ah)(W:AW)(R:ak.Fr):∀l:List ResultVar,CK P W R l=pf P W (l.map (rv R))
 |[]=>rfl
 |.tmp t::l=>by show(match CK P W R l with|some vs=>some (cR R t::vs)|none=>none)=(match pf P W (l.map (rv R))with|some vs=>some (cR R t::vs)|none=>none);rw[AH P W R l]
 |.cell a t::l=>by show(match iw P W t (cR R a)with|some v=>(match CK P W R l with|some vs=>some (v::vs)|none=>none)|none=>none)=(match iw P W t (cR R a)with|some v=>(match pf P W (l.map (rv R))with|some vs=>some (v::vs)|none=>none)|none=>none);rw[AH P W R l]
def Tj(P:ah)(call:Callee)(nt:Nat)(c:bs)(rs:Array ResultVar)(ag3:List ae)(W:AW):Option (ae×AW):=
 fK P call true nt c (ae×AW) (dQ 0 ag3 ak.blank) W λx R W'=>X.rec (motive:=λ_=>Option (ae×AW)) (aD P (rs.toList.map (rv R)) W') (λ_=>none) (aD P (rs.toList.map (rv R)) W') x
def Of{P:ah}{bad:List Nat}{spec call:Callee}{i:Nat}{fn:eV}{c:bs}(hb:GI i bad=false)(hf:P.funcs[i]? =some fn)(hc:fn.body=some c){fs cs:Array ae}{args:List ae}
 (hn:Nat.ble (fs.toList.length+(args.length+cs.toList.length)) fn.ntmps=true){W:AW}{r:ae×AW}(h:Tj P call fn.ntmps c fn.results (fs.toList++(args++cs.toList)) W=some r):
 jn P bad spec call (.func (.func i) fs cs) args W=some r:=by
 unfold Tj at h;have h1:=Hy _ _ _ _ _ _ h;unfold jn;simp only[hb,hf,hc,hn];cases ha:bT P call true fn.ntmps c (dQ 0 (fs.toList++(args++cs.toList)) ak.blank) W with
 |none=>rw[ha]at h1;cases h1
 |some q=>
  rw[ha]at h1;obtain⟨x,R,W'⟩:=q;simp only[bq]at h1;rw[<-h1];unfold pc aD;simp only[AH];cases x with
  |exit id=>rfl
  |normal=>simp only[];rcases pf P W' (fn.results.toList.map (rv R))with _|_|⟨v,_|⟨u,l⟩⟩<;>rfl
  |ret=>simp only[];rcases pf P W' (fn.results.toList.map (rv R))with _|_|⟨v,_|⟨u,l⟩⟩<;>rfl
def EH(P:ah)(call:Callee)(l:Nat)(nt:Nat)(anD bd:bs)(R:ak.Fr)(W:AW):Option (ae×AW):=
 (fK P call false nt anD LT R W mg).bind λr1=>qy r1.1 (match r1.2.2.get l with
  |some (.loop .ready Sl R9 Lg K9 LV KS)=>(fK P call false nt bd LT r1.2.1 (r1.2.2.put l (.loop .busy Sl R9 Lg K9 LV KS)) mg).bind λr2=>(match r2.2.2.get l with
   |some (.loop _ _ R8 Un Vs T1 Tv)=>(match r2.1 with
    |.normal=>some (.bool true,r2.2.2.put l (.loop .ready none R8 Un Vs T1 Tv))
    |x=>some (.bool false,r2.2.2.put l (.loop .done x.jump R8 Un Vs T1 Tv)))
   |_=>none)
  |_=>none) none
def H9{P:ah}{bad:List Nat}{spec call:Callee}{l nt:Nat}{R:ak.Fr}{ps:Array Tmp}{anD bd:bs}{W:AW}(hl:W.get l=some (.loop .ready none R nt ps anD bd)){fs cs:Array ae}{args:List ae}(hn:fs.toList.length+args.length=ps.size)
 {r:ae×AW}(h:EH P call l nt anD bd (lR ps.toList (fs.toList++args) R) W=some r):
 jn P bad spec call (.func (.yield l) fs cs) args W=some r:=by
 unfold EH at h;have hb:Nat.beq (fs.toList.length+args.length) ps.size=true:=by rw[hn];exact nQ _
 unfold jn;simp only[hl,hb];cases h1:fK P call false nt anD LT (lR ps.toList (fs.toList++args) R) W mg with
 |none=>rw[h1]at h;cases h
 |some q=>
  rw[h1]at h;rw[DD h1];obtain⟨x,R1,W1⟩:=q;simp only[bq]at h;cases x with
  |exit id=>cases h
  |ret=>cases h
  |normal=>
   simp only[qy]at h|-;cases hg:W1.get l with
   |none=>rw[hg]at h;cases h
   |some obj=>
    rw[hg]at h;cases obj with
    |loop st Sl R9 Lg K9 LV KS=>
     cases st with
     |ready=>
      simp only at h|-;cases h2:fK P call false nt bd LT R1 (W1.put l (.loop .busy Sl R9 Lg K9 LV KS)) mg with
      |none=>rw[h2]at h;cases h
      |some q2=>
       rw[h2]at h;rw[DD h2];obtain⟨x2,R2,W2⟩:=q2;simp only[bq]at h|-;cases GM:W2.get l with
       |none=>rw[GM]at h;cases h
       |some ahX=>
        rw[GM]at h;cases ahX with
        |loop st8 pd8 R8 Un Vs T1 Tv=>cases x2<;>exact h
        |_=>cases h
     |_=>cases h
    |_=>cases h
end
def Pt(R:Nat->ae)(t:Nat)(v:ae):Nat->ae:=λu=>Bool.rec (motive:=λ_=>ae) (R u) v (Nat.beq u t)
def Z8:Nat->ae:=λ_=>ag
def Ng(R:Nat->ae)(t:Nat)(v:ae):Pt R t v t=v:=by unfold Pt;rw[nQ]
def T7(R:Nat->ae)(t u:Nat)(v:ae)(h:t≠u):Pt R t v u=R u:=by
 unfold Pt;have:Nat.beq u t=false:=by
  cases hb:Nat.beq u t with
  |true=>exact absurd (w9 hb).symm h
  |false=>rfl
 rw[this]
@[reducible] noncomputable def Yq (D:Nat->Array ao->Option (List (Nat×List Nat))) (ng:List Nat) (ex:ai->Bool:=λ_=>false):ak where
 D:=D
 ex:=ex
 ng:=ng
 Fr:=Nat->ae
 Kq:=λR t=>R t
 Qc:=Pt
 blank:=Z8
 jC:=Ng
 fA:=T7
 xd:=λ_=>rfl
def ae6(g:Nat):ae:=.pointer (some ⟨g,0,none⟩)
def cN(f:gn):ae:=.func (.func f) #[] #[]
def X2(l:List Nat):ByteArray:=⟨(l.map UInt8.ofNat).toArray⟩
def AJ(l:List Nat):ae:=.string (X2 l)
def Je(P:ah)(i:Nat):bs:=match P.funcs[i]? with
 |some fn=>(match fn.body with
  |some c=>c
  |none=>.skip)
 |none=>.skip
def VT(P:ah)(i:Nat):Array ResultVar:=match P.funcs[i]? with
 |some fn=>fn.results
 |none=>#[]
def FB:List Nat->bs->bs
 |[],c=>c
 |n::p,c=>match c with
  |.seq a b=>FB p (if n=0 then a else b)
  |.cond _ a b=>FB p (if n=0 then a else b)
  |.rangeFunc _ _ a b=>FB p (if n=0 then a else b)
  |.block _ b=>FB p b
  |.loop b=>FB p b
  |.scope b=>FB p b
  |_=>.skip
section
variable [ak]
def HE(c d:Callee):Prop:=∀f a W r,c f a W=some r->d f a W=some r
def HE.refl(c:Callee):HE c c:=λ_ _ _ _ h=>h
def HE.trans{a b c:Callee}(h:HE a b)(k:HE b c):HE a c:=λf x W r e=>k _ _ _ _ (h _ _ _ _ e)
section
variable {P:ah}
def FX(P:ah)(o:ao)(R:ak.Fr)(W:AW):(∀c d:Callee,oh P c o R W=oh P d o R W)\/∃f a,∀c:Callee,oh P c o R W=c f a W:=by
 simp only[sG];obtain⟨dst,op,type,pos,after,guard⟩:=o;cases op with
 |call k=>
  obtain⟨callee,args,ts⟩:=k;cases callee with
  |builtin b=>exact .inl λ_ _=>rfl
  |value f=>exact .inr ⟨_,_,λ_=>rfl⟩
  |invoke r name=>
   simp only[fV];cases aA R r with
   |iface t v=>
    simp only;cases oP P t name with
    |none=>exact .inl λ_ _=>rfl
    |some f=>exact .inr ⟨_,_,λ_=>rfl⟩
   |_=>exact .inl λ_ _=>rfl
 |_=>exact .inl λ_ _=>rfl
def Lf{c d:Callee}(h:HE c d){o:ao}{R:ak.Fr}{W:AW}{r:ae×AW}(e:oh P c o R W=some r):oh P d o R W=some r:=by
 rcases FX P o R W with hd|⟨f,a,hd⟩
 ·rw[<-e];exact hd _ _
 ·rw[hd]at e|-;exact h _ _ _ _ e
def wd{c d:Callee}(h:HE c d){ops:Array ao}{o:ao}{R:ak.Fr}{W:AW}{r:ak.Fr×AW}(e:jm P c ops o R W=some r):jm P d ops o R W=some r:=by
 unfold jm at e|-;split
 ·rename_i hw;rw[ax hw]at e;cases ho:oh P c o R W with
  |none=>rw[ho]at e;cases e
  |some q=>rw[ho]at e;rw[Lf h ho];exact e
 ·rename_i hw;rw[ay hw]at e;exact e
def Ex{c d:Callee}(h:HE c d){ops:Array ao}:∀{l:List ao} {R:ak.Fr} {W:AW} {r:ak.Fr×AW},ni P c ops l R W=some r->ni P d ops l R W=some r:=by
 intro l;induction l with
 |nil=>intro R W r e;exact e
 |cons o l ih=>
  intro R W r e;rw[ni]at e|-;cases hs:jm P c ops o R W with
  |none=>rw[hs]at e;cases e
  |some q=>rw[hs]at e;rw[wd h hs];exact ih e
def wD{c d:Callee}(h:HE c d){ops:Array ao}{R:ak.Fr}{W:AW}{j:Nat}(e:nZ P c ops R W j=true):nZ P d ops R W j=true:=by
 unfold nZ at e|-;cases hj:ops[j]? with
 |none=>rw[hj]at e;cases e
 |some o=>
  rw[hj]at e;simp only at e|-;split
  ·rename_i hw;rw[ax hw]at e;cases ho:oh P c o R W with
   |none=>rw[ho]at e;cases e
   |some q=>rw[ho]at e;rw[Lf h ho];exact e
  ·rfl
def GR{c d:Callee}(h:HE c d){ops:Array ao}:∀{l:List (Nat×List Nat)} {R:ak.Fr} {W:AW} {r:ak.Fr×AW},iI P c ops l R W=some r->iI P d ops l R W=some r:=by
 intro l;induction l with
 |nil=>intro R W r e;exact e
 |cons p l ih=>
  intro R W r e;obtain⟨i,re⟩:=p;rw[iI]at e|-;cases hi:ops[i]? with
  |none=>rw[hi]at e;cases e
  |some o=>
   rw[hi]at e;simp only at e|-;cases hs:jm P c ops o R W with
   |none=>rw[hs]at e;cases e
   |some q=>
    rw[hs]at e;rw[wd h hs];simp only at e|-;split at e
    ·rename_i hr;rw[ax (cr.2 λj hj=>wD h (cr.1 hr j hj))];exact ih e
    ·cases e
def j6{c d:Callee}(h:HE c d){top:Bool}{nt:Nat}:∀(k:bs) {R:ak.Fr} {W:AW} {r:LT},bT P c top nt k R W=some r->bT P d top nt k R W=some r:=by
 intro k;induction k with
 |skip=>intro R W r e;exact e
 |label l=>intro R W r e;exact e
 |exit id=>intro R W r e;exact e
 |ret=>intro R W r e;exact e
 |goto l=>intro R W r e;exact e
 |scope b _=>intro R W r e;exact e
 |refuse s=>intro R W r e;exact e
 |region id ops xE=>
  intro R W r e;unfold bT at e|-;cases xE with
  |false=>
   simp only at e|-;cases hs:ni P c ops ops.toList R W with
   |none=>rw[hs]at e;cases e
   |some q=>rw[hs]at e;rw[Ex h hs];exact e
  |true=>
   simp only at e|-;cases hD:ak.D id ops with
   |none=>
    rw[hD]at e;simp only at e|-;cases hs:ni P c ops ops.toList R W with
    |none=>rw[hs]at e;cases e
    |some q=>rw[hs]at e;rw[Ex h hs];exact e
   |some pl=>
    rw[hD]at e;simp only at e|-;cases hs:iI P c ops pl R W with
    |none=>rw[hs]at e;cases e
    |some q=>rw[hs]at e;rw[GR h hs];exact e
 |seq a b QO Ij=>
  intro R W r e;rw[bT]at e|-;cases ha:bT P c top nt a R W with
  |none=>rw[ha]at e;cases e
  |some q=>
   rw[ha]at e;rw[QO ha];obtain⟨x,R',W'⟩:=q;cases x with
   |normal=>exact Ij e
   |exit i=>exact e
   |ret=>exact e
 |cond o a b QO Ij=>
  intro R W r e;rw[bT]at e|-;cases ho:aA R o with
  |bool t=>rw[ho]at e;cases t with
   |true=>exact QO e
   |false=>exact Ij e
  |_=>rw[ho]at e;cases e
 |block id b ih=>
  intro R W r e;rw[bT]at e|-;cases hb:bT P c top nt b R W with
  |none=>rw[hb]at e;cases e
  |some q=>rw[hb]at e;rw[ih hb];exact e
 |loop b ih=>intro R W r e;rw[bT]at e|-;exact Ap (λR W q hq=>ih hq) _ _ _ _ e
 |rangeFunc f ps anD bd _ _=>
  intro R W r e;unfold bT at e|-;cases top with
  |false=>cases e
  |true=>
   simp only at e|-;cases hf:aA R f with
   |func fn fs cs=>
    rw[hf]at e;cases fn with
    |func i=>
     simp only[AW.dj]at e|-;cases hc:c (.func (.func i) fs cs) [.func (.yield W.next) #[] #[]] (W.add (.loop .ready none R nt ps anD bd))with
     |none=>rw[hc]at e;cases e
     |some q=>rw[hc]at e;rw[h _ _ _ _ hc];exact e
    |_=>cases e
   |_=>rw[hf]at e;cases e
def Sm{bad:List Nat}{spec c d:Callee}(h:HE c d):HE (jn P bad spec c) (jn P bad spec d):=by
 intro f a W r e;unfold jn at e|-;cases f with
 |func fn fs cs=>
  cases fn with
  |func i=>
   simp only at e|-;cases hb:GI i bad with
   |true=>rw[hb]at e;exact e
   |false=>
    rw[hb]at e;simp only at e|-;cases hf:P.funcs[i]? with
    |none=>rw[hf]at e;cases e
    |some fn=>
     rw[hf]at e;simp only at e|-;cases hc:fn.body with
     |none=>rw[hc]at e;cases e
     |some k=>
      rw[hc]at e;simp only at e|-;cases hl:Nat.ble (fs.toList.length+(a.length+cs.toList.length)) fn.ntmps with
      |false=>rw[hl]at e;cases e
      |true=>
       rw[hl]at e;simp only at e|-;cases hk:bT P c true fn.ntmps k (dQ 0 (fs.toList++(a++cs.toList)) ak.blank) W with
       |none=>rw[hk]at e;cases e
       |some q=>rw[hk]at e;rw[j6 h k hk];exact e
  |yield l=>
   simp only at e|-;split at e;case h_2=>cases e
   rename_i R nt ps anD bd hl;cases hn:Nat.beq (fs.toList.length+a.length) ps.size with
   |false=>rw[hn]at e;cases e
   |true=>
    rw[hn]at e;simp only at e|-;cases h1:bT P c false nt anD (lR ps.toList (fs.toList++a) R) W with
    |none=>rw[h1]at e;cases e
    |some q=>
     rw[h1]at e;rw[j6 h anD h1];obtain⟨x,R1,W1⟩:=q;cases x with
     |normal=>
      simp only at e|-;split at e;case h_2=>cases e
      rename_i Sl R9 Lg K9 LV KS hg;cases h2:bT P c false nt bd R1 (W1.put l (.loop .busy Sl R9 Lg K9 LV KS))with
      |none=>rw[h2]at e;cases e
      |some q2=>rw[h2]at e;rw[j6 h bd h2];exact e
     |exit i=>cases e
     |ret=>cases e
  |_=>cases e
 |_=>cases e
section
variable {c:Nat->Callee} {o:Callee}
structure O8 (c:Nat->Callee) (o:Callee):Prop where
 up:∀n,HE (c n) (c (n+1))
 of:∀f a W r,o f a W=some r->∃n,c n f a W=some r
def O8.le(h:O8 c o){m n:Nat}(hmn:m<=n):HE (c m) (c n):=by
 induction hmn with
 |refl=>exact .refl _
 |step _ ih=>exact ih.trans (h.up _)
def He(h:O8 c o){op:ao}{R:ak.Fr}{W:AW}{r:ae×AW}(e:oh P o op R W=some r):∃n,oh P (c n) op R W=some r:=by
 rcases FX P op R W with hd|⟨f,a,hd⟩
 ·exact⟨0,by rw[<-e];exact hd _ _⟩
 ·rw[hd]at e;obtain⟨n,hn⟩:=h.of _ _ _ _ e;exact⟨n,by rw[hd];exact hn⟩
def DQ(h:O8 c o){ops:Array ao}{op:ao}{R:ak.Fr}{W:AW}{r:ak.Fr×AW}(e:jm P o ops op R W=some r):∃n,jm P (c n) ops op R W=some r:=by
 unfold jm at e|-;split at e
 ·rename_i hw;cases ho:oh P o op R W with
  |none=>rw[ho]at e;cases e
  |some q=>rw[ho]at e;obtain⟨n,hn⟩:=He h ho;exact⟨n,by rw[ax hw,hn];exact e⟩
 ·rename_i hw;exact⟨0,by rw[ay hw];exact e⟩
def FF(h:O8 c o){ops:Array ao}:∀{l:List ao} {R:ak.Fr} {W:AW} {r:ak.Fr×AW},ni P o ops l R W=some r->∃n,ni P (c n) ops l R W=some r:=by
 intro l;induction l with
 |nil=>intro R W r e;exact⟨0,e⟩
 |cons op l ih=>
  intro R W r e;rw[ni]at e;cases hs:jm P o ops op R W with
  |none=>rw[hs]at e;cases e
  |some q=>rw[hs]at e;obtain⟨n,hn⟩:=DQ h hs;obtain⟨m,hm⟩:=ih e;refine⟨max n m,?_⟩;rw[ni,wd (h.le (pW n m)) hn];exact Ex (h.le (sZ n m)) hm
def Nt(h:O8 c o){ops:Array ao}{R:ak.Fr}{W:AW}{j:Nat}(e:nZ P o ops R W j=true):∃n,nZ P (c n) ops R W j=true:=by
 unfold nZ at e|-;cases hj:ops[j]? with
 |none=>rw[hj]at e;cases e
 |some op=>
  rw[hj]at e;simp only at e|-;split at e
  ·rename_i hw;cases ho:oh P o op R W with
   |none=>rw[ho]at e;cases e
   |some q=>rw[ho]at e;obtain⟨n,hn⟩:=He h ho;exact⟨n,by rw[ax hw,hn];exact e⟩
  ·rename_i hw;exact⟨0,by rw[ay hw]⟩
def CX(h:O8 c o){ops:Array ao}{R:ak.Fr}{W:AW}:∀{l:List Nat},l.all (nZ P o ops R W)=true->∃n,l.all (nZ P (c n) ops R W)=true:=by
 intro l;induction l with
 |nil=>intro _;exact⟨0,rfl⟩
 |cons j l ih=>intro e;simp only[eP,bB]at e;obtain⟨n,hn⟩:=Nt h e.1;obtain⟨m,hm⟩:=ih e.2;refine⟨max n m,?_⟩;simp only[eP,bB];exact⟨wD (h.le (pW n m)) hn,cr.2 λj hj=>wD (h.le (sZ n m)) (cr.1 hm j hj)⟩
def No(h:O8 c o){ops:Array ao}:∀{l:List (Nat×List Nat)} {R:ak.Fr} {W:AW} {r:ak.Fr×AW},iI P o ops l R W=some r->∃n,iI P (c n) ops l R W=some r:=by
 intro l;induction l with
 |nil=>intro R W r e;exact⟨0,e⟩
 |cons p l ih=>
  intro R W r e;obtain⟨i,re⟩:=p;rw[iI]at e;cases hi:ops[i]? with
  |none=>rw[hi]at e;cases e
  |some op=>
   rw[hi]at e;simp only at e;cases hs:jm P o ops op R W with
   |none=>rw[hs]at e;cases e
   |some q=>
    rw[hs]at e;simp only at e;split at e
    ·rename_i hr;obtain⟨n,hn⟩:=DQ h hs;obtain⟨m,hm⟩:=CX h hr;obtain⟨k,hk⟩:=ih e;refine⟨max n (max m k),?_⟩;rw[iI,hi];simp only;rw[wd (h.le (pW n _)) hn];simp only;rw[ax (cr.2 λj hj=>wD (h.le (by omega)) (cr.1 hm j hj))];exact GR (h.le (by omega)) hk
    ·cases e
def NU(h:O8 c o){top:Bool}{nt:Nat}{k:bs}(ih:∀{R:ak.Fr} {W:AW} {r:LT},bT P o top nt k R W=some r->∃n,bT P (c n) top nt k R W=some r):
 ∀(m:Nat) {R:ak.Fr} {W:AW} {r:LT},iQ (bT P o top nt k) m R W=some r->∃n,iQ (bT P (c n) top nt k) m R W=some r:=by
 intro m;induction m with
 |zero=>intro R W r e;cases e
 |succ m ihm=>
  intro R W r e;unfold iQ at e;cases hb:bT P o top nt k R W with
  |none=>rw[hb]at e;cases e
  |some q=>
   rw[hb]at e;obtain⟨n,hn⟩:=ih hb;obtain⟨x,R',W'⟩:=q;cases x with
   |normal=>obtain⟨j,hj⟩:=ihm e;refine⟨max n j,?_⟩;unfold iQ;rw[j6 (h.le (pW n j)) k hn];exact Ap (λR W q hq=>j6 (h.le (sZ n j)) k hq) _ _ _ _ hj
   |exit i=>exact⟨n,by unfold iQ;rw[hn];exact e⟩
   |ret=>exact⟨n,by unfold iQ;rw[hn];exact e⟩
def xR(h:O8 c o){top:Bool}{nt:Nat}:∀(k:bs) {R:ak.Fr} {W:AW} {r:LT},bT P o top nt k R W=some r->∃n,bT P (c n) top nt k R W=some r:=by
 intro k;induction k with
 |skip=>intro R W r e;exact⟨0,e⟩
 |label l=>intro R W r e;exact⟨0,e⟩
 |exit id=>intro R W r e;exact⟨0,e⟩
 |ret=>intro R W r e;exact⟨0,e⟩
 |goto l=>intro R W r e;exact⟨0,e⟩
 |scope b _=>intro R W r e;exact⟨0,e⟩
 |refuse s=>intro R W r e;exact⟨0,e⟩
 |region id ops xE=>
  intro R W r e;unfold bT at e|-;cases xE with
  |false=>
   simp only at e|-;cases hs:ni P o ops ops.toList R W with
   |none=>rw[hs]at e;cases e
   |some q=>rw[hs]at e;obtain⟨n,hn⟩:=FF h hs;exact⟨n,by rw[hn];exact e⟩
  |true=>
   simp only at e|-;cases hD:ak.D id ops with
   |none=>
    rw[hD]at e;simp only at e|-;cases hs:ni P o ops ops.toList R W with
    |none=>rw[hs]at e;cases e
    |some q=>rw[hs]at e;obtain⟨n,hn⟩:=FF h hs;exact⟨n,by rw[hn];exact e⟩
   |some pl=>
    rw[hD]at e;simp only at e|-;cases hs:iI P o ops pl R W with
    |none=>rw[hs]at e;cases e
    |some q=>rw[hs]at e;obtain⟨n,hn⟩:=No h hs;exact⟨n,by rw[hn];exact e⟩
 |seq a b QO Ij=>
  intro R W r e;rw[bT]at e;cases ha:bT P o top nt a R W with
  |none=>rw[ha]at e;cases e
  |some q=>
   rw[ha]at e;obtain⟨n,hn⟩:=QO ha;obtain⟨x,R',W'⟩:=q;cases x with
   |normal=>obtain⟨m,hm⟩:=Ij e;refine⟨max n m,?_⟩;rw[bT,j6 (h.le (pW n m)) a hn];exact j6 (h.le (sZ n m)) b hm
   |exit i=>exact⟨n,by rw[bT,hn];exact e⟩
   |ret=>exact⟨n,by rw[bT,hn];exact e⟩
 |cond q a b QO Ij=>
  intro R W r e;rw[bT]at e;cases ho:aA R q with
  |bool t=>rw[ho]at e;cases t with
   |true=>obtain⟨n,hn⟩:=QO e;exact⟨n,by rw[bT,ho];exact hn⟩
   |false=>obtain⟨n,hn⟩:=Ij e;exact⟨n,by rw[bT,ho];exact hn⟩
  |_=>rw[ho]at e;cases e
 |block id b ih=>
  intro R W r e;rw[bT]at e;cases hb:bT P o top nt b R W with
  |none=>rw[hb]at e;cases e
  |some q=>rw[hb]at e;obtain⟨n,hn⟩:=ih hb;exact⟨n,by rw[bT,hn];exact e⟩
 |loop b ih=>intro R W r e;rw[bT]at e;obtain⟨n,hn⟩:=NU h (λe=>ih e) _ e;exact⟨n,by rw[bT];exact hn⟩
 |rangeFunc f ps anD bd _ _=>
  intro R W r e;unfold bT at e|-;cases top with
  |false=>cases e
  |true=>
   simp only at e|-;cases hf:aA R f with
   |func fn fs cs=>
    rw[hf]at e;cases fn with
    |func i=>
     simp only[AW.dj]at e|-;cases hc:o (.func (.func i) fs cs) [.func (.yield W.next) #[] #[]] (W.add (.loop .ready none R nt ps anD bd))with
     |none=>rw[hc]at e;cases e
     |some q=>rw[hc]at e;obtain⟨n,hn⟩:=h.of _ _ _ _ hc;exact⟨n,by rw[hn];exact e⟩
    |_=>cases e
   |_=>rw[hf]at e;cases e
def NQ(h:O8 c o){bad:List Nat}{spec:Callee}{f:ae}{a:List ae}{W:AW}{r:ae×AW}(e:jn P bad spec o f a W=some r):∃n,jn P bad spec (c n) f a W=some r:=by
 unfold jn at e|-;cases f with
 |func fn fs cs=>
  cases fn with
  |func i=>
   simp only at e|-;cases hb:GI i bad with
   |true=>rw[hb]at e;exact⟨0,e⟩
   |false=>
    rw[hb]at e;simp only at e|-;cases hf:P.funcs[i]? with
    |none=>rw[hf]at e;cases e
    |some fn=>
     rw[hf]at e;simp only at e|-;cases hc:fn.body with
     |none=>rw[hc]at e;cases e
     |some k=>
      rw[hc]at e;simp only at e|-;cases hl:Nat.ble (fs.toList.length+(a.length+cs.toList.length)) fn.ntmps with
      |false=>rw[hl]at e;cases e
      |true=>
       rw[hl]at e;simp only at e|-;cases hk:bT P o true fn.ntmps k (dQ 0 (fs.toList++(a++cs.toList)) ak.blank) W with
       |none=>rw[hk]at e;cases e
       |some q=>rw[hk]at e;obtain⟨n,hn⟩:=xR h k hk;exact⟨n,by rw[hn];exact e⟩
  |yield l=>
   simp only at e|-;split at e;case h_2=>cases e
   rename_i R nt ps anD bd hl;cases hn:Nat.beq (fs.toList.length+a.length) ps.size with
   |false=>rw[hn]at e;cases e
   |true=>
    rw[hn]at e;simp only at e|-;cases h1:bT P o false nt anD (lR ps.toList (fs.toList++a) R) W with
    |none=>rw[h1]at e;cases e
    |some q=>
     rw[h1]at e;obtain⟨n,hn1⟩:=xR h anD h1;obtain⟨x,R1,W1⟩:=q;cases x with
     |normal=>
      simp only at e;split at e;case h_2=>cases e
      rename_i Sl R9 Lg K9 LV KS hg;cases h2:bT P o false nt bd R1 (W1.put l (.loop .busy Sl R9 Lg K9 LV KS))with
      |none=>rw[h2]at e;cases e
      |some q2=>rw[h2]at e;obtain⟨m,hm⟩:=xR h bd h2;refine⟨max n m,?_⟩;rw[j6 (h.le (pW n m)) anD hn1];simp only;rw[hg];simp only;rw[j6 (h.le (sZ n m)) bd hm];exact e
     |exit i=>cases e
     |ret=>cases e
  |_=>cases e
 |_=>cases e
end
end
end
section
variable [ak]
def Su.back{σ σ':cV}(hs:Sub σ σ'){f u u':Fn}(h:Su σ f u)(k:Su σ' f u'):Su σ f u':=by
 cases h with
 |func f=>cases k;exact .func f
 |yield l g hg=>
  cases k with
  |yield _ g' AL=>have:=(hs _ _ hg).symm.trans AL;injection this with this;subst this;exact .yield l g hg
def VR.back{σ σ':cV}(hs:Sub σ σ'){v u:ae}(h:VR σ v u):∀{u':ae},VR σ' v u'->VR σ v u':=by
 induction h with
 |bool b=>intro u' k;cases k;exact .bool b
 |int k n=>intro u' k;cases k;exact .int _ _
 |float k n=>intro u' k;cases k;exact .float _ _
 |string s=>intro u' k;cases k;exact .string s
 |Gg=>intro u' k;cases k;exact .Gg
 |ptr a g hg sw=>
  intro u' k;cases k with
  |ptr _ g' AL hs'=>have:=(hs _ _ hg).symm.trans AL;injection this with this;subst this;exact .ptr a g hg sw
 |B9 l c=>intro u' k;cases k;exact .B9 _ _
 |slice a l c c' g hg sw hc=>
  intro u' k;cases k with
  |slice _ _ _ c2 g' AL hs' oN=>have:=(hs _ _ hg).symm.trans AL;injection this with this;subst this;exact .slice a l c c2 g hg sw oN
  |di _ a' _ g' AL oN=>have:=(hs _ _ hg).symm.trans AL;injection this with this;subst this;exact .di a a' c g hg oN
 |di a a' c g hg hc=>
  intro u' k;cases k with
  |slice _ _ _ c2 g' AL hs' oN=>have:=(hs _ _ hg).symm.trans AL;injection this with this;subst this;exact .slice a 0 c c2 g hg hs' oN
  |di _ a2 _ g' AL oN=>exact .di a a2 c g hg oN
 |II=>intro u' k;cases k;exact .II
 |map r g hg=>
  intro u' k;cases k with
  |map _ g' AL=>have:=(hs _ _ hg).symm.trans AL;injection this with this;subst this;exact .map r g hg
 |nilFunc=>intro u' k;cases k;exact .nilFunc
 |func fn CQ fs rJ cs cz hf h1 _ h3 _ ih1 ih2=>
  intro u' k;cases k with
  |func _ fn2 _ fs2 _ CI kf k1 k2 k3 k4=>
   refine .func _ _ _ _ _ _ (hf.back hs kf) k1 (λi v v' a b=>?_) k3 (λi v v' a b=>?_)
   ·have hi:i<rJ.size:=by rw[<-h1];exact(dB.1 a).1
    exact ih1 i v _ a (gp hi) (k2 i v v' a b)
   ·have hi:i<cz.size:=by rw[<-h3];exact(dB.1 a).1
    exact ih2 i v _ a (gp hi) (k4 i v v' a b)
 |nilIface=>intro u' k;cases k;exact .nilIface
 |iface t v v' _ ih=>
  intro u' k;cases k with
  |iface _ _ v2 k=>exact .iface t v v2 (ih k)
 |agg cs cz h1 _ ih=>
  intro u' k;cases k with
  |agg _ CI k1 k2=>
   refine .agg _ _ k1 λi v v' a b=>?_
   have hi:i<cz.size:=by rw[<-h1];exact(dB.1 a).1
   exact ih i v _ a (gp hi) (k2 i v v' a b)
 |tuple cs cz h1 _ ih=>
  intro u' k;cases k with
  |tuple _ CI k1 k2=>
   refine .tuple _ _ k1 λi v v' a b=>?_
   have hi:i<cz.size:=by rw[<-h1];exact(dB.1 a).1
   exact ih i v _ a (gp hi) (k2 i v v' a b)
def kA.back{σ σ':cV}(hs:Sub σ σ'){h h':Array Obj}{g:rB}{o:dO}(a:kA σ h g o)(b:kA σ' h' g o):kA σ h' g o:=by
 cases o with
 |cells cs=>obtain⟨c1,t1,_,_,_,_,_,e4⟩:=a;obtain⟨c2,t2,fr2,f1,f0,f2,f3,f4⟩:=b;refine⟨c2,t2,fr2,f1,f0,f2,f3,λi v hv=>?_⟩;obtain⟨v1,_,x⟩:=e4 i v hv;obtain⟨v2,y1,y2⟩:=f4 i v hv;exact⟨v2,y1,x.back hs y2⟩
 |ro cs=>obtain⟨c1,t1,fr1,_,_,e4⟩:=a;obtain⟨c2,t2,fr2,f1,f2,f4⟩:=b;refine⟨c2,t2,fr2,f1,f2,λi v hv=>?_⟩;obtain⟨v1,_,x⟩:=e4 i v hv;obtain⟨v2,y1,y2⟩:=f4 i v hv;exact⟨v2,y1,x.back hs y2⟩
 |map es jj=>
  obtain⟨e1,e2,es1,_,⟨e3,e4⟩⟩:=a;obtain⟨f1,f2,T2,f3,⟨f4,f5⟩⟩:=b;refine⟨f1,f2,T2,f3,f4,λi e e' x y=>?_⟩;have hi:i<es1.toList.length:=by rw[<-e3];exact(dV.1 x).1
  obtain⟨p1,p2,_⟩:=e4 i e _ x (dm hi);obtain⟨q1,q2,q3⟩:=f5 i e e' x y;exact⟨p1.back hs q1,p2.back hs q2,q3⟩
 |loop st kV R nt ps anD bd=>obtain⟨_,_,r1,_,_,_,⟨_,e4⟩,_,_,_,e8,e9,e10⟩:=a;obtain⟨f1,f2,r2,f3,f4,f5,⟨f6,f7⟩,f8,f9,wl,_,_,_⟩:=b;exact⟨f1,f2,r2,f3,f4,f5,⟨f6,λt ht=>(e4 t ht).back hs (f7 t ht)⟩,f8,f9,wl,e8,e9,e10⟩
 |kW s pos=>exact b
 |tc t cs=>obtain⟨_,_,_,c1,_,_,_,e4⟩:=a;obtain⟨b1,b2,b3,c2,f1,f2,f3,f4⟩:=b;refine⟨b1,b2,b3,c2,f1,f2,f3,λi v hv=>?_⟩;obtain⟨v1,_,x⟩:=e4 i v hv;obtain⟨v2,y1,y2⟩:=f4 i v hv;exact⟨v2,y1,x.back hs y2⟩
structure Le (W W':AW):Prop where
 next:W.next<=W'.next
 get:∀b,b<W.next->W'.get b=W.get b
def Le.refl(W:AW):Le W W:=⟨aS _,λ_ _=>rfl⟩
def Le.trans{A B C:AW}(h:Le A B)(k:Le B C):Le A C:=⟨fL h.next k.next,λb hb=>(k.get b (fg hb h.next)).trans (h.get b hb)⟩
def Le.add{W W':AW}(h:Le W W')(o:dO):Le W (W'.add o):=
 ⟨fL h.next (by rw[AW.aL];omega),λb hb=>by rw[AW.bC _ _ (by have:=h.next;omega)];exact h.get b hb⟩
def Le.put{W W':AW}(h:Le W W'){b:Nat}(hb:W.next<=b)(o:dO):Le W (W'.put b o):=
 ⟨h.next,λc hc=>by rw[AW.aE _ _ (by omega)];exact h.get c hc⟩
def Le.kill{W W':AW}(h:Le W W'){b:Nat}(hb:W.next<=b):Le W (W'.kill b):=
 ⟨h.next,λc hc=>by rw[AW.dL _ (by omega)];exact h.get c hc⟩
def Uv{σ σ':cV}{W W':AW}{w w':aq}(hW:bg σ W w.heap)(bi:Le W W')(h1:bg σ' W' w'.heap)(he:eB σ W w σ' W' w'):bg σ W w'.heap/\eB σ W w σ W w':=by
 have gY:∀b o,W.get b=some o->b<W.next:=λb o hb=>by
  rcases Nat.lt_or_ge b W.next with h|h
  ·exact h
  ·rw[hW.free b h]at hb;cases hb
 refine⟨⟨hW.free,λb g hg=>⟨(hW.np b g hg).1,fg (hW.np b g hg).2 he.size⟩,λb o g hb hg=>?_,λb1 b2 o1 o2 g1 g2 fe a1 a2 k1 k2 hr=>?_⟩,
  ⟨.refl _,λ_ _ h=>h,he.size,he.os,he.tape,he.output,he.dK,λ_ _ h k=>⟨h,k⟩,λb g hg _=>.inl hg⟩⟩
 ·exact(hW.obj b o g hb hg).back he.sub (h1.obj b o g (by rw[bi.get b (gY b o hb)];exact hb) (he.sub _ _ hg))
 ·exact hW.ny b1 b2 o1 o2 g1 g2 fe a1 a2 k1 k2 hr
def Y3:ae->Bool
 |.tuple vs=>vs.isEmpty
 |_=>false
def gc(W:AW)(r:ae×AW):ae×AW:=
 open Classical in if(bI r.1&& !Y3 r.1)=true/\Le W r.2 then(r.1,W)else r
def rf{W W':AW}{v:ae}(hv:(bI v&& !Y3 v)=true)(h:Le W W'):gc W (v,W')=(v,W):=by unfold gc;rw[ax ⟨hv,h⟩]
def uB{W W':AW}{v:ae}(hv:(bI v&& !Y3 v)=false):gc W (v,W')=(v,W'):=by unfold gc;rw[ay (by simp only[hv];simp)]
def Xk(f:ae)(W:AW)(r:ae×AW):ae×AW:=match f with
 |.func (.func _) _ _=>gc W r
 |_=>r
def abj{P:ah}{ng:List Nat}{c:Callee}(hc:bV P ng c):bV P ng λf a W=>(c f a W).map (Xk f W):=by
 intro f args W v W' h σ w f' da hW hG hf cM;simp only at h;cases hr:c f args W with
 |none=>rw[hr]at h;cases h
 |some q=>
  rw[hr]at h;obtain⟨v1,W1⟩:=q;have hk:=hc f args W v1 W1 hr σ w f' da hW hG hf cM;simp only[cD,fI]at h;unfold Xk at h;split at h;case h_2=>injection h with e1 e2;subst e1;subst e2;exact hk
  unfold gc at h;split at h
  ·rename_i hp;injection h with e1 e2;subst e1;subst e2;have mq:bI v1=true:=(bB _ _▸hp.1).1;have key:∀(R R':ae->aq->Prop),(∀v' w',R v' w'->R' v' w')->tH P f' da w R->tH P f' da w R':=by
    intro R R' hRR hC;unfold tH at hC|-;split at hC
    ·exact⟨hC.1,mf hC.2 λe w' ⟨u,hu,hr⟩=>⟨u,hu,hRR _ _ hr⟩⟩
    ·obtain⟨f,tmps,anD,bd,k1,k2⟩:=hC;exact⟨f,tmps,anD,bd,k1,RoundIn.mono k2 λe w' ⟨u,hu,hr⟩=>⟨u,hu,hRR _ _ hr⟩⟩
    ·exact hC.elim
   refine key _ _ (λv' w' ⟨σ',k1,k2,k3⟩=>?_) hk;obtain⟨d1,d2⟩:=Uv hW hp.2 k2 k3;have:v'=v1:=eS mq k1;subst this;exact⟨σ,hX mq,d1,d2⟩
  ·injection h with e1 e2;subst e1;subst e2;exact hk
section
variable (P:ah) (bad:List Nat) (spec:Callee)
def gC:Nat->Callee
 |0=>λ_ _ _=>none
 |n+1=>λf a W=>(jn P bad spec (gC n) f a W).map (Xk f W)
def adi:∀n,HE (gC P bad spec n) (gC P bad spec (n+1)):=by
 intro n;induction n with
 |zero=>intro f a W r h;cases h
 |succ n ih=>
  intro f a W r h;have h':(jn P bad spec (gC P bad spec n) f a W).map (Xk f W)=some r:=h;show(jn P bad spec (gC P bad spec (n+1)) f a W).map (Xk f W)=some r;cases hb:jn P bad spec (gC P bad spec n) f a W with
  |none=>rw[hb]at h';cases h'
  |some q=>rw[hb]at h';rw[Sm ih _ _ _ _ hb];exact h'
def om:Callee:=λf a W=>open Classical in if h:∃r n,gC P bad spec n f a W=some r then some (Classical.choose h)else none
def DX:O8 (gC P bad spec) (om P bad spec):=by
 refine⟨adi P bad spec,λf a W r h=>?_⟩;unfold om at h;split at h
 ·rename_i hx;injection h with h;subst h;exact xC hx
 ·cases h
def ads{n:Nat}{f:ae}{a:List ae}{W:AW}{r:ae×AW}(h:gC P bad spec n f a W=some r):om P bad spec f a W=some r:=by have hx:∃r n,gC P bad spec n f a W=some r:=⟨r,n,h⟩;unfold om;rw[dif_pos hx];obtain⟨m,hm⟩:=xC hx;have h1:=(DX P bad spec).le (pW n m) _ _ _ _ h;have h2:=(DX P bad spec).le (sZ n m) _ _ _ _ hm;rw[h1]at h2;exact h2.symm
def D9{f:ae}{a:List ae}{W:AW}{r:ae×AW}(h:jn P bad spec (om P bad spec) f a W=some r):om P bad spec f a W=some (Xk f W r):=by obtain⟨n,hn⟩:=NQ (DX P bad spec) h;refine ads P bad spec (n:=n+1) ?_;show(jn P bad spec (gC P bad spec n) f a W).map (Xk f W)=_;rw[hn];rfl
variable {P bad spec}
def Wj(hm:P.follows .mixedOrders=true)(hP:ky ak.ng bad 0 P.funcs.toList=true)(hs:bV P ak.ng spec):∀n,bV P ak.ng (gC P bad spec n)
 |0=>λf args W v W' h=>by cases h
 |n+1=>abj (yU hm rfl hP hs (Wj hm hP hs n))
def aco(hm:P.follows .mixedOrders=true)(hP:ky ak.ng bad 0 P.funcs.toList=true)(hs:bV P ak.ng spec):bV P ak.ng (om P bad spec):=by intro f args W v W' h;obtain⟨n,hn⟩:=(DX P bad spec).of _ _ _ _ h;exact Wj hm hP hs n f args W v W' hn
def Yz{i:Nat}{fn:eV}{c:bs}(hb:GI i bad=false)(hf:P.funcs[i]? =some fn)(hc:fn.body=some c){fs cs:Array ae}{args:List ae}
 (hn:Nat.ble (fs.toList.length+(args.length+cs.toList.length)) fn.ntmps=true){W:AW}{r:ae×AW}(h:Tj P (om P bad spec) fn.ntmps c fn.results (fs.toList++(args++cs.toList)) W=some r):
 om P bad spec (.func (.func i) fs cs) args W=some (gc W r):=D9 P bad spec (Of hb hf hc hn h)
def SI{l nt:Nat}{R:ak.Fr}{ps:Array Tmp}{anD bd:bs}{W:AW}(hl:W.get l=some (.loop .ready none R nt ps anD bd)){fs cs:Array ae}{args:List ae}(hn:fs.toList.length+args.length=ps.size)
 {r:ae×AW}(h:EH P (om P bad spec) l nt anD bd (lR ps.toList (fs.toList++args) R) W=some r):om P bad spec (.func (.yield l) fs cs) args W=some r:=D9 P bad spec (H9 hl hn h)
def Es{i:Nat}(hb:GI i bad=true){fs cs:Array ae}{args:List ae}{W:AW}{r:ae×AW}(h:spec (.func (.func i) fs cs) args W=some r):
 om P bad spec (.func (.func i) fs cs) args W=some (gc W r):=by
 refine D9 P bad spec ?_;unfold jn;simp only[hb];exact h
end
end
section
variable [ak]
def vY{α ρ:Type}(a:α)(g:α->Option ρ):aj (some a) g=g a:=by rw[Cj];rfl
section
variable {P:ah} {W:AW}
def WS(v:ae):j0 v W=some (v,W):=aH rfl rfl
def iR(cs:Array ae):cC (.agg cs) W=some (.pointer (some ⟨W.next,0,none⟩),W.add (.cells cs.toList)):=aH rfl rfl
def G2(k:aN)(n:Int):cC (.int k n) W=some (.pointer (some ⟨W.next,0,none⟩),W.add (.cells [.int k n])):=aH rfl rfl
def Oz(b:Bool):cC (.bool b) W=some (.pointer (some ⟨W.next,0,none⟩),W.add (.cells [.bool b])):=aH rfl rfl
def GQ(s:ByteArray):cC (.string s) W=some (.pointer (some ⟨W.next,0,none⟩),W.add (.cells [.string s])):=aH rfl rfl
def Bg(a:Option aP)(l c:Nat):cC (.slice a l c) W=some (.pointer (some ⟨W.next,0,none⟩),W.add (.cells [.slice a l c])):=aH rfl rfl
def On(f:Fn)(a b:Array ae):cC (.func f a b) W=some (.pointer (some ⟨W.next,0,none⟩),W.add (.cells [.func f a b])):=aH rfl rfl
def I6(f:gn)(a b:Array ae):vq (.func f) a b W=some (.func (.func f) a b,W):=aH rfl rfl
def EJ(a b:ae):au (.tuple #[a,b]) 0 W=some (a,W):=aH rfl rfl
def D5(a b:ae):au (.tuple #[a,b]) 1 W=some (b,W):=aH rfl rfl
def DZ(a b c:ae):au (.tuple #[a,b,c]) 0 W=some (a,W):=aH rfl rfl
def Ek(a b c:ae):au (.tuple #[a,b,c]) 1 W=some (b,W):=aH rfl rfl
def Et(a b c:ae):au (.tuple #[a,b,c]) 2 W=some (c,W):=aH rfl rfl
def Pf(b:Bool):aZ (.bool b) true=b:=by cases b<;>exact aH rfl rfl
def OD(b:Bool):aZ (.bool b) false= !b:=by cases b<;>exact aH rfl rfl
def R7{ρ:Type}(a b:ρ):aU true a b=a:=aH rfl rfl
def OG{ρ:Type}(a b:ρ):aU false a b=b:=aH rfl rfl
def SN{ρ:Type}(c:Bool)(a b:Option ρ):bf (.bool c) a b=aU c a b:=aH rfl rfl
def IU(c:Bool)(a b:ae):bt (.bool c) a b W=some (aU c a b,W):=by cases c<;>exact aH rfl rfl
def Fw{ρ:Type}(a b:Option ρ):qy X.normal a b=a:=aH rfl rfl
def JE{ρ:Type}(i:Nat)(a b:Option ρ):qy (X.exit i) a b=b:=aH rfl rfl
def ON{ρ:Type}(a b:Option ρ):qy X.ret a b=b:=aH rfl rfl
def JY{ρ:Type}(i:Nat)(a b:Option ρ):dE i (X.exit i) a b=a:=by show Bool.rec b a (Nat.beq i i)=a;rw[nQ]
def OO{ρ:Type}(i:Nat)(a b:Option ρ):dE i X.ret a b=b:=aH rfl rfl
def EM{ρ:Type}(i:Nat)(a b:Option ρ):dE i X.normal a b=b:=aH rfl rfl
def NM{ρ:Type}(a:Option ρ):iK X.ret a=a:=aH rfl rfl
def Ve(b:Bool):CP P .not (.bool b) W=some (.bool (!b),W):=aH rfl rfl
def Xi(f:gn):cN f=.func (.func f) #[] #[]:=aH rfl rfl
def jL{op:BinOp}{t:ai}{c d:Bool}{k:aN}{a b:Int}{v:ae}(h:CD op k a b=some v):aw P op t c d (.int k a) (.int k b) W=some (v,W):=by unfold aw pn;simp only[ax,h]
def BY{n:Int}(h1: -9223372036854775808<=n)(h2:n<9223372036854775808):IntKind.i64.wrap n=n:=by unfold IntKind.wrap;simp only[IntKind.bits,IntKind.signed,je];split<;>rename_i h<;>simp at h<;>omega
def cY{t:ai}{c d:Bool}{a b:Int}(h1: -9223372036854775808<=a+b)(h2:a+b<9223372036854775808):aw P .add t c d (.af a) (.af b) W=some (.af (a+b),W):=
 jL (by simp only[CD,pr,wi,BY h1 h2])
def pj{t:ai}{c d:Bool}{a b:Int}(h1: -9223372036854775808<=a-b)(h2:a-b<9223372036854775808):aw P .sub t c d (.af a) (.af b) W=some (.af (a-b),W):=
 jL (by simp only[CD,pr,wi,BY h1 h2])
def GY{t:ai}{c d:Bool}{a b:Int}(h1: -9223372036854775808<=a*b)(h2:a*b<9223372036854775808):aw P .mul t c d (.af a) (.af b) W=some (.af (a*b),W):=
 jL (by simp only[CD,pr,wi,BY h1 h2])
def Sp{t:ai}{c d:Bool}{k:aN}{a b:Int}:aw P .lss t c d (.int k a) (.int k b) W=some (.bool (decide (a<b)),W):=jL rfl
def Qw{t:ai}{c d:Bool}{k:aN}{a b:Int}:aw P .leq t c d (.int k a) (.int k b) W=some (.bool (decide (a<=b)),W):=jL rfl
def Ra{t:ai}{c d:Bool}{k:aN}{a b:Int}:aw P .gtr t c d (.int k a) (.int k b) W=some (.bool (decide (b<a)),W):=jL rfl
def Rr{t:ai}{c d:Bool}{k:aN}{a b:Int}:aw P .geq t c d (.int k a) (.int k b) W=some (.bool (decide (b<=a)),W):=jL rfl
def Ph{t:ai}{c d:Bool}{k:aN}{a b:Int}:aw P .eql t c d (.int k a) (.int k b) W=some (.bool (decide (a=b)),W):=jL rfl
def Rk{t:ai}{c d:Bool}{k:aN}{a b:Int}:aw P .neq t c d (.int k a) (.int k b) W=some (.bool (!decide (a=b)),W):=jL rfl
def F7{s:Sem ae}{v:ae}(h:cd P s=some v):vD (cd P (do pure (.value (<-s))))=some v:=by
 induction s with
 |pure a=>simp only[cd]at h;injection h with h;subst h;rfl
 |program k ih=>exact ih P h
 |_=>simp[cd]at h
def xn{op:BinOp}{t:ai}{c d:Bool}{x y v:ae}(h0:pn P W op t x y=none)(hx:bI x=true)(hy:bI y=true)(hv:bI v=true)
 (hp:cd P (do eqGuard op t (opd c) (opd d) x y;binOp op t x y:Sem ae)=some v):aw P op t c d x y W=some (v,W):=by
 unfold aw;rw[h0];simp only[jV,hx,hy,sR,bk,F7 hp,hv,cD]
def vB{t:ai}{c d:Bool}{k:aN}{a b:Int}(hb:b≠0):aw P .rem t c d (.int k a) (.int k b) W=some (.int k (a.tmod b),W):=by refine xn (by simp[pn,CD]) rfl rfl rfl ?_;simp[eqGuard,binOp,Op.intDiv,hb];rfl
def OI{op:BinOp}(ho:op=.and\/op=.or\/op=.xor\/op=.andNot){t:ai}{c d:Bool}{k:aN}{a b n:Int}(h:cd P (Op.intBits op k a b)=some (.int k n)):aw P op t c d (.int k a) (.int k b) W=some (.int k n,W):=by refine xn (by rcases ho with rfl|rfl|rfl|rfl<;>simp[pn,CD]) rfl rfl rfl ?_;rcases ho with rfl|rfl|rfl|rfl<;>simpa[eqGuard,binOp]using h
def Sc{t:ai}{c d:Bool}{k:aN}{a b:Int}:aw P .and t c d (.int k a) (.int k b) W=some (.int k (k.wrap (BitVec.ofInt k.bits a&&&BitVec.ofInt k.bits b).toNat),W):=OI (.inl rfl) rfl
def eL{α β:Type}(s:Sem α)(f:α->Sem β):cd P (s>>=f)=(cd P s).bind λa=>cd P (f a):=by
 induction s with
 |pure a=>rfl
 |program k ih=>exact ih P
 |_=>rfl
def fq{α:Type}(a:α):cd P (pure a:Sem α)=some a:=aH rfl rfl
def zi:cd P (program:Sem ah)=some P:=aH rfl rfl
def eU{t:ai}{d:TypeDesc}(h:P.underlying t=some d):cd P (underlying t)=some d:=by unfold underlying;simp only[eL,zi,bq,h,fq]
def xS{t:ai}{c d:Bool}{a b:ByteArray}:aw P .eql t c d (.string a) (.string b) W=some (.bool (a.toList==b.toList),W):=by
 refine xn ?_ rfl rfl rfl ?_
 ·simp only[pn];have h1:mh P W t (.string a) (.string b)=none:=by unfold mh;split<;>first|rfl|simp_all
  rw[h1];rfl
 ·rfl
def OA{ts:Array ai}{ty:ai}{cf:Array Bool}{e:ai}(h:(ts[0]?).bind P.underlying=some (.slice e))(a:Option aP)(n c:Nat):aG P .len ts ty cf [.slice a n c] W=some (.af n,W):=by unfold aG;simp only[h];rfl
def IQ(v:ae):aD P [(v,none)] W=some (v,W):=aH rfl rfl
def I8(v u:ae):aD P [(v,none),(u,none)] W=some (.tuple #[v,u],W):=aH rfl rfl
def JQ(v u x:ae):aD P [(v,none),(u,none),(x,none)] W=some (.tuple #[v,u,x],W):=aH rfl rfl
def Py:aD P [] W=some (.tuple #[],W):=aH rfl rfl
def cU{b o:Nat}{cs:List ae}{v:ae}(h:aI W b=some cs)(hv:cs[o]? =some v):aJ (.pointer (some ⟨b,o,none⟩)) W=some (v,W):=by unfold aJ;simp only[h,Fg,hv,cD]
def fy{n b o:Nat}{cs:List ae}(h:aI W b=some cs)(hv:((cs.drop o).take n).length=n):bA n (.pointer (some ⟨b,o,none⟩)) W=some (.agg ((cs.drop o).take n).toArray,W):=by unfold bA;simp only[gG,h,hv,bk,cD]
def bm{b:Nat}{cs:List ae}(h:W.get b=some (.cells cs)):aI W b=some cs:=by unfold aI;rw[h]
def Ah{b:Nat}{cs:List ae}(h:W.get b=some (.ro cs)):aI W b=some cs:=by unfold aI;rw[h]
def bp{cs:List ae}:aI (W.add (.cells cs)) W.next=some cs:=bm (W.a8 _)
def rQ{b:Nat}(o:dO)(h:b<W.next):aI (W.add o) b=aI W b:=by unfold aI;rw[W.bC o (by omega)]
def nW{b:Nat}(cs:List ae):aI (W.put b (.cells cs)) b=some cs:=bm (W.bE _ _)
def rz{b c:Nat}(o:dO)(h:b≠c):aI (W.put b o) c=aI W c:=by unfold aI;rw[W.aE o h]
def Le.aI{W W':AW}(h:Le W W'){b:Nat}(hb:b<W.next):aI W' b=aI W b:=by unfold Eng.aI;rw[h.get b hb]
def rR{n b o:Nat}{cs:List ae}{v:ae}(h:W.get b=some (.cells cs))(hn:v.cells.size=n)(hl:o+v.cells.toList.length<=cs.length)(h1:v.cells.toList.all one=true):
 bU n (.pointer (some ⟨b,o,none⟩)) v W=some (ag,W.put b (.cells (fN cs o v.cells.toList))):=by
 unfold bU;simp only[hn,bk,BX,h,ax (show o+v.cells.toList.length<=cs.length/\v.cells.toList.all one=true from⟨hl,h1⟩),cD]
def XQ{b o off:Nat}:aR off (.pointer (some ⟨b,o,none⟩)) W=some (.pointer (some ⟨b,o+off,none⟩),W):=by unfold aR;simp only[dy]
def t7{z b o l c i:Nat}{k:aN}(h:i<l):iY z (.slice (some ⟨b,o,none⟩) l c) (.int k (i:Int)) W=some (.pointer (some ⟨b,o+i*z,none⟩),W):=by unfold iY;simp only[lh,ax h,dy]
def pN{len z b o i:Nat}{k:aN}(h:i<len):EI len z (.pointer (some ⟨b,o,none⟩)) (.int k (i:Int)) W=some (.pointer (some ⟨b,o+i*z,none⟩),W):=by unfold EI;simp only[lh,ax h,dy]
end
section
variable {P:ah} {W:AW}
def Sw{b o:Nat}:aJ (.pointer (some ⟨b,o,none⟩)) W=(aI W b).bind λcs=>(cs[o]?).map λv=>(v,W):=by
 unfold aJ;simp only;cases aI W b with
 |none=>rfl
 |some cs=>simp only[bq,Fg]
def Ay{n b o:Nat}:bA n (.pointer (some ⟨b,o,none⟩)) W=(aI W b).bind λcs=>if((cs.drop o).take n).length=n then some (.agg ((cs.drop o).take n).toArray,W)else none:=by
 unfold bA;simp only[gG];cases aI W b with
 |none=>rfl
 |some cs=>
  simp only[bq];by_cases h:((cs.drop o).take n).length=n
  ·rw[ax h,ax h];rfl
  ·rw[ay h,ay h];rfl
def aF(W:AW)(b:Nat):Option (List ae):=match W.get b with|some (.cells cs)=>some cs|_=>none
def fj{b:Nat}{cs:List ae}(h:aF W b=some cs):aI W b=some cs:=by
 unfold aF at h;split at h
 ·rename_i cz hg;injection h with h;subst h;exact bm hg
 ·cases h
def jg{b:Nat}{cs:List ae}(h:W.get b=some (.cells cs)):aF W b=some cs:=by unfold aF;rw[h]
def bQ{cs:List ae}:aF (W.add (.cells cs)) W.next=some cs:=jg (W.a8 _)
def fp{b:Nat}(o:dO)(h:b<W.next):aF (W.add o) b=aF W b:=by unfold aF;rw[W.bC o (by omega)]
def br{b:Nat}(cs:List ae):aF (W.put b (.cells cs)) b=some cs:=jg (W.bE _ _)
def be{b c:Nat}(o:dO)(h:b≠c):aF (W.put b o) c=aF W c:=by unfold aF;rw[W.aE o h]
def Le.aF{W W':AW}(h:Le W W'){b:Nat}(hb:b<W.next):aF W' b=aF W b:=by unfold Eng.aF;rw[h.get b hb]
def IW{n b o:Nat}{v:ae}:bU n (.pointer (some ⟨b,o,none⟩)) v W=(aF W b).bind λcs=>if v.cells.size=n/\o+v.cells.toList.length<=cs.length/\v.cells.toList.all one=true then some (ag,W.put b (.cells (fN cs o v.cells.toList)))else none:=by
 unfold bU aF;simp only[BX];by_cases h:v.cells.size=n
 ·rw[ax h];cases hg:W.get b with
  |none=>rfl
  |some obj=>
   cases obj with
   |cells cs=>
    simp only[bq];by_cases h2:o+v.cells.toList.length<=cs.length/\v.cells.toList.all one=true
    ·rw[ax h2,ax ⟨h,h2⟩];rfl
    ·rw[ay h2,ay (λx=>h2 x.2)];rfl
   |_=>rfl
 ·rw[ay h];cases hg:W.get b with
  |none=>rfl
  |some obj=>
   cases obj with
   |cells cs=>simp only[bq];rw[ay (λx=>h x.1)];rfl
   |_=>rfl
def AA(P:ah)(t:ai):Option Nat:=match P.underlying t with
 |some (.slice e)=>kv P e
 |_=>none
def BK{t:ai}{z:Nat}(h:AA P t=some z):∃e,P.underlying t=some (.slice e)/\kv P e=some z:=by
 unfold AA at h;split at h
 ·rename_i e hu;exact⟨e,hu,h⟩
 ·cases h
def L4{t:ai}{z:Nat}(hz:AA P t=some z){b o l c h:Nat}{k:aN}(h1:h<=c)(h2:c<ge):
 gh P t (.slice (some ⟨b,o,none⟩) l c) none (some (.int k (h:Int))) none W=some (.slice (some ⟨b,o,none⟩) h c,W):=by
 obtain⟨e,he,hz⟩:=BK hz;have hb:¬(c=ge+z/\0<z):=λx=>by omega
 have h0:((⟨b,o,none⟩:aP).add (0*z))=⟨b,o,none⟩:=by rw[dy];simp
 unfold gh mD;simp only[he,hz,gj,lh,Nat.zero_le,bk,ay hb,ax (aM h2 h1),Nat.sub_zero,h0,ite_self]
def lS(P:ah)(ts:Array ai)(z bytes:Nat):Bool:=match ts.toList with
 |[t0,t1]=>Nat.beq t0 t1&&(match jo P t0 with
  |some e=>(match kv P e,(P.info? e).map (λi=>(i.zero,i.bytes))with
   |some z',some (some zv,XR)=>Nat.beq z' z&&Nat.beq XR bytes&&Nat.blt 0 z&&Nat.beq zv.cells.size z
   |_,_=>false)
  |none=>false)
 |_=>false
def km{ts:Array ai}{z bytes:Nat}(h:lS P ts z bytes=true):∃t e zv,ts.toList=[t,t]/\jo P t=some e/\kv P e=some z/\(P.info? e).map (λi=>(i.zero,i.bytes))=some (some zv,bytes)/\0<z/\zv.cells.size=z:=by
 unfold lS at h;split at h;case h_2=>cases h
 rename_i t0 t1 hl;simp only[bB,dW]at h;obtain⟨h0,h⟩:=h;subst h0;split at h;case h_2=>cases h
 rename_i e he;split at h;case h_2=>cases h
 rename_i z' zv b' h1 h2;simp only[bB,dW,i9]at h;obtain⟨⟨⟨h3,h4⟩,h5⟩,h6⟩:=h;subst h3;subst h4;exact⟨t0,e,zv,hl,he,h1,h2,h5,h6⟩
def zR{ts:Array ai}{z bytes:Nat}(hk:lS P ts z bytes=true){b o n c:Nat}{cs new:List ae}(hc:aI W b=some cs)(hn:new=(cs.drop o).take (n*z))(hl:new.length=n*z)(h0:0<n)(h1:new.all one=true)
 (hb:n<1099511627776)(iu:(2*n+192)*bytes<=281474976710656):
 aO P W ts (.slice none 0 0) (.slice (some ⟨b,o,none⟩) n c)=some (.slice (some ⟨W.next,0,none⟩) n (ge+z),W.add (.cells new)):=by
 obtain⟨t,e,zv,k1,k2,k3,k4,k5,k6⟩:=km hk;have hr:kg W b o (n*z)=some new:=by rw[gG,hc];simp only;rw[ax (by rw[<-hn];exact hl),hn]
 have hB:(0:Nat)<ge:=by unfold ge;omega
 have Lc:¬(0:Nat)=ge+z:=by unfold ge;omega
 have VF:bW W (.slice (some ⟨b,o,none⟩) n c) (n*z)=some new:=by unfold bW;simp only;rw[ay (by have:=kF h0 k5;omega),bZ];exact hr
 have S4:bW W (.slice none 0 0) (0*z)=some []:=by unfold bW;simp
 unfold aO;simp only[k1,k2,k3,k4,bk,aK,ax (aM k5 (aM k6 (aM hb iu))),ay (show¬n=0 by omega),VF,S4,h1,ay Lc,ax hB,mp,lu,AW.dj]
def I9{ts:Array ai}{z bytes:Nat}(hk:lS P ts z bytes=true){b o n c:Nat}{cs new:List ae}(hc:aI W b=some cs)(hn:new=(cs.drop o).take (n*z))(hl:new.length=n*z)(h0:0<n)(h1:new.all one=true)
 {B m:Nat}{qM:List ae}(ho:W.get B=some (.cells qM))(OX:qM.length=m*z)
 (hb:m+n<1099511627776)(iu:(2*(m+n)+192)*bytes<=281474976710656)(hm:0<m):
 aO P W ts (.slice (some ⟨B,0,none⟩) m (ge+z)) (.slice (some ⟨b,o,none⟩) n c)=some (.slice (some ⟨W.next,0,none⟩) (m+n) (ge+z),(W.kill B).add (.cells (qM++new))):=by
 obtain⟨t,e,zv,k1,k2,k3,k4,k5,k6⟩:=km hk;have hr:kg W b o (n*z)=some new:=by rw[gG,hc];simp only;rw[ax (by rw[<-hn];exact hl),hn]
 have VF:bW W (.slice (some ⟨b,o,none⟩) n c) (n*z)=some new:=by unfold bW;simp only;rw[ay (by have:=kF h0 k5;omega),bZ];exact hr
 have nS:kg W B 0 (m*z)=some qM:=by rw[gG,bm ho];simp only[jy];rw[oc (by omega),ax OX]
 have S4:bW W (.slice (some ⟨B,0,none⟩) m (ge+z)) (m*z)=some qM:=by unfold bW;simp only;rw[ay (by have:=kF hm k5;omega),bZ];exact nS
 unfold aO;simp only[k1,k2,k3,k4,bk,ax (aM k5 (aM k6 (aM hb iu))),ay (show¬n=0 by omega),VF,S4,h1,ho,AW.dj,AW.dX]
end
def Kp{body:ak.Fr->AW->Option LT}:∀(n m:Nat) (I:Nat->ak.Fr->AW->Prop) (Q:LT->Prop) (R:ak.Fr) (W:AW),n<m->I 0 R W->
 (∀k R W,k<n->I k R W->∃r,body R W=some r/\((r.1=.normal/\I (k+1) r.2.1 r.2.2)\/(r.1≠ .normal/\Q r)))->
 (∀R W,I n R W->∃r,body R W=some r/\r.1≠ .normal/\Q r)->∃r,iQ body m R W=some r/\r.1≠ .normal/\Q r:=by
 intro n;induction n with
 |zero=>
  intro m I Q R W hm h0 _ he;obtain⟨m,rfl⟩:∃k,m=k+1:=⟨m-1,by omega⟩;obtain⟨⟨x,R',W'⟩,h1,h2,h3⟩:=he R W h0;refine⟨_,?_,h2,h3⟩;unfold iQ;rw[h1];cases x with
  |normal=>exact absurd rfl h2
  |exit i=>rfl
  |ret=>rfl
 |succ n ih=>
  intro m I Q R W hm h0 hs he;obtain⟨m,rfl⟩:∃k,m=k+1:=⟨m-1,by omega⟩;obtain⟨⟨x,R',W'⟩,h1,h2⟩:=hs 0 R W (by omega) h0;rcases h2 with⟨h2,h3⟩|⟨h2,h3⟩
  ·simp only at h2 h3;subst h2;obtain⟨r,k1,k2,k3⟩:=ih m (λk=>I (k+1)) Q R' W' (by omega) h3 (λk R W hk hI=>hs (k+1) R W (by omega) hI) he;refine⟨r,?_,k2,k3⟩;unfold iQ;rw[h1];exact k1
  ·refine⟨_,?_,h2,h3⟩;unfold iQ;rw[h1];cases x with
   |normal=>exact absurd rfl h2
   |exit i=>rfl
   |ret=>rfl
def Mh{body:ak.Fr->AW->Option LT}(n:Nat)(hn:n<1000000)(I:Nat->ak.Fr->AW->Prop)(Q:LT->Prop){R:ak.Fr}{W:AW}(h0:I 0 R W)
 (hs:∀k R W,k<n->I k R W->∃r,body R W=some r/\((r.1=.normal/\I (k+1) r.2.1 r.2.2)\/(r.1≠ .normal/\Q r)))
 (he:∀R W,I n R W->∃r,body R W=some r/\r.1≠ .normal/\Q r):∃r,du body R W=some r/\Q r:=by
 rw[HP];obtain⟨r,h1,_,h2⟩:=Kp n 1000000 I Q R W hn h0 hs he;exact⟨r,h1,h2⟩
end
section
variable [ak]
def aea(P:ah)(i nt n:Nat):Bool:=match P.funcs[i]? with
 |some fn=>fn.body.isSome&&(Nat.beq fn.ntmps nt&&Nat.ble n nt)
 |none=>false
def bO{P:ah}{bad:List Nat}{spec:Callee}{i nt n:Nat}(hb:GI i bad=false)(hk:aea P i nt n=true){fs cs:Array ae}{args:List ae}(hn:fs.toList.length+(args.length+cs.toList.length)=n){W:AW}{r:ae×AW}
 (h:Tj P (om P bad spec) nt (Je P i) (VT P i) (fs.toList++(args++cs.toList)) W=some r):om P bad spec (.func (.func i) fs cs) args W=some (gc W r):=by
 unfold aea at hk;unfold Je VT at h;cases hf:P.funcs[i]? with
 |none=>rw[hf]at hk;cases hk
 |some fn=>
  rw[hf]at hk h;simp only[bB,dW]at hk h;obtain⟨h1,h2,h3⟩:=hk;cases hc:fn.body with
  |none=>rw[hc]at h1;cases h1
  |some c=>rw[hc]at h;simp only at h;subst h2;exact Yz hb hf hc (by rw[hn];exact h3) h
end
section
variable [ak]
@[congr] theorem aae {α ρ:Type} {x y:Option α} {g:α->Option ρ} (h:x=y):aj x g=aj y g:=by rw[h]
@[congr] theorem aad {ρ:Type} {c d:Bool} {a b:ρ} (h:c=d):aU c a b=aU d a b:=by rw[h]
@[congr] theorem aaf {ρ:Type} {c d:ae} {a b:Option ρ} (h:c=d):bf c a b=bf d a b:=by rw[h]
@[congr] theorem VL {ρ:Type} {i:Nat} {x y:X} {a b:Option ρ} (h:x=y):dE i x a b=dE i y a b:=by rw[h]
@[congr] theorem Vz {ρ:Type} {x y:X} {a b:Option ρ} (h:x=y):qy x a b=qy y a b:=by rw[h]
@[congr] theorem Vt {ρ:Type} {x y:X} {a:Option ρ} (h:x=y):iK x a=iK y a:=by rw[h]
theorem Xd{W W':AW}{k:aN}{n:Int}(h:Le W W'):gc W (.int k n,W')=(.int k n,W):=rf rfl h
def vE{W W':AW}{b:Bool}(h:Le W W'):gc W (.bool b,W')=(.bool b,W):=rf rfl h
section
variable {P:ah} {W:AW}
def Mr{k:aN}{n:Int}(h:0<=n):lh (.int k n)=some n.toNat:=by obtain⟨m,rfl⟩:∃m:Nat,n=(m:Int):=⟨n.toNat,by omega⟩;exact aH rfl rfl
def LD{len z b o:Nat}{k:aN}{n:Int}(h0:0<=n)(h:n.toNat<len):EI len z (.pointer (some ⟨b,o,none⟩)) (.int k n) W=some (.pointer (some ⟨b,o+n.toNat*z,none⟩),W):=by unfold EI;simp only[Mr h0,ax h,dy]
def UN(g:Nat):ae6 g=.pointer (some ⟨g,0,none⟩):=aH rfl rfl
def im(W:AW)(o o':dO):(W.add o).put W.next o'=W.add o':=by unfold AW.add AW.put;simp only[T.set_set]
def TZ(W:AW)(b:Nat)(o o':dO):(W.put b o).put b o'=W.put b o':=by unfold AW.put;simp only[T.set_set]
def Ox(cs:Array ae):(Value.agg cs).cells=cs:=aH rfl rfl
def PC(cs:List ae)(o:Nat)(v:ae)(h:o<cs.length):fN cs o [v]=cs.set o v:=by unfold fN;rw[List.set_eq_take_append_cons_drop];simp[h]
def ip{b o:Nat}{v:ae}(h:v.cells=#[v])(h1:one v=true):bU 1 (.pointer (some ⟨b,o,none⟩)) v W=(aF W b).bind λcs=>if o<cs.length then some (ag,W.put b (.cells (cs.set o v)))else none:=by
 rw[IW,h];congr 1;funext cs;by_cases hl:o<cs.length
 ·rw[ax hl,ax ⟨rfl,by simp;omega,by simp[h1]⟩,PC _ _ _ hl]
 ·rw[ay hl,ay (λx=>hl (by have:=x.2.1;simp at this;omega))]
def qj{b o:Nat}{k:aN}{n:Int}:bU 1 (.pointer (some ⟨b,o,none⟩)) (.int k n) W=(aF W b).bind λcs=>if o<cs.length then some (ag,W.put b (.cells (cs.set o (.int k n))))else none:=ip rfl rfl
def Gv{b o:Nat}{x:Bool}:bU 1 (.pointer (some ⟨b,o,none⟩)) (.bool x) W=(aF W b).bind λcs=>if o<cs.length then some (ag,W.put b (.cells (cs.set o (.bool x))))else none:=ip rfl rfl
def JJ{b o:Nat}{x:ByteArray}:bU 1 (.pointer (some ⟨b,o,none⟩)) (.string x) W=(aF W b).bind λcs=>if o<cs.length then some (ag,W.put b (.cells (cs.set o (.string x))))else none:=ip rfl rfl
def Mm{b o:Nat}{x:Option aP}{l c:Nat}:bU 1 (.pointer (some ⟨b,o,none⟩)) (.slice x l c) W=(aF W b).bind λcs=>if o<cs.length then some (ag,W.put b (.cells (cs.set o (.slice x l c))))else none:=ip rfl rfl
def sY{n b o:Nat}{vs:Array ae}:bU n (.pointer (some ⟨b,o,none⟩)) (.agg vs) W=(aF W b).bind λcs=>if vs.size=n/\o+vs.toList.length<=cs.length/\vs.toList.all one=true then some (ag,W.put b (.cells (fN cs o vs.toList)))else none:=IW
def pF(k:aN)(n:Int):one (.int k n)=true:=aH rfl rfl
def mV(s:ByteArray):one (.string s)=true:=aH rfl rfl
def P8(s:Bool):one (.bool s)=true:=aH rfl rfl
def N3(a:Option aP)(l c:Nat):one (.slice a l c)=true:=aH rfl rfl
def Sd{r:Option (ae×AW)}{u v:ae}{W':AW}(h:r=some (u,W'))(h2:fX u v=true):rP true r v=true:=by subst h;exact h2
def Dy(k:aN)(n:Int):fX (.int k n) (.int k n)=true:=by simp[fX,sS]
def JS(b:Bool):fX (.bool b) (.bool b)=true:=by simp[fX,sS]
def Fb(s:ByteArray):fX (.string s) (.string s)=true:=by simp[fX,sS,vR]
def gg{t:ai}{c d:Bool}{x y:Array ae}{r:Bool}(hg:P.eqGuardType P.depth t=false)(h:xU P 8 t (.agg x) (.agg y)=some r):aw P .neq t c d (.agg x) (.agg y) W=some (.bool (!r),W):=by
 have h0:mh P W t (.agg x) (.agg y)=none:=by unfold mh;split<;>first|rfl|simp_all
 unfold aw pn;simp only[h0,BD,hg,fJ,bG,h,cD]
def ke:List (Int×Int)->Option Bool
 |[]=>some true
 |p::l=>match some (p.1==p.2)with
  |some true=>ke l
  |some false=>some false
  |none=>none
def jW:∀l:List (Int×Int),ke l=some (l.all λp=>p.1==p.2)
 |[]=>rfl
 |p::l=>by
  unfold ke;cases h:p.1==p.2 with
  |true=>simp only[eP,h,je];exact jW l
  |false=>simp only[eP,h,jB]
def UA(k:aN)(n:Int):sS (.int k n) (.int k n)=true:=by simp[sS]
def IK(s:ByteArray):sS (.string s) (.string s)=true:=by simp[sS,vR]
def Pn(s:Bool):sS (.bool s) (.bool s)=true:=by simp[sS]
def xP(b o l c:Nat):sS (.slice (some ⟨b,o,none⟩) l c) (.slice (some ⟨b,o,none⟩) l c)=true:=by simp[sS,ub]
def FJ(l c:Nat):sS (.slice none l c) (.slice none l c)=true:=by simp[sS]
def KX(b o:Nat):sS (.pointer (some ⟨b,o,none⟩)) (.pointer (some ⟨b,o,none⟩))=true:=by simp[sS,ub]
def oV{cs:Array ae}(h:Se cs.toList cs.toList=true):fX (.agg cs) (.agg cs)=true:=h
def IX(a b c d:ae)(h1:sS a a=true)(h2:sS b b=true)(h3:sS c c=true)(h4:sS d d=true):fX (.agg #[a,b,c,d]) (.agg #[a,b,c,d])=true:=oV (by simp[Se,h1,h2,h3,h4])
def HR(b o l c:Nat):fX (.slice (some ⟨b,o,none⟩) l c) (.slice (some ⟨b,o,none⟩) l c)=true:=xP b o l c
def JM(l c:Nat):fX (.slice none l c) (.slice none l c)=true:=FJ l c
def M3(b o:Nat):fX (.pointer (some ⟨b,o,none⟩)) (.pointer (some ⟨b,o,none⟩))=true:=KX b o
def rE{u v:ae}{W':AW}:rP true (some (u,W')) v=fX u v:=aH rfl rfl
end
def Ok{ρ:Type}(t:Option ρ)(G:ρ->Prop):Prop:=∃x,t=some x/\G x
def am{ρ:Type}{x:ρ}{G:ρ->Prop}:Ok (some x) G<->G x:=⟨λ⟨y,h,g⟩=>by injection h with h;subst h;exact g,λg=>⟨x,rfl,g⟩⟩
def Ok.mono{ρ:Type}{t:Option ρ}{G H:ρ->Prop}(h:Ok t G)(hg:∀x,G x->H x):Ok t H:=let⟨x,a,b⟩:=h;⟨x,a,hg x b⟩
def cx{ρ:Type}{body:ak.Fr->AW->Option LT}{R:ak.Fr}{W:AW}{K:LT->Option ρ}{G:ρ->Prop}(n:Nat)(hn:n<1000000)(I:Nat->ak.Fr->AW->Prop)(Q:LT->Prop)(h0:I 0 R W)
 (hs:∀k R W,k<n->I k R W->Ok (body R W) λr=>(r.1=.normal/\I (k+1) r.2.1 r.2.2)\/(r.1≠ .normal/\Q r))
 (he:∀R W,I n R W->Ok (body R W) λr=>r.1≠ .normal/\Q r)(hk:∀r,Q r->Ok (K r) G):Ok (aj (du body R W) K) G:=by
 obtain⟨r,h1,h2⟩:=Mh n hn I Q h0 hs he;rw[h1,vY];exact hk r h2
def bS{o t:Option (ae×AW)}{v:ae}{W:AW}(hv:(bI v&& !Y3 v)=true)(h:Ok t λr=>r.1=v/\Le W r.2)(OT:∀{r},t=some r->o=some (gc W r)):o=some (v,W):=by obtain⟨⟨u,W'⟩,h1,h2,h3⟩:=h;simp only at h2;subst h2;rw[OT h1,rf hv h3]
def Row{α:Type}(W:AW)(z:Nat)(at_:List ae->Nat->α->Prop)(v:ae)(l:List α):Prop:=
 ∃a c,v=.slice a l.length c/\(l=[]\/∃b o cs,a=some ⟨b,o,none⟩/\b<W.next/\aI W b=some cs/\∀i (h:i<l.length),at_ cs (o+i*z) l[i])
def BG(k:aN)(cs:List ae)(p:Nat)(n:Int):Prop:=cs[p]? =some (.int k n)
abbrev oZ(W:AW)(v:ae)(l:List Int):Prop:=Row W 1 (BG .i64) v l
def Row.mono{α:Type}{W W':AW}{z:Nat}{at_:List ae->Nat->α->Prop}{v:ae}{l:List α}(h:Row W z at_ v l)(bi:Le W W'):Row W' z at_ v l:=by
 obtain⟨a,c,rfl,h⟩:=h;refine⟨a,c,rfl,?_⟩;rcases h with h|⟨b,o,cs,h1,h2,h3,h4⟩
 ·exact .inl h
 ·exact .inr ⟨b,o,cs,h1,fg h2 bi.next,by rw[bi.aI h2];exact h3,h4⟩
def Row.len{α:Type}{W:AW}{z:Nat}{at_:List ae->Nat->α->Prop}{v:ae}{l:List α}(h:Row W z at_ v l){P:ah}{ts:Array ai}{e:ai}(ht:(ts[0]?).bind P.underlying=some (.slice e))(W':AW)(ty:ai)(cf:Array Bool):
 aG P .len ts ty cf [v] W'=some (.af l.length,W'):=by
 obtain⟨a,c,rfl,_⟩:=h;exact OA ht _ _ _
def Row.elem{α:Type}{W:AW}{z:Nat}{at_:List ae->Nat->α->Prop}{v:ae}{l:List α}(h:Row W z at_ v l){i:Nat}(hi:i<l.length):
 ∃b o cs,(∀W' k,iY z v (.int k (i:Int)) W'=some (.pointer (some ⟨b,o,none⟩),W'))/\b<W.next/\aI W b=some cs/\at_ cs o l[i]:=by
 obtain⟨a,c,rfl,h⟩:=h;rcases h with rfl|⟨b,o,cs,rfl,h2,h3,h4⟩
 ·simp at hi
 ·exact⟨b,o+i*z,cs,λW' k=>t7 hi,h2,h3,h4 i hi⟩
def oZ.get{W:AW}{v:ae}{l:List Int}(h:oZ W v l){i:Nat}(hi:i<l.length):
 ∃p,(∀W' k,iY 1 v (.int k (i:Int)) W'=some (p,W'))/\∀W',Le W W'->aJ p W'=some (.af l[i],W'):=by
 obtain⟨b,o,cs,h1,h2,h3,h4⟩:=h.elem hi;exact⟨_,h1,λW' bi=>cU (by rw[bi.aI h2];exact h3) h4⟩
end
end Go.Eng
namespace Go.Eng
open Go Go.RowKit
section
variable [ak]
def JK:Option (ae×AW)->Bool
 |some (v,_)=>match v with
  |.bool b=>b
  |_=>false
 |none=>false
def MM{r:Option (ae×AW)}(h:JK r=true):∃W,r=some (.bool true,W):=by
 unfold JK at h;split at h
 ·rename_i v W;split at h
  ·subst h;exact⟨W,rfl⟩
  ·cases h
 ·cases h
def ZZ{P:ah}{ng:List Nat}:bV P ng (λ_ _ _=>none):=λf args W v W' h=>by cases h
def JB(W w':aq):Prop:=W.keptBut w' (λ_=>False)/\(∀a:aP,a.block<W.heap.size->w'.frozen? a=W.frozen? a)/\W.heap.size<=w'.heap.size
def JB.frame{W w':aq}(h:JB W w')(may:dp->Prop):W.keptBut w' may:=World.keptBut_mono (λ_ f=>f.elim) h.1
def JH{σ:cV}:∀{args:List ae},args.all bI=true->LR σ args args:=by intro args h;exact LR.kG (λv=>hX) h
end
section
variable [ak]
def σG(gs:List (Nat×List ae)):cV:=λb=>(gs.find? (λx=>x.1==b)).map λx=>⟨x.1,0,x.2.length⟩
def A5(gs:List (Nat×List ae)):T dO:=gs.foldr (λx t=>T.set (some (.ro x.2)) (path x.1) t) .lf
def WG(gs:List (Nat×List ae))(N:Nat):AW:=⟨A5 gs,N⟩
def sT(b:Nat):∀gs:List (Nat×List ae),T.get (path b) (A5 gs)=(gs.find? (λx=>x.1==b)).map λx=>dO.ro x.2
 |[]=>T.xN _
 |x::gs=>by
  show T.get (path b) (T.set (some (.ro x.2)) (path x.1) (A5 gs))=_;by_cases h:x.1=b
  ·subst h;rw[T.jC];simp
  ·rw[T.fA _ _ _ _ (sO h),sT b gs];have hb:(x.1==b)=false:=by simpa using h
   rw[List.find?_cons,hb]
def tI(gs:List (Nat×List ae))(h:Array Obj):Prop:=
 ∀x∈gs,∃c t fr,h[x.1]? =some (.cells c t fr)/\∀(i:Nat) (v:ae),x.2[i]? =some v->c[i]? =some v/\cJ v=true
def ph{gs:List (Nat×List ae)}{b:Nat}{g:rB}(h:σG gs b=some g):∃x∈gs,x.1=b/\g=⟨b,0,x.2.length⟩/\T.get (path b) (A5 gs)=some (dO.ro x.2):=by
 unfold σG at h;cases hf:gs.find? (λx=>x.1==b)with
 |none=>rw[hf]at h;cases h
 |some x=>
  rw[hf]at h;have hb:x.1=b:=by simpa using List.find?_some hf
  refine⟨x,Fh hf,hb,?_,?_⟩
  ·cases h;subst hb;rfl
  ·show T.get (path b) (A5 gs)=_;rw[sT,hf];rfl
def Vy{gs:List (Nat×List ae)}{N:Nat}(hN:gs.all (λx=>Nat.blt x.1 N)=true){h:Array Obj}(hl:tI gs h):bg (σG gs) (WG gs N) h where
 free b hb:=by
  show T.get (path b) (A5 gs)=none;rw[sT];cases hf:gs.find? (λx=>x.1==b)with
  |none=>rfl
  |some x=>
   have Pa:x.1=b:=by simpa using List.find?_some hf
   have:=cr.1 hN x (Fh hf);have:x.1<N:=by simpa[i9]using this
   exact absurd hb (by show¬N<=b;omega)
 np b g hb:=by
  obtain⟨x,hx,rfl,rfl,_⟩:=ph hb;obtain⟨c,t,fr,h1,_⟩:=hl x hx;have:=cr.1 hN x hx;have h3:x.1<N:=by simpa[i9]using this
  exact⟨h3,(dB.1 h1).1⟩
 obj b o g hb hg:=by obtain⟨x,hx,rfl,rfl,ht⟩:=ph hg;obtain⟨c,t,fr,h1,h2⟩:=hl x hx;obtain rfl:o=.ro x.2:=wy (hb.symm.trans ht);exact⟨c,t,fr,h1,by simp,λi v hv=>⟨v,by simpa using(h2 i v hv).1,ei (h2 i v hv).2⟩⟩
 ny b1 b2 o1 o2 g1 g2 fe _ _ h1 h2 _:=by obtain⟨x1,_,rfl,rfl,_⟩:=ph h1;obtain⟨x2,_,rfl,rfl,_⟩:=ph h2;exact .inl fe
def RV{gs:List (Nat×List ae)}{ng:List Nat}(h:ng.all (λg=>(gs.find? (λx=>x.1==g)).isSome)=true):tx (σG gs) ng:=by
 intro g hg;have:=cr.1 h g hg;cases hf:gs.find? (λx=>x.1==g)with
 |none=>rw[hf]at this;cases this
 |some x=>
  have Pa:x.1=g:=by simpa using List.find?_some hf
  exact⟨x.2.length,by unfold σG;rw[hf];subst Pa;rfl⟩
def ac3{gs:List (Nat×List ae)}{N:Nat}{B:Nat}:¬ZB (σG gs) (WG gs N) B:=by rintro⟨b,g,hg,_,nS⟩;obtain⟨x,_,_,_,ht⟩:=ph hg;exact nS x.2 ht
end
end Go.Eng
namespace Go.Eng
open Go Go.RowKit Go.ChangeShapes
section
variable {H:Type} {enc:ai×ae->H} {P:ah} {w:aq} {base:Nat} {Qg:Nat->Bool} {held:Bool}
end
end Go.Eng
namespace Go.Eng
open Go Go.RowKit
open Go.Maps (Keyed)
section
variable [ak]
section
variable {H:Type}
def Tt(j:Nat)(g b:Bool):List (Lit×bP H):=match g with|true=>[(.af ((2^ j:Nat):Int),.lit (.bool b))]|false=>[]
def Eo(g0 g1 g2 g3 g4 g5 g6 g7 b0 b1 b2 b3 b4 b5 b6 b7:Bool):bP H:=
 .map (Tt 0 g0 b0++(Tt 1 g1 b1++(Tt 2 g2 b2++(Tt 3 g3 b3++(Tt 4 g4 b4++(Tt 5 g5 b5++(Tt 6 g6 b6++Tt 7 g7 b7)))))))
variable (g0 g1 g2 g3 g4 g5 g6 g7 b0 b1 b2 b3 b4 b5 b6 b7:Bool)
def ail:(Eo (H:=H) g0 g1 g2 g3 g4 g5 g6 g7 b0 b1 b2 b3 b4 b5 b6 b7).put (.af 1) (.lit (.bool b0))=Eo true g1 g2 g3 g4 g5 g6 g7 b0 b1 b2 b3 b4 b5 b6 b7:=by cases g0<;>cases g1<;>cases g2<;>cases g3<;>cases g4<;>cases g5<;>cases g6<;>cases g7<;>rfl
def aib:(Eo (H:=H) g0 g1 g2 g3 g4 g5 g6 g7 b0 b1 b2 b3 b4 b5 b6 b7).put (.af 2) (.lit (.bool b1))=Eo g0 true g2 g3 g4 g5 g6 g7 b0 b1 b2 b3 b4 b5 b6 b7:=by cases g0<;>cases g1<;>cases g2<;>cases g3<;>cases g4<;>cases g5<;>cases g6<;>cases g7<;>rfl
def agK:(Eo (H:=H) g0 g1 g2 g3 g4 g5 g6 g7 b0 b1 b2 b3 b4 b5 b6 b7).put (.af 4) (.lit (.bool b2))=Eo g0 g1 true g3 g4 g5 g6 g7 b0 b1 b2 b3 b4 b5 b6 b7:=by cases g0<;>cases g1<;>cases g2<;>cases g3<;>cases g4<;>cases g5<;>cases g6<;>cases g7<;>rfl
def aiu:(Eo (H:=H) g0 g1 g2 g3 g4 g5 g6 g7 b0 b1 b2 b3 b4 b5 b6 b7).put (.af 8) (.lit (.bool b3))=Eo g0 g1 g2 true g4 g5 g6 g7 b0 b1 b2 b3 b4 b5 b6 b7:=by cases g0<;>cases g1<;>cases g2<;>cases g3<;>cases g4<;>cases g5<;>cases g6<;>cases g7<;>rfl
def ahw:(Eo (H:=H) g0 g1 g2 g3 g4 g5 g6 g7 b0 b1 b2 b3 b4 b5 b6 b7).put (.af 16) (.lit (.bool b4))=Eo g0 g1 g2 g3 true g5 g6 g7 b0 b1 b2 b3 b4 b5 b6 b7:=by cases g0<;>cases g1<;>cases g2<;>cases g3<;>cases g4<;>cases g5<;>cases g6<;>cases g7<;>rfl
def agk:(Eo (H:=H) g0 g1 g2 g3 g4 g5 g6 g7 b0 b1 b2 b3 b4 b5 b6 b7).put (.af 32) (.lit (.bool b5))=Eo g0 g1 g2 g3 g4 true g6 g7 b0 b1 b2 b3 b4 b5 b6 b7:=by cases g0<;>cases g1<;>cases g2<;>cases g3<;>cases g4<;>cases g5<;>cases g6<;>cases g7<;>rfl
def aiR:(Eo (H:=H) g0 g1 g2 g3 g4 g5 g6 g7 b0 b1 b2 b3 b4 b5 b6 b7).put (.af 64) (.lit (.bool b6))=Eo g0 g1 g2 g3 g4 g5 true g7 b0 b1 b2 b3 b4 b5 b6 b7:=by cases g0<;>cases g1<;>cases g2<;>cases g3<;>cases g4<;>cases g5<;>cases g6<;>cases g7<;>rfl
def ai7:(Eo (H:=H) g0 g1 g2 g3 g4 g5 g6 g7 b0 b1 b2 b3 b4 b5 b6 b7).put (.af 128) (.lit (.bool b7))=Eo g0 g1 g2 g3 g4 g5 g6 true b0 b1 b2 b3 b4 b5 b6 b7:=by cases g0<;>cases g1<;>cases g2<;>cases g3<;>cases g4<;>cases g5<;>cases g6<;>cases g7<;>rfl
end
def Kd{H:Type}{P:ah}{k e t:ai}{w:aq}{R:ae->Option (bP H×List dp)}{b n:Nat}{D:bP H}(h:w.ownsMap P k R b n D)(K:Keyed P k)(ht:P.underlying t=some (.map k e))(hn:n<maxLen){key val:ae}{kl:Lit}{d:bP H}{ps:List dp}
 (Hs:keyOf P k key=some kl)(hv:R val=some (d,ps)):∃w',(Instr.mapUpdate t (.map (some b)) key val).run P w=.ok () w'/\w'.ownsMap P k R b (n+1) (D.put kl d)/\w.grownBy w' (some b)/\w'.heap.size=w.heap.size:=by
 obtain⟨w',h1,h2,h3⟩:=h.update K ht hn Hs hv;obtain⟨es,jj,hb,F,hs,rfl⟩:=h;obtain⟨fE,aiQ,eA,_⟩:=Maps.fit_store (R':=R) K ht hb F (Nat.lt_of_le_of_lt hs hn) (λ_ _ _ _ hz=>hz) Hs hv;refine⟨w',h1,h2,h3,?_⟩;rw[eA]at h1;injection h1 with _ h1;rw[<-h1];simp[Go.ChangeMaps.setBlock]
def FT{H:Type}{P:ah}{k:ai}{w:aq}{R:ae->Option (bP H×List dp)}{b n:Nat}{D:bP H}(h:w.ownsMap P k R b n D){a:aP}(ha:a.block=b):w.frozen? a=false:=by obtain⟨es,jj,hb,_⟩:=h;unfold World.frozen?;rw[ha,hb]
def mz{w:aq}{a:aP}(h:w.heap.size<=a.block):w.frozen? a=false:=by unfold World.frozen?;rw[rk h]
def xf{σ0 σ:cV}{W0 W:AW}{w0 w w':aq}(h:eB σ0 W0 w0 σ W w){m:Nat}(hm:w0.heap.size<=m)(hg:w.grownBy w' (some m))(Cz:∀a,w'.frozen? a=w.frozen? a):eB σ0 W0 w0 σ W w':=
 ⟨h.sub,h.ro,fL h.size hg.size,hg.os.trans h.os,hg.tape.trans h.tape,hg.output.trans h.output,
  λB hB hn=>(hg.block B (fg hB h.size) (λe=>by injection e with e;omega)).trans (h.dK B hB hn),h.ghost,h.grow⟩
def xV{σ:cV}{W:AW}{w w':aq}(h:bg σ W w.heap){m:Nat}(hm:∀b g,σ b=some g->g.B≠m)(hg:w.grownBy w' (some m)):bg σ W w'.heap where
 free:=h.free
 np b g hb:=⟨(h.np b g hb).1,fg (h.np b g hb).2 hg.size⟩
 obj b o g hb hσ:=(h.obj b o g hb hσ).same (hg.block _ (h.np b g hσ).2 (λe=>by injection e with e;exact hm b g hσ e))
 ny:=h.ny
def ui(e:Nat)(o:ao):Bool:=o.after.any λx=>Region.binds .any x&&Nat.beq x.on e
def fC{e:Nat}{o:ao}{listed:Array Bool}(h:ui e o=true)(hr:∀x∈o.after,Region.binds .any x=true->listed.getD x.on false=true):listed.getD e false=true:=by unfold ui at h;rw[Array.any_eq_true']at h;obtain⟨x,hx,hb⟩:=h;rw[bB,dW]at hb;obtain⟨hb,rfl⟩:=hb;exact hr x hx hb
def P6(ops:Array ao)(o:ao)(x:ap):Bool:=match x with
 |.const v=>bI v
 |.tmp t=>Nat.beq t 1||o.after.any λe=>Region.binds .any e&&(match ops[e.on]? with|some o'=>(match o'.dst with|some d=>Nat.beq d t&&(Nat.blt 14 d&&Nat.blt d 40)|none=>false)|none=>false)
 |_=>false
def I2(ops:Array ao)(o:ao):Bool:=o.guard.isNone&&(match o.dst with|some d=>Nat.blt 14 d&&Nat.blt d 40|none=>false)&&o.op.operands.toList.all (P6 ops o)
def nX(ops:Array ao)(TM key s k:Nat)(o:ao):Bool:=o.guard.isNone&&o.dst.isNone&&ui 0 o&&ui k o&&
 (match o.op with|.insert t (.tmp m) (.const (.int .i64 (.ofNat n))) (.tmp v)=>Nat.beq t TM&&Nat.beq m 14&&Nat.beq n key&&Nat.beq v s&&Nat.blt 14 s&&Nat.blt s 40|_=>false)&&
 (match ops[k]? with|some o'=>(match o'.dst with|some d=>Nat.beq d s|none=>false)|none=>false)
def io(ops:Array ao)(TM:Nat)(i:Nat)(o:ao):Bool:=match i with
 |0=>o.guard.isNone&&(match o.op,o.dst with|.makeMap t none,some d=>Nat.beq t TM&&Nat.beq d 14|_,_=>false)
 |4=>nX ops TM 1 17 3 o
 |8=>nX ops TM 2 20 7 o
 |12=>nX ops TM 4 23 11 o
 |16=>nX ops TM 8 26 15 o
 |20=>nX ops TM 16 29 19 o
 |24=>nX ops TM 32 32 23 o
 |29=>nX ops TM 64 36 28 o
 |33=>nX ops TM 128 39 32 o
 |34=>o.guard.isNone&&(match o.op,o.dst with|.move (.tmp x),some d=>Nat.beq x 14&&Nat.beq d 40|_,_=>false)&&(List.range 34).all λe=>ui e o
 |35=>o.guard.isNone&&(match o.op,o.dst with|.range t (.tmp x),some d=>Nat.beq t TM&&Nat.beq x 40&&Nat.beq d 41|_,_=>false)&&ui 34 o
 |_=>I2 ops o
def gN(i:Nat):Bool:=match i with|0|4|8|12|16|20|24|29|33|34|35=>false|_=>true
def D1(i:Nat)(o:ao):Bool:=o.after.all λe=>Nat.blt e.on i
def Fs(ops:Array ao)(TM:Nat):Bool:=Nat.beq ops.size 36&&(List.range 36).all λi=>match ops[i]? with|some o=>io ops TM i o&&D1 i o|none=>false
def qq{P:ah}{ops:Array ao}{Q:cS->aV->aq->Prop}{i:Nat}{K:aV->aq->Prop}{a:aV}{w w':aq}{o:ao}{v:ae}(ho:ops[i]? =some o)(hg:o.guard=none)
 (h:(execOp a.eval o).run P w=.ok (.value v) w')(hk:K (a.put o.dst v) w'):wpOp P ops Q i K a w:=by
 unfold wpOp;rw[ho];have:Region.wanted o (yielded ops a.tmps)=true:=by unfold Region.wanted;rw[hg]
 simp only[this,bk];refine .inl ?_;unfold Oper.wp;rw[h];exact hk
def Di{P:ah}{ops:Array ao}{Q:cS->aV->aq->Prop}{i:Nat}{K:aV->aq->Prop}{a:aV}{w w':aq}{o:ao}(ho:ops[i]? =some o)(hg:o.guard=none)
 (h:(execOp a.eval o).run P w=.ok .skip w')(hk:K (a.put o.dst ag) w'):wpOp P ops Q i K a w:=by
 unfold wpOp;rw[ho];have:Region.wanted o (yielded ops a.tmps)=true:=by unfold Region.wanted;rw[hg]
 simp only[this,bk];refine .inl ?_;unfold Oper.wp;rw[h];exact hk
section
variable {P:ah} {ops:Array ao} {nt TM TK TE:Nat} {σ0:cV} {W:AW} {R:ak.Fr} {w0:aq} {lN:Array ae} {ds:List dq} {b0 b1 b2 b3 b4 b5 b6 b7:Bool} {l:Array Bool} {a:aV} {w:aq}
def Dl(l:Array Bool)(b0 b1 b2 b3 b4 b5 b6 b7:Bool):bP Unit:=
 Eo (l.getD 4 false) (l.getD 8 false) (l.getD 12 false) (l.getD 16 false) (l.getD 20 false) (l.getD 24 false) (l.getD 29 false) (l.getD 33 false) b0 b1 b2 b3 b4 b5 b6 b7
structure RB (ops:Array ao) (nt:Nat) (lN:Array ae) (ds:List dq) (l:Array Bool) (a:aV):Prop where
 tO:l.size=36
 Im:a.tmps.size=nt
 S1:a.defers=ds
 down:∀i,l.getD i false=true->∀o,ops[i]? =some o->∀e∈o.after,Region.binds .any e=true->l.getD e.on false=true
 qM:∀t,(t<14\/41<t)->a.tmps[t]? =lN[t]?
def RM(P:ah)(TK TE:Nat)(w0:aq)(b0 b1 b2 b3 b4 b5 b6 b7:Bool)(l:Array Bool)(a:aV)(w:aq)(σ:cV)(m n:Nat):Prop:=
 (∀b g,σ b=some g->g.B≠m)/\w0.heap.size<=m/\a.tmps.getD 14 ag=.map (some m)/\n<=(List.range 36).countP (λi=>l.getD i false)/\(l.getD 34 false=true->a.tmps.getD 40 ag=.map (some m))/\
  (l.getD 35 false=false->w.ownsMap P TK (plainElem P TE) m n (Dl l b0 b1 b2 b3 b4 b5 b6 b7))/\
  (l.getD 35 false=true->∃r,a.tmps.getD 41 ag=.pointer (some ⟨r,0,none⟩)/\(∀b g,σ b=some g->g.B≠r)/\w0.heap.size<=r/\
    w.ranges P TK (plainElem P TE) m r n (Dl l b0 b1 b2 b3 b4 b5 b6 b7) (Maps.has (Dl l b0 b1 b2 b3 b4 b5 b6 b7)) (Maps.size (Dl l b0 b1 b2 b3 b4 b5 b6 b7)))
structure RI (P:ah) (ops:Array ao) (nt TK TE:Nat) (σ0:cV) (W:AW) (R:ak.Fr) (w0:aq) (lN:Array ae) (ds:List dq) (b0 b1 b2 b3 b4 b5 b6 b7:Bool)
 (l:Array Bool) (a:aV) (w:aq):Prop where
 base:RB ops nt lN ds l a
 ajm:∃σ,bg σ W w.heap/\eB σ0 W w0 σ W w/\(∀i o d,ops[i]? =some o->gN i=true->l.getD i false=true->o.dst=some d->VR σ (cR R d) (a.tmps.getD d ag))/\
  (l.getD 0 false=true->∃m n,RM P TK TE w0 b0 b1 b2 b3 b4 b5 b6 b7 l a w σ m n)
structure RF (P:ah) (ops:Array ao) (nt TM TK TE:Nat) (σ0:cV) (W:AW) (R:ak.Fr) (lN:Array ae) (b0 b1 b2 b3 b4 b5 b6 b7:Bool):Prop where
 size:ops.size=36
 shape:∀i o,ops[i]? =some o->io ops TM i o=true
 back:∀i o,ops[i]? =some o->D1 i o=true
 ai9:∀i o d,ops[i]? =some o->gN i=true->o.dst=some d->∀(σ:cV) (w:aq) (ρ:ap->ae),bg σ W w.heap->(∀x∈o.op.operands,VR σ (aA R x) (ρ x))->tq P σ W w (execOp ρ o) (cR R d) W
 v0:cR R 17=.bool b0
 v1:cR R 20=.bool b1
 v2:cR R 23=.bool b2
 v3:cR R 26=.bool b3
 v4:cR R 29=.bool b4
 v5:cR R 32=.bool b5
 v6:cR R 36=.bool b6
 v7:cR R 39=.bool b7
 ptr:VR σ0 (cR R 1) (lN.getD 1 ag)
 nt:42<=nt
 TM:P.underlying TM=some (.map TK TE)
 TK:P.underlying TK=some (.int .i64)
 TE:P.underlying TE=some .bool
def tb{l:Array Bool}{i:Nat}(hi:i<36)(hs:l.size=36)(h:l.getD i false=false):(List.range 36).countP (λk=>l.getD k false)+1<=(List.range 36).countP (λk=>(l.setIfInBounds i true).getD k false):=by
 refine DI (x:=i) (by simpa using hi) (dd (by omega) false) h λy hy=>?_
 by_cases e:i=y
 ·subst e;exact dd (by omega) false
 ·rw[aT e];exact hy
def Qr{l:Array Bool}:(List.range 36).countP (λk=>l.getD k false)<=36:=by have:=List.countP_le_length (p:=λk=>l.getD k false) (l:=List.range 36);simpa using this
def kz{l:Array Bool}{i:Nat}(h:l.getD i true=false)(hi:i<l.size):l.getD i false=false:=by simp only[rI]at h|-;rw[gp hi]at h|-;exact h
def xW(hF:RF P ops nt TM TK TE σ0 W R lN b0 b1 b2 b3 b4 b5 b6 b7){i:Nat}{o:ao}(ho:ops[i]? =some o):o.guard=none/\(gN i=true->(∃d,o.dst=some d/\14<d/\d<40)/\o.op.operands.toList.all (P6 ops o)=true)/\
 (∀d,o.dst=some d->14<=d/\d<=41)/\(∀d,o.dst=some d->14<d->d<40->gN i=true):=by
 have hs:=hF.shape i o ho;by_cases hp:gN i=true
 ·have hq:I2 ops o=true:=by unfold io at hs;unfold gN at hp;split at hs<;>first|exact hs|(simp at hp;done)
  unfold I2 at hq;simp only[bB,Bm]at hq;obtain⟨⟨h1,h2⟩,h3⟩:=hq;cases hd:o.dst with
  |none=>rw[hd]at h2;cases h2
  |some d=>rw[hd]at h2;simp only[bB,i9]at h2;refine⟨h1,λ_=>⟨⟨d,rfl,h2⟩,h3⟩,λd' e=>?_,λ_ _ _ _=>hp⟩;injection e with e;subst e;exact⟨Nat.le_of_lt h2.1,Nat.le_of_lt (Nat.lt_trans h2.2 (by decide))⟩
 ·refine⟨?_,λh=>absurd h hp,?_,?_⟩
  ·unfold io at hs;unfold gN at hp;split at hs<;>simp_all[nX]
  ·intro d hd;unfold io at hs;unfold gN at hp;split at hs<;>simp_all[nX];all_goals(first|(split at hs<;>simp_all)|skip)
   all_goals omega
  ·intro d hd h1 h2;exfalso;unfold io at hs;unfold gN at hp;split at hs<;>simp_all[nX];all_goals(first|(split at hs<;>simp_all)|skip)
   all_goals omega
def RB.step(hB:RB ops nt lN ds l a)(hF:RF P ops nt TM TK TE σ0 W R lN b0 b1 b2 b3 b4 b5 b6 b7){i:Nat}{o:ao}(ho:ops[i]? =some o)
 (hr:∀e∈o.after,Region.binds .any e=true->l.getD e.on false=true)(v:ae):RB ops nt lN ds (l.setIfInBounds i true) (a.put o.dst v):=by
 obtain⟨_,_,hd,_⟩:=xW hF ho;have hi:i<l.size:=by rw[hB.tO,<-hF.size];exact(dB.1 ho).1
 have tD:∀k,l.getD k false=true->(l.setIfInBounds i true).getD k false=true:=λk hk=>by
  by_cases e:i=k
  ·subst e;exact dd hi _
  ·rw[aT e];exact hk
 refine⟨by simp[hB.tO],by rw[Cm];exact hB.Im,by rw[mU];exact hB.S1,?_,?_⟩
 ·intro k hk o' gJ e he hb;by_cases e1:i=k
  ·subst e1;rw[ho]at gJ;injection gJ with gJ;subst gJ;exact tD _ (hr e he hb)
  ·rw[aT e1]at hk;exact tD _ (hB.down k hk o' gJ e he hb)
 ·intro t ht;rw[<-hB.qM t ht];cases hq:o.dst with
  |none=>rfl
  |some d=>
   have:=hd d hq;show(a.tmps.setIfInBounds d v)[t]? =a.tmps[t]?;rw[Ce];rintro rfl;rcases ht with h|h
   ·exact absurd (fg h this.1) (Nat.lt_irrefl _)
   ·exact absurd (fg h this.2) (Nat.lt_irrefl _)
def Ll{σ σ':cV}{W W':AW}{w w':aq}(he:eB σ W w σ' W' w'){m:Nat}(hm:m<w.heap.size)(hn:∀b g,σ b=some g->g.B≠m):(∀b g,σ' b=some g->g.B≠m)/\w'.heap[m]? =w.heap[m]? :=by
 have hnm:¬ZB σ W m:=by rintro⟨b,g,h1,h2,_⟩;exact hn b g h1 h2
 refine⟨λb g hb e=>?_,he.dK m hm hnm⟩;subst e;rcases he.grow b g hb hm with h1|h1
 ·exact hn b g h1 rfl
 ·exact hnm h1
def QT{H:Type}{k:ai}{w w':aq}{Re:ae->Option (bP H×List dp)}{b n:Nat}{D:bP H}(h:w.ownsMap P k Re b n D)(e:w'.heap[b]? =w.heap[b]?):w'.ownsMap P k Re b n D:=by obtain⟨es,jj,hb,r⟩:=h;exact⟨es,jj,e.trans hb,r⟩
def ML(hF:RF P ops nt TM TK TE σ0 W R lN b0 b1 b2 b3 b4 b5 b6 b7)(hI:RI P ops nt TK TE σ0 W R w0 lN ds b0 b1 b2 b3 b4 b5 b6 b7 l a w){i:Nat}{o:ao}(ho:ops[i]? =some o)(hl:l.getD i true=false)
 (hr:∀e∈o.after,Region.binds .any e=true->l.getD e.on false=true)(hp:gN i=true){Q:cS->aV->aq->Prop}{K:aV->aq->Prop}
 (hK:∀a' w',RI P ops nt TK TE σ0 W R w0 lN ds b0 b1 b2 b3 b4 b5 b6 b7 (l.setIfInBounds i true) a' w'->K a' w'):wpOp P ops Q i K a w:=by
 obtain⟨hg,hpd,_,yK⟩:=xW hF ho;obtain⟨⟨d,hd,hd1,hd2⟩,cM⟩:=hpd hp;obtain⟨hB,σ,hW,hE,qB,gb⟩:=hI;have hi:i<l.size:=by rw[hB.tO,<-hF.size];exact(dB.1 ho).1
 have D4:=kz hl hi;have hρ:∀x∈o.op.operands,VR σ (aA R x) (a.eval x):=by
  intro x hx;have WD:=cr.1 cM x (by simpa using hx);unfold P6 at WD;split at WD
  ·exact hX WD
  ·rename_i t;rw[ls]at WD;show VR σ (cR R t) (a.tmps.getD t ag);rcases WD with h1|h1
   ·obtain rfl:t=1:=by simpa using h1
    have:a.tmps.getD 1 ag=lN.getD 1 ag:=by simp only[rI];rw[hB.qM 1 (.inl (by decide))]
    rw[this];exact hF.ptr.mono hE.sub
   ·rw[Array.any_eq_true']at h1;obtain⟨e,he,hb⟩:=h1;rw[bB]at hb;obtain⟨IE,iu⟩:=hb;split at iu
    ·rename_i o' gJ;split at iu
     ·rename_i d' gq;simp only[bB,dW,i9]at iu;obtain⟨rfl,h3,h4⟩:=iu;exact qB e.on o' d' gJ ((xW hF gJ).2.2.2 d' gq h3 h4) (hr e he IE) gq
     ·cases iu
    ·cases iu
  ·cases WD
 obtain⟨σ',nx,v',w',eA,Th,hv,WX,O4⟩:=hF.ai9 i o d ho hp hd σ w a.eval hW hρ;have fin:RI P ops nt TK TE σ0 W R w0 lN ds b0 b1 b2 b3 b4 b5 b6 b7 (l.setIfInBounds i true) (a.put o.dst v') w':=by
  refine⟨hB.step hF ho hr v',σ',WX,hE.trans O4,?_,?_⟩
  ·intro k o' d' gJ MY HK gq;by_cases e:i=k
   ·subst e;rw[ho]at gJ;injection gJ with gJ;subst gJ;rw[hd]at gq;injection gq with gq;subst gq;rw[mR hd (by rw[hB.Im];exact fg hd2 (fL (by decide) hF.nt))];exact hv
   ·rw[aT e]at HK;by_cases e2:d'=d
    ·subst e2;rw[mR hd (by rw[hB.Im];exact fg hd2 (fL (by decide) hF.nt))];exact hv
    ·rw[fW (by rw[hd];intro e3;injection e3 with e3;exact e2 e3.symm)];exact(qB k o' d' gJ MY HK gq).mono O4.sub
  ·intro h0;have fe:∀k,gN k=false->(l.setIfInBounds i true).getD k false=l.getD k false:=λk hk=>aT (λe=>by subst e;rw[hp]at hk;cases hk) _
   have eM:∀t,(t=14\/39<t)->(a.put o.dst v').tmps.getD t ag=a.tmps.getD t ag:=λt ht=>fW (by
    rw[hd];intro e3;injection e3 with e3;subst e3;rcases ht with h|h
    ·subst h;exact absurd hd1 (by decide)
    ·exact absurd hd2 (by intro h5;exact absurd (fg h5 h) (Nat.lt_irrefl _)));rw[fe 0 rfl]at h0;obtain⟨m,n,k1,k2,k3,k4,k5,k6,k7⟩:=gb h0;have hD:Dl (l.setIfInBounds i true) b0 b1 b2 b3 b4 b5 b6 b7=Dl l b0 b1 b2 b3 b4 b5 b6 b7:=by
    unfold Dl;rw[fe 4 rfl,fe 8 rfl,fe 12 rfl,fe 16 rfl,fe 20 rfl,fe 24 rfl,fe 29 rfl,fe 33 rfl]
   have gY:m<w.heap.size:=by
    cases hq:l.getD 35 false with
    |false=>exact(k6 hq).lt
    |true=>obtain⟨r,_,_,_,FG⟩:=k7 hq;exact FG.owns.lt
   obtain⟨q1,q2⟩:=Ll O4 gY k1;refine⟨m,n,q1,k2,by rw[eM 14 (.inl rfl)];exact k3,fL k4 (fL (Nat.le_succ _) (tb (by rw[<-hB.tO];exact hi) hB.tO D4)),λh=>?_,λh=>?_,λh=>?_⟩
   ·rw[fe 34 rfl]at h;rw[eM 40 (.inr (by decide))];exact k5 h
   ·rw[fe 35 rfl]at h;rw[hD];exact QT (k6 h) q2
   ·rw[fe 35 rfl]at h;obtain⟨r,p1,p2,p3,p4⟩:=k7 h;have ahn:r<w.heap.size:=by obtain⟨es,jj,since,seen,c0,_,_,_,_,hr,_⟩:=p4;exact(dB.1 hr).1
    obtain⟨q3,q4⟩:=Ll O4 ahn p2;refine⟨r,by rw[eM 41 (.inr (by decide))];exact p1,q3,p3,?_⟩;rw[hD];obtain⟨es,jj,since,seen,c0,z1,z2,z3,z4,z5,z6⟩:=p4;exact⟨es,jj,since,seen,c0,q2.trans z1,z2,z3,z4,q4.trans z5,z6⟩
 rcases Th with rfl|⟨rfl,rfl⟩
 ·exact qq ho hg eA (hK _ _ fin)
 ·exact Di ho hg eA (hK _ _ fin)
def Lr(hF:RF P ops nt TM TK TE σ0 W R lN b0 b1 b2 b3 b4 b5 b6 b7)(hB:RB ops nt lN ds l a):
 (l.getD 35 false=true->l.getD 34 false=true)/\(l.getD 34 false=true->∀e,e<34->l.getD e false=true)/\(∀i,(i=4\/i=8\/i=12\/i=16\/i=20\/i=24\/i=29\/i=33)->l.getD i false=true->l.getD 0 false=true):=by
 have at_:∀i,i<36->∃o,ops[i]? =some o:=λi hi=>⟨ops[i]'(by rw[hF.size];exact hi),gp _⟩
 refine⟨λh=>?_,λh e he=>?_,λi hi h=>?_⟩
 ·obtain⟨o,ho⟩:=at_ 35 (by decide);have hs:=hF.shape 35 o ho;simp only[io,bB]at hs;exact fC hs.2 (hB.down 35 h o ho)
 ·obtain⟨o,ho⟩:=at_ 34 (by decide);have hs:=hF.shape 34 o ho;simp only[io,bB,cr]at hs;exact fC (hs.2 e (by simpa using he)) (hB.down 34 h o ho)
 ·obtain⟨o,ho⟩:=at_ i (by omega);have hs:=hF.shape i o ho;have:ui 0 o=true:=by rcases hi with rfl|rfl|rfl|rfl|rfl|rfl|rfl|rfl<;>(simp only[io,nX,bB]at hs;exact hs.1.1.1.2)
  exact fC this (hB.down i h o ho)
def qs{σ:cV}(hF:RF P ops nt TM TK TE σ0 W R lN b0 b1 b2 b3 b4 b5 b6 b7){i:Nat}{o:ao}(ho:ops[i]? =some o)(hp:gN i=false)
 (h:∀i o d,ops[i]? =some o->gN i=true->l.getD i false=true->o.dst=some d->VR σ (cR R d) (a.tmps.getD d ag))(v:ae):
 ∀k o' d,ops[k]? =some o'->gN k=true->(l.setIfInBounds i true).getD k false=true->o'.dst=some d->VR σ (cR R d) ((a.put o.dst v).tmps.getD d ag):=by
 intro k o' d gJ MY hl hd;have e:i≠k:=λe=>by subst e;rw[hp]at MY;cases MY
 rw[aT e]at hl;obtain⟨_,hpd,_,_⟩:=xW hF gJ;obtain⟨⟨d',gq,h1,h2⟩,_⟩:=hpd MY;rw[hd]at gq;injection gq with gq;subst gq;rw[fW]
 ·exact h k o' d gJ MY hl hd
 ·intro e2;have:=(xW hF ho).2.2.2 d e2 h1 h2;rw[hp]at this;cases this
def EW{w:aq}{o:Obj}(ho:∀c t f,o≠ .cells c t f)(x:aP):(w.alloc o).frozen? x=w.frozen? x:=by
 by_cases h:x.block<w.heap.size
 ·exact World.frozen?_of_block ((vk w o none).block _ h (by simp))
 ·rw[mz (w:=w) (by omega)];by_cases e:x.block=w.heap.size
  ·unfold World.frozen?;rw[e];have:(w.alloc o).heap[w.heap.size]? =some o:=(MapKept.heap_alloc w o).1;rw[this];cases o<;>first|rfl|exact absurd rfl (ho _ _ _)
  ·refine mz ?_;have:(w.alloc o).heap.size=w.heap.size+1:=by simp
   omega
def NO(hF:RF P ops nt TM TK TE σ0 W R lN b0 b1 b2 b3 b4 b5 b6 b7)(hI:RI P ops nt TK TE σ0 W R w0 lN ds b0 b1 b2 b3 b4 b5 b6 b7 l a w){o:ao}(ho:ops[0]? =some o)(hl:l.getD 0 true=false)
 (hr:∀e∈o.after,Region.binds .any e=true->l.getD e.on false=true){Q:cS->aV->aq->Prop}{K:aV->aq->Prop}
 (hK:∀a' w',RI P ops nt TK TE σ0 W R w0 lN ds b0 b1 b2 b3 b4 b5 b6 b7 (l.setIfInBounds 0 true) a' w'->K a' w'):wpOp P ops Q 0 K a w:=by
 obtain⟨hB,σ,hW,hE,qB,gb⟩:=hI;have hi:0<l.size:=by rw[hB.tO];decide
 have D4:=kz hl hi;obtain⟨n1,n2,n3⟩:=Lr hF hB;have hs:=hF.shape 0 o ho;simp only[io,bB,Bm]at hs;obtain⟨hg,hs⟩:=hs;split at hs;case h_2=>cases hs
 rename_i t d qz hd;simp only[bB,dW]at hs;obtain⟨rfl,rfl⟩:=hs;have eA:(execOp a.eval o).run P w=.ok (.value (.map (some w.heap.size))) (w.alloc (.map #[] 0)):=by simp[execOp,qz,run_makeMap]
 refine qq ho hg eA (hK _ _ ⟨hB.step hF ho hr _,σ,?_,?_,qs hF ho rfl qB _,λ_=>⟨w.heap.size,0,?_,hE.size,?_,Nat.zero_le _,?_,?_,?_⟩⟩)
 ·exact xV (m:=w.heap.size) hW (λb g hb=>Nat.ne_of_lt (hW.np b g hb).2) ((vk w _ none).but _)
 ·exact xf (m:=w.heap.size) hE hE.size ((vk w _ none).but _) (EW (λ_ _ _ h=>by cases h))
 ·exactλb g hb=>Nat.ne_of_lt (hW.np b g hb).2
 ·exact mR hd (by rw[hB.Im];exact fg (by decide) hF.nt)
 ·intro h;rw[aT (by decide)]at h;rw[n2 h 0 (by decide)]at D4;cases D4
 ·intro _;have uK:∀i,(i=4\/i=8\/i=12\/i=16\/i=20\/i=24\/i=29\/i=33)->(l.setIfInBounds 0 true).getD i false=false:=λi hi=>by
   rw[aT (by omega)];cases hq:l.getD i false with
   |false=>rfl
   |true=>rw[n3 i hi hq]at D4;cases D4
  have hD:Dl (l.setIfInBounds 0 true) b0 b1 b2 b3 b4 b5 b6 b7=.map []:=by unfold Dl;rw[uK 4 (by simp),uK 8 (by simp),uK 12 (by simp),uK 16 (by simp),uK 20 (by simp),uK 24 (by simp),uK 29 (by simp),uK 33 (by simp)];rfl
  rw[hD];exact World.ownsMap_made _ _ _ _
 ·intro h;rw[aT (by decide)]at h;rw[n2 (n1 h) 0 (by decide)]at D4;cases D4
def kZ(hF:RF P ops nt TM TK TE σ0 W R lN b0 b1 b2 b3 b4 b5 b6 b7)(hI:RI P ops nt TK TE σ0 W R w0 lN ds b0 b1 b2 b3 b4 b5 b6 b7 l a w){i key s k:Nat}{bj:Bool}{o:ao}(ho:ops[i]? =some o)(hl:l.getD i true=false)
 (hr:∀e∈o.after,Region.binds .any e=true->l.getD e.on false=true)(hs:nX ops TM key s k o=true)(hp:gN i=false)(agJ:i<34)(hi0:i≠0)(hv:cR R s=.bool bj)(hwf:(Lit.int .i64 key).wf=true)
 (ahj:(Dl l b0 b1 b2 b3 b4 b5 b6 b7).put (.af key) (.lit (.bool bj))=Dl (l.setIfInBounds i true) b0 b1 b2 b3 b4 b5 b6 b7){Q:cS->aV->aq->Prop}{K:aV->aq->Prop}
 (hK:∀a' w',RI P ops nt TK TE σ0 W R w0 lN ds b0 b1 b2 b3 b4 b5 b6 b7 (l.setIfInBounds i true) a' w'->K a' w'):wpOp P ops Q i K a w:=by
 obtain⟨hB,σ,hW,hE,qB,gb⟩:=hI;have hi:i<l.size:=by rw[hB.tO];omega
 have D4:=kz hl hi;obtain⟨n1,n2,n3⟩:=Lr hF hB;unfold nX at hs;simp only[bB,Bm]at hs;obtain⟨⟨⟨⟨⟨hg,hd⟩,e0⟩,ek⟩,qz⟩,hk⟩:=hs;split at qz;case h_2=>cases qz
 rename_i t m' n' v' ag7;simp only[bB,dW,i9]at qz;obtain⟨⟨⟨⟨⟨rfl,rfl⟩,rfl⟩,rfl⟩,ze⟩,lX⟩:=qz;split at hk;case h_2=>cases hk
 rename_i ok iJ;split at hk;case h_2=>cases hk
 rename_i dk hdk;obtain rfl:dk=v':=by simpa using hk
 have Md:a.tmps.getD dk ag=.bool bj:=by have:=qB k ok dk iJ ((xW hF iJ).2.2.2 dk hdk ze lX) (fC ek hr) hdk;rw[hv]at this;exact this.gx
 obtain⟨m,n,k1,k2,k3,k4,k5,k6,k7⟩:=gb (fC e0 hr);have Zf:l.getD 34 false=false:=by
  cases hq:l.getD 34 false with
  |false=>rfl
  |true=>rw[n2 hq i agJ]at D4;cases D4
 have Hx:l.getD 35 false=false:=by
  cases hq:l.getD 35 false with
  |false=>rfl
  |true=>rw[n1 hq]at Zf;cases Zf
 have Hs:keyOf P TK (.af (n':Int))=some (.af (n':Int)):=by simp[keyOf,mapKey,hF.TK,hwf]
 obtain⟨w',eA,Vv,NC,oJ⟩:=Kd (k6 Hx) (Go.Maps.int_keyed hF.TK) hF.TM (Nat.lt_of_le_of_lt (fL k4 Qr) (by decide)) Hs (plainElem_bool hF.TE bj);have QY:(execOp a.eval o).run P w=.ok .skip w':=by have e1:a.eval (.tmp 14)=.map (some m):=k3;have e2:a.eval (.tmp dk)=.bool bj:=Md;have e3:a.eval (.const (.af (Int.ofNat n')))=.af (n':Int):=rfl;simp only[execOp,ag7,e1,e2,e3];simp[eA]
 refine Di ho hg QY (hK _ _ ⟨hB.step hF ho hr _,σ,?_,?_,qs hF ho hp qB _,λ_=>⟨m,n+1,k1,k2,?_,?_,?_,?_,?_⟩⟩)
 ·exact xV hW k1 NC
 ·refine xf hE k2 NC λx=>?_
  by_cases e:x.block=m
  ·rw[FT (k6 Hx) e,FT Vv e]
  ·by_cases h:x.block<w.heap.size
   ·exact World.frozen?_of_block (NC.block _ h (λe2=>by injection e2 with e2;exact e e2))
   ·rw[mz (w:=w) (by omega),mz (w:=w') (by omega)]
 ·rw[hd];exact k3
 ·exact fL (Nat.succ_le_succ k4) (tb (by rw[<-hB.tO];exact hi) hB.tO D4)
 ·intro h;rw[aT (by omega),Zf]at h;cases h
 ·intro _;rw[<-ahj];exact Vv
 ·intro h;rw[aT (by omega),Hx]at h;cases h
def Mf(hF:RF P ops nt TM TK TE σ0 W R lN b0 b1 b2 b3 b4 b5 b6 b7)(hI:RI P ops nt TK TE σ0 W R w0 lN ds b0 b1 b2 b3 b4 b5 b6 b7 l a w){o:ao}(ho:ops[34]? =some o)(hl:l.getD 34 true=false)
 (hr:∀e∈o.after,Region.binds .any e=true->l.getD e.on false=true){Q:cS->aV->aq->Prop}{K:aV->aq->Prop}
 (hK:∀a' w',RI P ops nt TK TE σ0 W R w0 lN ds b0 b1 b2 b3 b4 b5 b6 b7 (l.setIfInBounds 34 true) a' w'->K a' w'):wpOp P ops Q 34 K a w:=by
 obtain⟨hB,σ,hW,hE,qB,gb⟩:=hI;have hi:34<l.size:=by rw[hB.tO];decide
 have D4:=kz hl hi;obtain⟨n1,n2,n3⟩:=Lr hF hB;have hs:=hF.shape 34 o ho;simp only[io,bB,Bm,cr]at hs;obtain⟨⟨hg,hs⟩,UR⟩:=hs;split at hs;case h_2=>cases hs
 rename_i x d qz hd;simp only[bB,dW]at hs;obtain⟨rfl,rfl⟩:=hs;have h0:l.getD 0 false=true:=fC (UR 0 (by simp)) hr;obtain⟨m,n,k1,k2,k3,k4,k5,k6,k7⟩:=gb h0;have Hx:l.getD 35 false=false:=by
  cases hq:l.getD 35 false with
  |false=>rfl
  |true=>rw[n1 hq]at D4;cases D4
 have eA:(execOp a.eval o).run P w=.ok (.value (.map (some m))) w:=by have e1:a.eval (.tmp 14)=.map (some m):=k3;simp only[execOp,qz,e1];rfl
 have hD:Dl (l.setIfInBounds 34 true) b0 b1 b2 b3 b4 b5 b6 b7=Dl l b0 b1 b2 b3 b4 b5 b6 b7:=by unfold Dl;rw[aT (by decide),aT (by decide),aT (by decide),aT (by decide),aT (by decide),aT (by decide),aT (by decide),aT (by decide)]
 refine qq ho hg eA (hK _ _ ⟨hB.step hF ho hr _,σ,hW,hE,qs hF ho rfl qB _,λ_=>⟨m,n,k1,k2,?_,?_,?_,?_,?_⟩⟩)
 ·rw[fW (by rw[hd];intro e;injection e with e;cases e)];exact k3
 ·exact fL k4 (fL (Nat.le_succ _) (tb (by decide) hB.tO D4))
 ·intro _;exact mR hd (by rw[hB.Im];exact fg (by decide) hF.nt)
 ·intro _;rw[hD];exact k6 Hx
 ·intro h;rw[aT (by decide),Hx]at h;cases h
def Jm(hF:RF P ops nt TM TK TE σ0 W R lN b0 b1 b2 b3 b4 b5 b6 b7)(hI:RI P ops nt TK TE σ0 W R w0 lN ds b0 b1 b2 b3 b4 b5 b6 b7 l a w){o:ao}(ho:ops[35]? =some o)(hl:l.getD 35 true=false)
 (hr:∀e∈o.after,Region.binds .any e=true->l.getD e.on false=true){Q:cS->aV->aq->Prop}{K:aV->aq->Prop}
 (hK:∀a' w',RI P ops nt TK TE σ0 W R w0 lN ds b0 b1 b2 b3 b4 b5 b6 b7 (l.setIfInBounds 35 true) a' w'->K a' w'):wpOp P ops Q 35 K a w:=by
 obtain⟨hB,σ,hW,hE,qB,gb⟩:=hI;have hi:35<l.size:=by rw[hB.tO];decide
 have D4:=kz hl hi;obtain⟨n1,n2,n3⟩:=Lr hF hB;have hs:=hF.shape 35 o ho;simp only[io,bB,Bm]at hs;obtain⟨⟨hg,hs⟩,UR⟩:=hs;split at hs;case h_2=>cases hs
 rename_i t x d qz hd;simp only[bB,dW]at hs;obtain⟨⟨rfl,rfl⟩,rfl⟩:=hs;have Zf:l.getD 34 false=true:=fC UR hr;obtain⟨m,n,k1,k2,k3,k4,k5,k6,k7⟩:=gb (n2 Zf 0 (by decide));obtain⟨w',eA,FG,NC,oJ⟩:=(k6 D4).range (Go.Maps.int_keyed hF.TK) hF.TM;have QY:(execOp a.eval o).run P w=.ok (.value (.pointer (some ⟨w.heap.size,0,none⟩))) w':=by have e1:a.eval (.tmp 40)=.map (some m):=k5 Zf;simp only[execOp,qz,e1];simp[eA]
 have acG:∀x:aP,x.block=w.heap.size->w'.frozen? x=false:=λx e=>by obtain⟨es,jj,since,seen,c0,_,_,_,_,hr,_⟩:=FG;unfold World.frozen?;rw[e,hr]
 have hD:Dl (l.setIfInBounds 35 true) b0 b1 b2 b3 b4 b5 b6 b7=Dl l b0 b1 b2 b3 b4 b5 b6 b7:=by unfold Dl;rw[aT (by decide),aT (by decide),aT (by decide),aT (by decide),aT (by decide),aT (by decide),aT (by decide),aT (by decide)]
 refine qq ho hg QY (hK _ _ ⟨hB.step hF ho hr _,σ,?_,?_,qs hF ho rfl qB _,λ_=>⟨m,n,k1,k2,?_,?_,?_,?_,?_⟩⟩)
 ·exact xV (m:=w.heap.size) hW (λb g hb=>Nat.ne_of_lt (hW.np b g hb).2) (NC.but _)
 ·refine xf (m:=w.heap.size) hE hE.size (NC.but _) λx=>?_
  by_cases h:x.block<w.heap.size
  ·exact World.frozen?_of_block (NC.block _ h (by simp))
  ·rw[mz (w:=w) (by omega)];by_cases e:x.block=w.heap.size
   ·exact acG x e
   ·exact mz (by omega)
 ·rw[fW (by rw[hd];intro e;injection e with e;cases e)];exact k3
 ·exact fL k4 (fL (Nat.le_succ _) (tb (by decide) hB.tO D4))
 ·intro _;rw[fW (by rw[hd];intro e;injection e with e;cases e)];exact k5 Zf
 ·intro h;rw[dd hi]at h;cases h
 ·intro _;refine⟨w.heap.size,mR hd (by rw[hB.Im];exact fg (by decide) hF.nt),λb g hb=>Nat.ne_of_lt (hW.np b g hb).2,hE.size,?_⟩;rw[hD];exact FG
def MT(hF:RF P ops nt TM TK TE σ0 W R lN b0 b1 b2 b3 b4 b5 b6 b7)(hB:RB ops nt lN ds l a)(h:Region.ready .any ops l=[]):∀i,i<36->l.getD i false=true:=by
 have key:∀n i,i<n->i<36->l.getD i false=true:=by
  intro n;induction n with
  |zero=>intro i h;exact absurd h (Nat.not_lt_zero _)
  |succ n ih=>
   intro i hi Fv;by_cases gY:i<n
   ·exact ih i gY Fv
   ·have nv:i<ops.size:=by rw[hF.size];exact Fv
    have ho:ops[i]? =some ops[i]:=gp nv;cases hq:l.getD i false with
    |true=>rfl
    |false=>
     exfalso;have hb:=hF.back i _ ho;unfold D1 at hb;have VQ:i<l.size:=by rw[hB.tO];exact Fv
     have:i∈Region.ready .any ops l:=mc.2 ⟨by
      simp only[rI]at hq|-;rw[gp VQ]at hq|-;exact hq,_,ho,λe he hbd=>by
      rw[Array.all_eq_true']at hb;have h1:=hb e he;rw[i9]at h1;exact ih e.on (by omega) (by omega)⟩;rw[h]at this;cases this
 exactλi hi=>key (i+1) i (Nat.lt_succ_self i) hi
def PH(hF:RF P ops nt TM TK TE σ0 W R lN b0 b1 b2 b3 b4 b5 b6 b7)(hI:RI P ops nt TK TE σ0 W R w0 lN ds b0 b1 b2 b3 b4 b5 b6 b7 l a w){i:Nat}(hi:i∈Region.ready .any ops l){Q:cS->aV->aq->Prop}{K:aV->aq->Prop}
 (hK:∀a' w',RI P ops nt TK TE σ0 W R w0 lN ds b0 b1 b2 b3 b4 b5 b6 b7 (l.setIfInBounds i true) a' w'->K a' w'):wpOp P ops Q i K a w:=by
 obtain⟨hl,o,ho,hr⟩:=mc.1 hi;have oJ:l.size=36:=hI.base.tO;cases hp:gN i with
 |true=>exact ML hF hI ho hl hr hp hK
 |false=>
  have hs:=hF.shape i o ho;have hc:i=0\/i=4\/i=8\/i=12\/i=16\/i=20\/i=24\/i=29\/i=33\/i=34\/i=35:=by unfold gN at hp;split at hp<;>first|simp|cases hp
  rcases hc with rfl|rfl|rfl|rfl|rfl|rfl|rfl|rfl|rfl|rfl|rfl
  ·exact NO hF hI ho hl hr hK
  ·exact kZ hF hI ho hl hr hs rfl (by decide) (by decide) hF.v0 rfl (by unfold Dl;rw[dd (by omega),aT (show(4:Nat)≠8 by decide),aT (show(4:Nat)≠12 by decide),aT (show(4:Nat)≠16 by decide),aT (show(4:Nat)≠20 by decide),aT (show(4:Nat)≠24 by decide),aT (show(4:Nat)≠29 by decide),aT (show(4:Nat)≠33 by decide)];exact ail ..) hK
  ·exact kZ hF hI ho hl hr hs rfl (by decide) (by decide) hF.v1 rfl (by unfold Dl;rw[dd (by omega),aT (show(8:Nat)≠4 by decide),aT (show(8:Nat)≠12 by decide),aT (show(8:Nat)≠16 by decide),aT (show(8:Nat)≠20 by decide),aT (show(8:Nat)≠24 by decide),aT (show(8:Nat)≠29 by decide),aT (show(8:Nat)≠33 by decide)];exact aib ..) hK
  ·exact kZ hF hI ho hl hr hs rfl (by decide) (by decide) hF.v2 rfl (by unfold Dl;rw[dd (by omega),aT (show(12:Nat)≠4 by decide),aT (show(12:Nat)≠8 by decide),aT (show(12:Nat)≠16 by decide),aT (show(12:Nat)≠20 by decide),aT (show(12:Nat)≠24 by decide),aT (show(12:Nat)≠29 by decide),aT (show(12:Nat)≠33 by decide)];exact agK ..) hK
  ·exact kZ hF hI ho hl hr hs rfl (by decide) (by decide) hF.v3 rfl (by unfold Dl;rw[dd (by omega),aT (show(16:Nat)≠4 by decide),aT (show(16:Nat)≠8 by decide),aT (show(16:Nat)≠12 by decide),aT (show(16:Nat)≠20 by decide),aT (show(16:Nat)≠24 by decide),aT (show(16:Nat)≠29 by decide),aT (show(16:Nat)≠33 by decide)];exact aiu ..) hK
  ·exact kZ hF hI ho hl hr hs rfl (by decide) (by decide) hF.v4 rfl (by unfold Dl;rw[dd (by omega),aT (show(20:Nat)≠4 by decide),aT (show(20:Nat)≠8 by decide),aT (show(20:Nat)≠12 by decide),aT (show(20:Nat)≠16 by decide),aT (show(20:Nat)≠24 by decide),aT (show(20:Nat)≠29 by decide),aT (show(20:Nat)≠33 by decide)];exact ahw ..) hK
  ·exact kZ hF hI ho hl hr hs rfl (by decide) (by decide) hF.v5 rfl (by unfold Dl;rw[dd (by omega),aT (show(24:Nat)≠4 by decide),aT (show(24:Nat)≠8 by decide),aT (show(24:Nat)≠12 by decide),aT (show(24:Nat)≠16 by decide),aT (show(24:Nat)≠20 by decide),aT (show(24:Nat)≠29 by decide),aT (show(24:Nat)≠33 by decide)];exact agk ..) hK
  ·exact kZ hF hI ho hl hr hs rfl (by decide) (by decide) hF.v6 rfl (by unfold Dl;rw[dd (by omega),aT (show(29:Nat)≠4 by decide),aT (show(29:Nat)≠8 by decide),aT (show(29:Nat)≠12 by decide),aT (show(29:Nat)≠16 by decide),aT (show(29:Nat)≠20 by decide),aT (show(29:Nat)≠24 by decide),aT (show(29:Nat)≠33 by decide)];exact aiR ..) hK
  ·exact kZ hF hI ho hl hr hs rfl (by decide) (by decide) hF.v7 rfl (by unfold Dl;rw[dd (by omega),aT (show(33:Nat)≠4 by decide),aT (show(33:Nat)≠8 by decide),aT (show(33:Nat)≠12 by decide),aT (show(33:Nat)≠16 by decide),aT (show(33:Nat)≠20 by decide),aT (show(33:Nat)≠24 by decide),aT (show(33:Nat)≠29 by decide)];exact ai7 ..) hK
  ·exact Mf hF hI ho hl hr hK
  ·exact Jm hF hI ho hl hr hK
def Ae(b0 b1 b2 b3 b4 b5 b6 b7:Bool):bP Unit:=Eo true true true true true true true true b0 b1 b2 b3 b4 b5 b6 b7
structure RQ (P:ah) (nt TK TE:Nat) (σ0:cV) (W:AW) (w0:aq) (lN:Array ae) (ds:List dq) (b0 b1 b2 b3 b4 b5 b6 b7:Bool) (a:aV) (w:aq) (σ:cV) (m r n:Nat):Prop where
 Im:a.tmps.size=nt
 S1:a.defers=ds
 qM:∀t,(t<14\/41<t)->a.tmps[t]? =lN[t]?
 it:a.tmps.getD 41 ag=.pointer (some ⟨r,0,none⟩)
 rel:bg σ W w.heap
 ext:eB σ0 W w0 σ W w
 nm:∀b g,σ b=some g->g.B≠m
 nr:∀b g,σ b=some g->g.B≠r
 gm:w0.heap.size<=m
 gr:w0.heap.size<=r
 rg:w.ranges P TK (plainElem P TE) m r n (Ae b0 b1 b2 b3 b4 b5 b6 b7) (Maps.has (Ae b0 b1 b2 b3 b4 b5 b6 b7)) (Maps.size (Ae b0 b1 b2 b3 b4 b5 b6 b7))
def RI.done(hF:RF P ops nt TM TK TE σ0 W R lN b0 b1 b2 b3 b4 b5 b6 b7)(hI:RI P ops nt TK TE σ0 W R w0 lN ds b0 b1 b2 b3 b4 b5 b6 b7 l a w)(h:∀i,i<36->l.getD i false=true):
 ∃σ m r n,RQ P nt TK TE σ0 W w0 lN ds b0 b1 b2 b3 b4 b5 b6 b7 a w σ m r n:=by
 obtain⟨hB,σ,hW,hE,qB,gb⟩:=hI;obtain⟨m,n,k1,k2,k3,k4,k5,k6,k7⟩:=gb (h 0 (by decide));obtain⟨r,p1,p2,p3,p4⟩:=k7 (h 35 (by decide));have hD:Dl l b0 b1 b2 b3 b4 b5 b6 b7=Ae b0 b1 b2 b3 b4 b5 b6 b7:=by unfold Dl Ae;rw[h 4 (by decide),h 8 (by decide),h 12 (by decide),h 16 (by decide),h 20 (by decide),h 24 (by decide),h 29 (by decide),h 33 (by decide)]
 rw[hD]at p4;exact⟨σ,m,r,n,hB.Im,hB.S1,hB.qM,p1,hW,hE,k1,p2,k2,p3,p4⟩
def Jd(hF:RF P ops nt TM TK TE σ0 W R lN b0 b1 b2 b3 b4 b5 b6 b7){Q:cS->aV->aq->Prop}(hQ:∀a' w' σ m r n,RQ P nt TK TE σ0 W w0 lN ds b0 b1 b2 b3 b4 b5 b6 b7 a' w' σ m r n->Q .normal a' w'):
 ∀(uH:Nat) (l:Array Bool) (a:aV) (w:aq),RI P ops nt TK TE σ0 W R w0 lN ds b0 b1 b2 b3 b4 b5 b6 b7 l a w->We 36 l<=uH->wpAny P .any ops Q uH l a w:=by
 intro uH;induction uH with
 |zero=>
  intro l a w hI hu;have qH:∀i,i<36->l.getD i false=true:=λi hi=>by
   have h1:=Hz (n:=36) (l:=l) (by omega) hi;have VQ:i<l.size:=by rw[hI.base.tO];exact hi
   simp only[rI]at h1|-;rw[gp VQ]at h1|-;exact h1
  refine⟨?_,?_⟩
  ·rw[List.eq_nil_iff_forall_not_mem];intro i hi;obtain⟨h1,o,ho,_⟩:=mc.1 hi;have Fv:i<36:=by rw[<-hF.size];exact(dB.1 ho).1
   have:=qH i Fv;rw[kz h1 (by rw[hI.base.tO];exact Fv)]at this;cases this
  ·obtain⟨σ,m,r,n,h⟩:=hI.done hF qH;exact hQ _ _ _ _ _ _ h
 |succ uH ih=>
  intro l a w hI hu;refine⟨λhr=>?_,λi hi=>?_⟩
  ·obtain⟨σ,m,r,n,h⟩:=hI.done hF (MT hF hI.base hr);exact hQ _ _ _ _ _ _ h
  ·refine PH hF hI hi λa' w' hI'=>ih _ a' w' hI' ?_
   obtain⟨h1,o,ho,_⟩:=mc.1 hi;have Fv:i<36:=by rw[<-hF.size];exact(dB.1 ho).1
   have:=zE (l:=l) Fv (by rw[hI.base.tO];exact Fv) h1;omega
def Ku(hm:P.follows .mixedOrders=true){id:Nat}(hF:RF P ops nt TM TK TE σ0 W R a.tmps b0 b1 b2 b3 b4 b5 b6 b7)(hnt:a.tmps.size=nt)(hW:bg σ0 W w.heap){Q:cS->aV->aq->Prop}
 (hQ:∀a' w' σ m r n,RQ P nt TK TE σ0 W w a.tmps a.defers b0 b1 b2 b3 b4 b5 b6 b7 a' w' σ m r n->Q .normal a' w'):(Code.region id ops true).wp P Q a w:=by
 refine wp_region_any hm ?_;have uK:∀i,(Array.replicate ops.size false).getD i false=false:=λi=>by simp only[rI,Array.getElem?_replicate];split<;>rfl
 refine Jd (w0:=w) (lN:=a.tmps) (ds:=a.defers) hF hQ _ _ _ _ ⟨⟨by simp[hF.size],hnt,rfl,?_,λ_ _=>rfl⟩,σ0,hW,.drawn _ _ _ _,?_,?_⟩ ?_
 ·intro i hi;rw[uK]at hi;cases hi
 ·intro i o d _ _ hl;rw[uK]at hl;cases hl
 ·intro hl;rw[uK]at hl;cases hl
 ·unfold We;have:=List.countP_le_length (p:=λi=> !(Array.replicate ops.size false).getD i true) (l:=List.range 36);rw[hF.size]at this|-;simpa using this
end
end
end Go.Eng
namespace Go.Eng
open Go Go.RowKit
section
variable [ak]
structure dH (w w':aq):Prop where
 os:w'.os=w.os
 tape:w'.tape=w.tape
 output:w'.output=w.output
 size:w.heap.size<=w'.heap.size
 block:∀B,B<w.heap.size->w'.heap[B]? =w.heap[B]?
def dH.grown{w w':aq}(h:dH w w'):JB w w':=by
 refine⟨⟨h.os,h.output,λi hi=>?_⟩,λa ha=>F5 (h.block _ ha),h.size⟩;rw[h.block i hi];cases w.heap[i]? with
 |none=>rfl
 |some o=>cases o<;>first|rfl|exact⟨rfl,rfl,rfl,λ_ _=>rfl⟩|exact .inr ⟨rfl,rfl⟩
def dH.cell{w w':aq}(h:dH w w'){a:aP}{v:ae}(hc:w.cell? a=some v):w'.cell? a=some v:=by
 have gY:a.block<w.heap.size:=by
  rcases Nat.lt_or_ge a.block w.heap.size with h'|h'
  ·exact h'
  ·unfold World.cell? at hc;rw[rk h']at hc;simp at hc
 rw[World.cell?_of_block (h.block _ gY)];exact hc
def dH.rel{w w':aq}(h:dH w w'){σ:cV}{W:AW}(hW:bg σ W w.heap):bg σ W w'.heap where
 free:=hW.free
 np b g hb:=⟨(hW.np b g hb).1,fg (hW.np b g hb).2 h.size⟩
 obj b o g hb hσ:=(hW.obj b o g hb hσ).same (h.block _ (hW.np b g hσ).2)
 ny:=hW.ny
def dH.ext{w w':aq}(h:dH w w')(σ:cV)(W:AW):eB σ W w σ W w':=
 ⟨.refl _,λ_ _ h=>h,h.size,h.os,h.tape,h.output,λB hB _=>h.block B hB,λ_ _ a b=>⟨a,b⟩,λ_ _ a _=>.inl a⟩
def dH.other{w w' Pp:aq}(h:dH w w'){r:Nat}(hr:w.heap.size<=r)(hg:w'.grownBy Pp (some r))(oJ:Pp.heap.size=w'.heap.size)
 (h1:∀a:aP,a.block=r->w'.frozen? a=false)(h2:∀a:aP,a.block=r->Pp.frozen? a=false):dH w Pp:=by
 refine⟨hg.os.trans h.os,hg.tape.trans h.tape,hg.output.trans h.output,fL h.size hg.size,λB hB=>(hg.block B (fg hB h.size) (λe=>by injection e with e;omega)).trans (h.block B hB)⟩
def FI{H:Type}{P:ah}{k:ai}{w:aq}{Re:ae->Option (bP H×List dp)}{b r n wH:Nat}{D:bP H}{left:Lit->Bool}(h:w.ranges P k Re b r n D left wH){a:aP}(ha:a.block=r):w.frozen? a=false:=by obtain⟨es,jj,since,seen,c0,_,_,_,_,hr,_⟩:=h;unfold World.frozen?;rw[ha,hr]
def Bo(B n:Nat):cV:=λb=>if b=0 then some ⟨B,0,n⟩else none
def vI(cs:List ae):AW:=⟨T.set (some (.cells cs)) (path 0) .lf,1⟩
def ahQ:ak.Fr:=HG ak.blank 1 (.pointer (some ⟨0,0,none⟩))
def Dc{cs:List ae}{b:Nat}(e:b≠0):(vI cs).get b=none:=by show T.get (path b) (T.set (some (dO.cells cs)) (path 0) .lf)=_;exact(T.fA _ _ _ _ (sO (bL e))).trans (T.xN _)
def BN(cs:List ae){b:Nat}{o:dO}(h:(vI cs).get b=some o):b=0/\o=.cells cs:=by
 by_cases e:b=0
 ·subst e;have:(vI cs).get 0=some (.cells cs):=by show T.get (path 0) (T.set (some (dO.cells cs)) (path 0) .lf)=_;exact T.jC _ _ _
  rw[this]at h;injection h with h;exact⟨rfl,h.symm⟩
 ·have:(vI cs).get b=none:=Dc e;rw[this]at h;cases h
def UT(w:aq)(t:ai)(cs:List ae)(hp:cs.all bI=true):bg (Bo w.heap.size cs.length) (vI cs) (w.alloc (.cells cs.toArray t)).heap where
 free b hb:=Dc (by have h1:1<=b:=hb;intro e;subst e;exact absurd h1 (by decide))
 np b g hb:=by
  unfold Bo at hb;split at hb
  ·rename_i e;subst e;injection hb with hb;subst hb;exact⟨Nat.lt_succ_self 0,by simp⟩
  ·cases hb
 obj b o g hb hg:=by obtain⟨rfl,rfl⟩:=BN cs hb;injection hg with hg;subst hg;refine⟨cs.toArray,t,(0,0),(MapKept.heap_alloc w _).1,λ_=>rfl,by simp,by simp,λi v hv=>⟨v,by simpa using hv,?_⟩⟩;exact hX (cr.1 hp v (oA hv))
 ny b1 b2 o1 o2 g1 g2 fe h1 h2 _ _ _:=absurd ((BN cs h1).1.trans (BN cs h2).1.symm) fe
def MI{w w2:aq}{t:ai}{cs:List ae}{n:Nat}{σ:cV}(h:eB (Bo w.heap.size n) (vI cs) (w.alloc (.cells cs.toArray t)) σ (vI cs) w2):dH w w2:=by
 have oJ:(w.alloc (.cells cs.toArray t)).heap.size=w.heap.size+1:=by simp
 refine⟨h.os,h.tape,h.output,by have:=h.size;omega,λB hB=>?_⟩
 ·rw[h.dK B (by omega) ?_]
  ·exact(vk w _ none).block B hB (by simp)
  ·rintro⟨b,g,hb,hg,_⟩;unfold Bo at hb;split at hb
   ·injection hb with hb;subst hb;simp only at hg;omega
   ·cases hb
def Vk:List Nat:=(List.range 36).filter gN
def Lm(P:ah)(ops:Array ao)(W:AW):List Nat->ak.Fr->ak.Fr
 |[],R=>R
 |i::l,R=>match ops[i]? with
  |some o=>(match CY P o R W with
   |some (v,_)=>Lm P ops W l (eH R o.dst v)
   |none=>R)
  |none=>R
def SP{ops:Array ao}{TM:Nat}(h:Fs ops TM=true):ops.size=36/\∀i o,ops[i]? =some o->io ops TM i o=true/\D1 i o=true:=by unfold Fs at h;rw[bB,dW,cr]at h;refine⟨h.1,λi o ho=>?_⟩;have:=h.2 i (by have:=(dB.1 ho).1;simp;omega);rw[ho]at this;simpa using this
section
variable {P:ah}
def mn{d:Nat}{xs ys:Array ae}{f:pq}{fs:List pq}{k:aN}{a b:Int}{r:Bool}{w:aq}(hn:f.name≠ "_")(hk:P.plainKey f.type=true)(hu:P.underlying f.type=some (.int k))
 (hx:xs[f.offset]? =some (.int k a))(hy:ys[f.offset]? =some (.int k b))(hr:(Op.eqFields (d+1) xs ys fs).run P w=.ok r w):(Op.eqFields (d+1) xs ys (f::fs)).run P w=.ok ((a==b)&&r) w:=by
 unfold Op.eqFields;rw[ax hn,ch,run_part_plain w hk hx,b8,ch,run_part_plain w hk hy,b8,ch,run_equalIn_int _ _ _ _ _ _ _ hu,b8];cases a==b
 ·simp
 ·simpa using hr
def QZ{t:ai}{x y:ap}{f0 f1 f2 f3:pq}{k0 k1 k2 k3:aN}{a b c d:Int}(hs:P.underlying t=some (.struct (P.fieldsOf t)))(hp:P.stoodInHeld t=false)(hm:P.eqGuardType P.depth t=false)
 (hf:(P.fieldsOf t).toList=[f0,f1,f2,f3])(n0:f0.name≠ "_")(n1:f1.name≠ "_")(n2:f2.name≠ "_")(n3:f3.name≠ "_")(p0:P.plainKey f0.type=true)(p1:P.plainKey f1.type=true)(p2:P.plainKey f2.type=true)(p3:P.plainKey f3.type=true)
 (u0:P.underlying f0.type=some (.int k0))(u1:P.underlying f1.type=some (.int k1))(u2:P.underlying f2.type=some (.int k2))(u3:P.underlying f3.type=some (.int k3))(o0:f0.offset=0)(o1:f1.offset=1)(o2:f2.offset=2)(o3:f3.offset=3)(w:aq):
 (do eqGuard .neq t x y (.agg #[.int k0 a,.int k1 b,.int k2 c,.int k3 d]) (.agg #[.int k0 0,.int k1 0,.int k2 0,.int k3 0]);binOp .neq t (.agg #[.int k0 a,.int k1 b,.int k2 c,.int k3 d]) (.agg #[.int k0 0,.int k1 0,.int k2 0,.int k3 0]):Sem ae).run P w=
  .ok (.bool (!((a==0)&&((b==0)&&((c==0)&&((d==0)&&true)))))) w:=by
 have h9:∀xs ys:Array ae,(Op.equalIn 10000 t (.agg xs) (.agg ys)).run P w=(Op.eqFields 9999 xs ys (P.fieldsOf t).toList).run P w:=λxs ys=>run_equalIn_struct w 9999 t xs ys hs hp
 have h3:=mn (P:=P) (d:=9998) (xs:=#[.int k0 a,.int k1 b,.int k2 c,.int k3 d]) (ys:=#[.int k0 0,.int k1 0,.int k2 0,.int k3 0]) (fs:=[]) (r:=true) (w:=w) n3 p3 u3 (by rw[o3];rfl) (by rw[o3];rfl) (by simp[Op.eqFields]);have h2:=mn n2 p2 u2 (by rw[o2];rfl) (by rw[o2];rfl) h3;have h1:=mn n1 p1 u1 (by rw[o1];rfl) (by rw[o1];rfl) h2;have h0:=mn n0 p0 u0 (by rw[o0];rfl) (by rw[o0];rfl) h1;have h0':(Op.eqFields 9999 #[.int k0 a,.int k1 b,.int k2 c,.int k3 d] #[.int k0 0,.int k1 0,.int k2 0,.int k3 0] [f0,f1,f2,f3]).run P w=_:=h0;rw[ch,run_eqGuard_agg _ _ _ _ _ _ _ hm,b8,run_neq_struct,h9,hf,h0',b8]
end
def KG:List Nat:=Vk.filter λi=> !Nat.beq i 28
def Ig(P:ah)(ops:Array ao)(cs:List ae)(b6:Bool):ak.Fr:=HG (Lm P ops (vI cs) KG ahQ) 36 (.bool b6)
def acw(TT:Nat)(o:ao):Bool:=match o.op,o.dst with|.binOp .neq t (.tmp x) (.tmp y) _,some d=>Nat.beq t TT&&Nat.beq x 34&&Nat.beq y 35&&Nat.beq d 36|_,_=>false
def Hc{P:ah}(hm:P.follows .mixedOrders=true){id nt TM TK TE TT B:Nat}{ops:Array ao}{cs:List ae}{a:aV}{w:aq}{b0 b1 b2 b3 b4 b5 b6 b7:Bool}{Q:cS->aV->aq->Prop}{tk zk:Array ae}
 (h1:Fs ops TM=true)
 (h2:(KG.map λi=>(ops[i]?).bind λo=>CY P o (Ig P ops cs b6) (vI cs))=KG.map λi=>(ops[i]?).bind λo=>o.dst.map λd=>(cR (Ig P ops cs b6) d,vI cs))
 (v0:cR (Ig P ops cs b6) 17=.bool b0)(v1:cR (Ig P ops cs b6) 20=.bool b1)(v2:cR (Ig P ops cs b6) 23=.bool b2)(v3:cR (Ig P ops cs b6) 26=.bool b3)
 (v4:cR (Ig P ops cs b6) 29=.bool b4)(v5:cR (Ig P ops cs b6) 32=.bool b5)(v7:cR (Ig P ops cs b6) 39=.bool b7)
 (c1:cR (Ig P ops cs b6) 34=.agg tk)(c2:cR (Ig P ops cs b6) 35=.agg zk)(c3:bI (.agg tk)=true)(c4:bI (.agg zk)=true)(c5:(ops[28]?).any (acw TT)=true)
 (c6:∀w,(do eqGuard .neq TT (.tmp 34) (.tmp 35) (.agg tk) (.agg zk);binOp .neq TT (.agg tk) (.agg zk):Sem ae).run P w=.ok (.bool b6) w)
 (h3:cR (Ig P ops cs b6) 1=.pointer (some ⟨0,0,none⟩))(h4:a.tmps.getD 1 ag=.pointer (some ⟨B,0,none⟩))(h5:42<=nt)(h6:a.tmps.size=nt)
 (tM:P.underlying TM=some (.map TK TE))(tK:P.underlying TK=some (.int .i64))(tE:P.underlying TE=some .bool){n:Nat}(hW:bg (Bo B n) (vI cs) w.heap)
 (hQ:∀a' w' σ m r k,RQ P nt TK TE (Bo B n) (vI cs) w a.tmps a.defers b0 b1 b2 b3 b4 b5 b6 b7 a' w' σ m r k->Q .normal a' w'):(Code.region id ops true).wp P Q a w:=by
 obtain⟨oJ,Kx⟩:=SP h1;have v6:cR (Ig P ops cs b6) 36=.bool b6:=sE _ _ _;refine Ku (nt:=nt) (TM:=TM) (TK:=TK) (TE:=TE) (R:=Ig P ops cs b6) hm ⟨oJ,λi o ho=>(Kx i o ho).1,λi o ho=>(Kx i o ho).2,?_,v0,v1,v2,v3,v4,v5,v6,v7,?_,h5,tM,tK,tE⟩ h6 hW hQ
 ·intro i o d ho hp hd σ w ρ hW hρ;by_cases h32:i=28
  ·subst h32;rw[ho]at c5;simp only[Option.any_some]at c5;unfold acw at c5;split at c5;case h_2=>cases c5
   rename_i t x y dt d' qz gq;simp only[bB,dW]at c5;obtain⟨⟨⟨rfl,rfl⟩,rfl⟩,rfl⟩:=c5;rw[hd]at gq;injection gq with gq;subst gq;rw[v6];have e1:ρ (.tmp 34)=.agg tk:=by have:=hρ (.tmp 34) (by rw[qz];simp[Op.operands]);rw[show aA (Ig P ops cs b6) (.tmp 34)=.agg tk from c1]at this;exact eS c3 this
   have e2:ρ (.tmp 35)=.agg zk:=by have:=hρ (.tmp 35) (by rw[qz];simp[Op.operands]);rw[show aA (Ig P ops cs b6) (.tmp 35)=.agg zk from c2]at this;exact eS c4 this
   refine tq.value (s:=do eqGuard .neq t (.tmp 34) (.tmp 35) (.agg tk) (.agg zk);binOp .neq t (.agg tk) (.agg zk)) ?_ hW (c6 w) (.bool b6);simp only[execOp,qz,e1,e2]
  ·have hi:i∈KG:=lJ.2 ⟨lJ.2 ⟨by have:=(dB.1 ho).1;simp;omega,hp⟩,by cases hb:Nat.beq i 28 with|false=>rfl|true=>exact absurd (w9 hb) h32⟩;have:=List.map_inj_left.1 h2 i hi;exact Lw hW (by simpa[ho,hd]using this) hρ
 ·rw[h3,h4];exact VR.ptr (σ:=Bo B n) ⟨0,0,none⟩ ⟨B,0,n⟩ rfl rfl
def XY{tm lN:Array ae}{it:ae}(h:tm.size=58)(h0:lN.size=58)(qM:∀t,(t<14\/41<t)->tm[t]? =lN[t]?)(Ui:tm.getD 41 ag=it):
 ∃xs:List ae,xs.length=27/\tm=(lN.toList.take 14++(xs++(it::lN.toList.drop 42))).toArray:=by
 have hl:tm.toList.length=58:=by simpa using h
 have Ke:lN.toList.length=58:=by simpa using h0
 refine⟨(tm.toList.drop 14).take 27,by simp[hl],?_⟩;apply Array.ext';apply tY;intro i;simp only[];by_cases h1:i<14
 ·rw[uo (by simp[Ke];omega),List.getElem?_take_of_lt h1];have:=qM i (.inl h1);simpa using this
 ·rw[ig (by simp[Ke];omega)];have e14:(lN.toList.take 14).length=14:=by simp[Ke]
  rw[e14];by_cases h2:i<41
  ·rw[uo (by simp[hl];omega),List.getElem?_take_of_lt (by omega),sn];congr 1;omega
  ·rw[ig (by simp[hl];omega)];have e27:((tm.toList.drop 14).take 27).length=27:=by simp[hl]
   rw[e27];by_cases h3:i=41
   ·subst h3;have:tm[41]? =some it:=by rw[<-Ui];simp[gp (show 41<tm.size by omega)]
    simpa using this
   ·obtain⟨j,rfl⟩:∃j,i=j+42:=⟨i-42,by omega⟩;have e:j+42-14-27=j+1:=by omega
    rw[e,BV,sn];have:=qM (j+42) (.inr (by omega));have e2:42+j=j+42:=by omega
    rw[e2];simpa using this
def gx{H:Type}{P:ah}{e:ai}(he:P.underlying e=some .bool){v:ae}{y:bP H×List dp}(h:plainElem P e v=some y):∃c,v=.bool c:=by unfold plainElem at h;rw[he]at h;cases v<;>simp at h;exact⟨_,rfl⟩
def Qo{σ:cV}{cs:List ae}{w':aq}{B n:Nat}(h:bg σ (vI cs) w'.heap)(hσ:σ 0=some ⟨B,0,n⟩){i:Nat}{v:ae}(hv:cs[i]? =some v)(hp:bI v=true):w'.cell? ⟨B,i,none⟩=some v:=by
 have hg:(vI cs).get 0=some (.cells cs):=by show T.get (path 0) (T.set (some (dO.cells cs)) (path 0) .lf)=_;exact T.jC _ _ _
 obtain⟨c,t,fr,h1,_,_,_,h4⟩:=h.obj 0 _ _ hg hσ;obtain⟨v',h5,h6⟩:=h4 i v hv;rw[eS hp h6]at h5;simp only[aK]at h5;simp[World.cell?,h1,h5]
def xJ(g0 g1 g2 g3 g4 g5 g6 g7:Bool):Int:=(cond g0 1 0+(cond g1 2 0+(cond g2 4 0+(cond g3 8 0+(cond g4 16 0+(cond g5 32 0+(cond g6 64 0+cond g7 128 0)))))):Nat)
structure ai4 (P:ah) (TK TE m r n:Nat) (D:bP Unit) (left:Lit->Bool) (wH:Nat) (w:aq) where
 x:Int
 c:Bool
 w1:aq
 Jp:Nat
 hl:left (.af x)=true
 oC:∀zd,D.atKey (.af x) zd=.lit (.bool c)
 FG:w1.ranges P TK (plainElem P TE) m r n D (λz=>left z&& !z.sameKey (.af x)) Jp
 gY:Jp<wH
 NC:w.grownBy w1 (some r)
 oJ:w1.heap.size=w.heap.size
 hen:(Instr.entry (.pointer (some ⟨r,0,none⟩))).run P w1=.ok (.tuple #[.af x,.bool c]) w1
def w8{P:ah}{ops:Array ao}{ij:List ao}{o:ao}{a:aV}{w:aq}{Q:cS->aV->aq->Prop}(hg:o.guard=none)(it:ap)(qz:o.op=Op.next it false){TK TE m r n:Nat}{D:bP Unit}{left:Lit->Bool}{wH:Nat}
 (hk:P.underlying TK=some (.int .i64))(he:P.underlying TE=some .bool)(Ui:a.eval it=.pointer (some ⟨r,0,none⟩))(h:w.ranges P TK (plainElem P TE) m r n D left wH)
 (acJ:(∀kl,left kl=false)->wpList P ops Q ij (a.put o.dst (.tuple #[.bool false])) w)
 (aeH:∀z:ai4 P TK TE m r n D left wH w,wpList P ops Q ij (a.put o.dst (.tuple #[.bool true,.af z.x,.bool z.c])) z.w1):wpList P ops Q (o::ij) a w:=
 wpList_next_ranges (α:=Int) (β:=Bool) w hg it qz TK (Go.Maps.int_keyed hk) (plainElem P TE) (Value.int .i64) Value.bool (λkey kl Hs=>by obtain⟨x,rfl,_⟩:=Go.Maps.keyOf_int_inv hk Hs;exact⟨x,rfl⟩) (λv y hv=>gx he hv) m r n D left wH Ui h (λ_=>acJ)
  (λx c kl y w1 Jp Hs hlk hy oC FG gY NC oJ hen=>by obtain⟨x',ex,rfl,_⟩:=Go.Maps.keyOf_int_inv hk Hs;cases ex;rw[plainElem_bool he]at hy;injection hy with hy;subst hy;exact aeH ⟨x,c,w1,Jp,hlk,oC,FG,gY,NC,oJ,hen⟩)
def Rc{b0 b1 b2 b3 b4 b5 b6 b7 c:Bool}{x:Int}(h:Maps.has (Ae b0 b1 b2 b3 b4 b5 b6 b7) (.af x)=true)(oC:∀zd,(Ae b0 b1 b2 b3 b4 b5 b6 b7).atKey (.af x) zd=.lit (.bool c)):
 (x=1/\c=b0)\/(x=2/\c=b1)\/(x=4/\c=b2)\/(x=8/\c=b3)\/(x=16/\c=b4)\/(x=32/\c=b5)\/(x=64/\c=b6)\/(x=128/\c=b7):=by
 have hx:x=1\/x=2\/x=4\/x=8\/x=16\/x=32\/x=64\/x=128:=by simp only[Maps.has,Ae,Eo,Tt,oy,lu,List.any_cons,List.any_nil,Bool.or_false,ls]at h;rcases h with h|h|h|h|h|h|h|h<;>(have:=WideAt.sameKey_eq h;injection this with _ this;simp_all)
 rcases hx with rfl|rfl|rfl|rfl|rfl|rfl|rfl|rfl
 ·have:(DataW.lit (.bool b0):bP Unit)=.lit (.bool c):=oC .nil;injection this with this;injection this with this;simp[this]
 ·have:(DataW.lit (.bool b1):bP Unit)=.lit (.bool c):=oC .nil;injection this with this;injection this with this;simp[this]
 ·have:(DataW.lit (.bool b2):bP Unit)=.lit (.bool c):=oC .nil;injection this with this;injection this with this;simp[this]
 ·have:(DataW.lit (.bool b3):bP Unit)=.lit (.bool c):=oC .nil;injection this with this;injection this with this;simp[this]
 ·have:(DataW.lit (.bool b4):bP Unit)=.lit (.bool c):=oC .nil;injection this with this;injection this with this;simp[this]
 ·have:(DataW.lit (.bool b5):bP Unit)=.lit (.bool c):=oC .nil;injection this with this;injection this with this;simp[this]
 ·have:(DataW.lit (.bool b6):bP Unit)=.lit (.bool c):=oC .nil;injection this with this;injection this with this;simp[this]
 ·have:(DataW.lit (.bool b7):bP Unit)=.lit (.bool c):=oC .nil;injection this with this;injection this with this;simp[this]
def or0:∀g1 g2 g3 g4 g5 g6 g7:Bool,bits .or .i64 (xJ false g1 g2 g3 g4 g5 g6 g7) 1=xJ true g1 g2 g3 g4 g5 g6 g7:=by decide+kernel
def or1:∀g0 g2 g3 g4 g5 g6 g7:Bool,bits .or .i64 (xJ g0 false g2 g3 g4 g5 g6 g7) 2=xJ g0 true g2 g3 g4 g5 g6 g7:=by decide+kernel
def or2:∀g0 g1 g3 g4 g5 g6 g7:Bool,bits .or .i64 (xJ g0 g1 false g3 g4 g5 g6 g7) 4=xJ g0 g1 true g3 g4 g5 g6 g7:=by decide+kernel
def or3:∀g0 g1 g2 g4 g5 g6 g7:Bool,bits .or .i64 (xJ g0 g1 g2 false g4 g5 g6 g7) 8=xJ g0 g1 g2 true g4 g5 g6 g7:=by decide+kernel
def or4:∀g0 g1 g2 g3 g5 g6 g7:Bool,bits .or .i64 (xJ g0 g1 g2 g3 false g5 g6 g7) 16=xJ g0 g1 g2 g3 true g5 g6 g7:=by decide+kernel
def or5:∀g0 g1 g2 g3 g4 g6 g7:Bool,bits .or .i64 (xJ g0 g1 g2 g3 g4 false g6 g7) 32=xJ g0 g1 g2 g3 g4 true g6 g7:=by decide+kernel
def or6:∀g0 g1 g2 g3 g4 g5 g7:Bool,bits .or .i64 (xJ g0 g1 g2 g3 g4 g5 false g7) 64=xJ g0 g1 g2 g3 g4 g5 true g7:=by decide+kernel
def or7:∀g0 g1 g2 g3 g4 g5 g6:Bool,bits .or .i64 (xJ g0 g1 g2 g3 g4 g5 g6 false) 128=xJ g0 g1 g2 g3 g4 g5 g6 true:=by decide+kernel
def Rp{left:Lit->Bool}{x:Int}{c:Bool}{b0 b1 b2 b3 b4 b5 b6 b7:Bool}(hl:left (.af x)=true)
 (h8:(x=1/\c=b0)\/(x=2/\c=b1)\/(x=4/\c=b2)\/(x=8/\c=b3)\/(x=16/\c=b4)\/(x=32/\c=b5)\/(x=64/\c=b6)\/(x=128/\c=b7)):
 (c=false->xJ (!left (.af 1)&&b0) (!left (.af 2)&&b1) (!left (.af 4)&&b2) (!left (.af 8)&&b3) (!left (.af 16)&&b4) (!left (.af 32)&&b5) (!left (.af 64)&&b6) (!left (.af 128)&&b7)=xJ (!(λz=>left z&& !z.sameKey (.af x)) (.af 1)&&b0) (!(λz=>left z&& !z.sameKey (.af x)) (.af 2)&&b1) (!(λz=>left z&& !z.sameKey (.af x)) (.af 4)&&b2) (!(λz=>left z&& !z.sameKey (.af x)) (.af 8)&&b3) (!(λz=>left z&& !z.sameKey (.af x)) (.af 16)&&b4) (!(λz=>left z&& !z.sameKey (.af x)) (.af 32)&&b5) (!(λz=>left z&& !z.sameKey (.af x)) (.af 64)&&b6) (!(λz=>left z&& !z.sameKey (.af x)) (.af 128)&&b7))/\
 (c=true->bits .or .i64 (xJ (!left (.af 1)&&b0) (!left (.af 2)&&b1) (!left (.af 4)&&b2) (!left (.af 8)&&b3) (!left (.af 16)&&b4) (!left (.af 32)&&b5) (!left (.af 64)&&b6) (!left (.af 128)&&b7)) x=xJ (!(λz=>left z&& !z.sameKey (.af x)) (.af 1)&&b0) (!(λz=>left z&& !z.sameKey (.af x)) (.af 2)&&b1) (!(λz=>left z&& !z.sameKey (.af x)) (.af 4)&&b2) (!(λz=>left z&& !z.sameKey (.af x)) (.af 8)&&b3) (!(λz=>left z&& !z.sameKey (.af x)) (.af 16)&&b4) (!(λz=>left z&& !z.sameKey (.af x)) (.af 32)&&b5) (!(λz=>left z&& !z.sameKey (.af x)) (.af 64)&&b6) (!(λz=>left z&& !z.sameKey (.af x)) (.af 128)&&b7)):=by
 have e:∀a b:Int,(Lit.int .i64 a).sameKey (.af b)=decide (a=b):=by intro a b;simp[Lit.sameKey]
 rcases h8 with⟨rfl,rfl⟩|⟨rfl,rfl⟩|⟨rfl,rfl⟩|⟨rfl,rfl⟩|⟨rfl,rfl⟩|⟨rfl,rfl⟩|⟨rfl,rfl⟩|⟨rfl,rfl⟩
 ·exact⟨λhc=>by simp[e,hl,hc],λhc=>by simp[e,hl,hc,or0]⟩
 ·exact⟨λhc=>by simp[e,hl,hc],λhc=>by simp[e,hl,hc,or1]⟩
 ·exact⟨λhc=>by simp[e,hl,hc],λhc=>by simp[e,hl,hc,or2]⟩
 ·exact⟨λhc=>by simp[e,hl,hc],λhc=>by simp[e,hl,hc,or3]⟩
 ·exact⟨λhc=>by simp[e,hl,hc],λhc=>by simp[e,hl,hc,or4]⟩
 ·exact⟨λhc=>by simp[e,hl,hc],λhc=>by simp[e,hl,hc,or5]⟩
 ·exact⟨λhc=>by simp[e,hl,hc],λhc=>by simp[e,hl,hc,or6]⟩
 ·exact⟨λhc=>by simp[e,hl,hc],λhc=>by simp[e,hl,hc,or7]⟩
def tG{H:Type}{P:ah}{k:ai}{w:aq}{Re:ae->Option (bP H×List dp)}{b r n wH:Nat}{D:bP H}{left:Lit->Bool}(h:w.ranges P k Re b r n D left wH):∀a:aP,a.block=r->w.frozen? a=false:=λa ha=>FI h ha
def CO(b0 b1 b2 b3 b4 b5 b6 b7:Bool)(u:Int):Int:=if bits .andNot .i64 (xJ b0 b1 b2 b3 b4 b5 b6 b7) u=0 then 0 else 2
def OP{H:Type}{P:ah}{k:ai}{w:aq}{Re:ae->Option (bP H×List dp)}{b r n wH:Nat}{D:bP H}{left:Lit->Bool}(h:w.ranges P k Re b r n D left wH):r<w.heap.size:=by obtain⟨es,jj,since,seen,c0,_,_,_,_,hr,_⟩:=h;exact(dB.1 hr).1
end
section
variable [ak]
def eQ(k ow un se sc n to t1 t2 t3 t4 nw:Int):Array ae:=#[.af k,.int .u32 ow,.af un,.af se,.af sc,.af n,.int .u32 to,.int .u32 t1,.int .u32 t2,.int .u64 t3,.int .u64 t4,.af nw]
def F0(ow un se sc n to t1 t2 t3 t4 nw u:Int):Int:=
 CO (!decide (ow=0)) (!decide (un=0)) (!decide (se=0)) (!decide (sc=0)) (!decide (n=0)) (!decide (to=0)) (!((t1==0)&&((t2==0)&&((t3==0)&&((t4==0)&&true))))) (!decide (nw=0)) u
def ES(c:List ae)(W:AW):Option ae:=
 match c with
 |[.int .i64 k,.int .u32 ow,.int .i64 un,.int .i64 se,.int .i64 sc,.int .i64 n,.int .u32 to,.int .u32 t1,.int .u32 t2,.int .u64 t3,.int .u64 t4,.int .i64 nw]=>
  (match decide (k<1)||decide (12<k)with
  |true=>some (.af 2)
  |false=>match W.get 0 with
   |some (.ro us)=>(match us[k.toNat]? with
    |some (.int .i64 u)=>some (.af (F0 ow un se sc n to t1 t2 t3 t4 nw u))
    |_=>none)
   |_=>none)
 |_=>none
def WK(F:Nat):Callee:=λf args W=>match f with
 |.func (.func g) fs cs=>(match Nat.beq g F&&(fs.isEmpty&&cs.isEmpty)with
  |true=>(match args with
   |[.agg c]=>(match ES c.toList W with
    |some v=>some (v,W)
    |none=>none)
   |_=>none)
  |false=>none)
 |_=>none
def dH.box(w:aq)(cs:Array ae)(t:ai):dH w (w.alloc (.cells cs t)):=by exact⟨rfl,rfl,rfl,by simp,λB hB=>(vk w _ none).block B hB (by simp)⟩
def Ri{P:ah}{ng:List Nat}(h0:0∈ng){F:Nat}{fn:eV}{body:bs}(F6:P.funcs[F]? =some fn)(oQ:(fn.name== "runtime.NumGoroutine")=false)(hb:fn.body=some body)
 (nv:∀(k ow un se sc n to t1 t2 t3 t4 nw u:Int) (w:aq),¬k<1->¬12<k->w.cell? ⟨0,k.toNat,none⟩=some (.af u)->
   Calls P F #[.agg (eQ k ow un se sc n to t1 t2 t3 t4 nw)] w λe w'=>e=.returned (.af (F0 ow un se sc n to t1 t2 t3 t4 nw u))/\dH w w')
 (wT:∀(k ow un se sc n to t1 t2 t3 t4 nw:Int) (w:aq),(k<1\/12<k)->
   Calls P F #[.agg (eQ k ow un se sc n to t1 t2 t3 t4 nw)] w λe w'=>e=.returned (.af 2)/\dH w w'):bV P ng (WK F):=by
 intro f args W v W' h σ w f' da hW hG hf cM;unfold WK at h;split at h;case h_2=>cases h
 rename_i g fs cs;split at h;case h_2=>cases h
 rename_i KR;simp only[bB,dW,wa]at KR;obtain⟨rfl,rfl,rfl⟩:=KR;split at h;case h_2=>cases h
 rename_i c;split at h;case h_2=>cases h
 rename_i v1 Lx;injection h with h;injection h with h1 h2;subst h1;subst h2;obtain⟨CQ,rJ,cz,Cz,Cy,nK,rfl⟩:=hf.jU;cases Cz;obtain rfl:rJ=#[]:=by have h1:rJ.toList.length=0:=Cy.1.symm;exact rS.1 (jz.1 h1)
 obtain rfl:cz=#[]:=by have h1:cz.toList.length=0:=nK.1.symm;exact rS.1 (jz.1 h1)
 obtain⟨a0,rfl⟩:∃a0,da=[a0]:=by
  have:=cM.1;match da,this with
  |[a0],_=>exact⟨a0,rfl⟩
 unfold ES at Lx;split at Lx;case h_2=>cases Lx
 rename_i k ow un se sc n to t1 t2 t3 t4 nw hc;have oN:c=eQ k ow un se sc n to t1 t2 t3 t4 nw:=by apply Array.ext';rw[hc];rfl
 subst oN;have ha:a0=.agg (eQ k ow un se sc n to t1 t2 t3 t4 nw):=eS (v:=.agg (eQ k ow un se sc n to t1 t2 t3 t4 nw)) rfl (cM.2 0 _ _ rfl rfl);subst ha;have fin:∀z:Int,(Calls P g #[.agg (eQ k ow un se sc n to t1 t2 t3 t4 nw)] w λe w'=>e=.returned (.af z)/\dH w w')->
  tH P (.func (.func g) #[] #[]) [.agg (eQ k ow un se sc n to t1 t2 t3 t4 nw)] w (λv' w'=>∃σ',VR σ' (.af z) v'/\bg σ' W w'.heap/\eB σ W w σ' W w'):=by
  intro z hz;refine⟨eI F6 oQ hb _ w,?_⟩;refine mf (show CallsIn Fence.wide 0 P g _ w _ from(sI (n:=0)).2 hz) ?_;rintro e w' ⟨rfl,hq⟩;exact⟨_,rfl,σ,.int _ _,hq.rel hW,hq.ext σ W⟩
 split at Lx
 ·rename_i hk;injection Lx with Lx;subst Lx;exact fin _ (wT _ _ _ _ _ _ _ _ _ _ _ _ w (by simpa using hk))
 ·rename_i hk;simp only[Bool.or_eq_false_iff,zX]at hk;split at Lx;case h_2=>cases Lx
  rename_i us hus;split at Lx;case h_2=>cases Lx
  rename_i u hu;injection Lx with Lx;subst Lx;obtain⟨e,he⟩:=hG 0 h0;obtain⟨cc,t,fr,k1,_,k3⟩:=hW.obj 0 _ _ hus he;have K1:w.cell? ⟨0,k.toNat,none⟩=some (.af u):=by obtain⟨v',this,Ud⟩:=k3 _ _ hu;obtain rfl:=Ud.nT;simp only[aK]at this;simp[World.cell?,k1,this]
  exact fin _ (nv _ _ _ _ _ _ _ _ _ _ _ _ _ w hk.1 hk.2 K1)
def NG{gs:List (Nat×List ae)}{N:Nat}{σ':cV}{W':AW}{w w':aq}(he:eB (σG gs) (WG gs N) w σ' W' w'):dH w w':=
 ⟨he.os,he.tape,he.output,he.size,λB hB=>he.dK B hB ac3⟩
def wA{P:ah}(hm:P.follows .mixedOrders=true){bad:List Nat}(hP:ky ak.ng bad 0 P.funcs.toList=true){spec:Callee}(hs:bV P ak.ng spec)(n:Nat)
 {gs:List (Nat×List ae)}{N:Nat}(hN:gs.all (λx=>Nat.blt x.1 N)=true)(LW:ak.ng.all (λg=>(gs.find? (λx=>x.1==g)).isSome)=true){i:Nat}{args:List ae}(mq:args.all bI=true)
 (h:JK (JD P bad spec n (.func (.func i) #[] #[]) args (WG gs N))=true)(w:aq)(hl:tI gs w.heap):
 Calls P i args.toArray w λe w'=>e=.returned (.bool true)/\dH w w':=by
 obtain⟨W',hr⟩:=MM h;have hc:=Dq hm rfl hP hs n _ _ _ _ _ hr (σG gs) w (.func (.func i) #[] #[]) args (Vy hN hl) (RV LW)
  (.func _ _ _ _ _ _ (.func i) rfl (λi v v' x=>by simp at x) rfl (λi v v' x=>by simp at x)) (JH mq)
 unfold tH at hc;obtain⟨_,hc⟩:=hc;have e1:(#[]:Array ae)++args.toArray++#[]=args.toArray:=by simp
 rw[e1]at hc;refine(sI (n:=0)).1 ?_;refine mf (show CallsIn Fence.wide 0 P i args.toArray w _ from hc) ?_;rintro e w' ⟨v,rfl,σ',hv,_,he⟩;exact⟨by rw[hv.gx],NG he⟩
def yS{ng bad:List Nat}{F:Nat}:∀{l:List eV} {i:Nat},ky ng bad i l=true->ky ng (F::bad) i l=true
 |[],_,_=>rfl
 |f::l,i,h=>by
  simp only[ky,bB,ls]at h|-;refine⟨?_,yS h.2⟩;rcases h.1 with h1|h1
  ·exact .inl (qh.2 (List.mem_cons_of_mem _ (qh.1 h1)))
  ·exact .inr h1
def Yy(F:Nat)(KB:List ByteArray)(s:Callee):Callee:=λf args W=>match f with
 |.func (.func g) fs cs=>(match Nat.beq g F&&(fs.isEmpty&&cs.isEmpty)with
  |true=>(match args with
   |[.string b]=>(match KB.any (vR b)with
    |true=>(match W.get 0 with
     |some (.ro _)=>some (.bool true,W)
     |_=>none)
    |false=>none)
   |_=>none)
  |false=>s (.func (.func g) fs cs) args W)
 |_=>none
def Vg{P:ah}{ng:List Nat}(h0:0∈ng){F:Nat}{fn:eV}{body:bs}(F6:P.funcs[F]? =some fn)(oQ:(fn.name== "runtime.NumGoroutine")=false)(hb:fn.body=some body){KB:List ByteArray}{s:Callee}(hs:bV P ng s)
 (qH:∀b∈KB,∀w:aq,tI [(0,[])] w.heap->Calls P F #[.string b] w λe w'=>e=.returned (.bool true)/\dH w w'):bV P ng (Yy F KB s):=by
 intro f args W v W' h σ w f' da hW hG hf cM;unfold Yy at h;split at h;case h_2=>cases h
 rename_i g fs cs;split at h;case h_2=>exact hs _ _ _ _ _ h σ w f' da hW hG hf cM
 rename_i KR;simp only[bB,dW,wa]at KR;obtain⟨rfl,rfl,rfl⟩:=KR;split at h;case h_2=>cases h
 rename_i b;split at h;case h_2=>cases h
 rename_i KZ;split at h;case h_2=>cases h
 rename_i us hus;injection h with h;injection h with h1 h2;subst h1;subst h2;obtain⟨CQ,rJ,cz,Cz,Cy,nK,rfl⟩:=hf.jU;cases Cz;obtain rfl:rJ=#[]:=by have h1:rJ.toList.length=0:=Cy.1.symm;exact rS.1 (jz.1 h1)
 obtain rfl:cz=#[]:=by have h1:cz.toList.length=0:=nK.1.symm;exact rS.1 (jz.1 h1)
 obtain⟨a0,rfl⟩:∃a0,da=[a0]:=by
  have:=cM.1;match da,this with
  |[a0],_=>exact⟨a0,rfl⟩
 have ha:a0=.string b:=VR.Am (cM.2 0 _ _ rfl rfl);subst ha;obtain⟨e,he⟩:=hG 0 h0;obtain⟨cc,t,fr,k1,_,_⟩:=hW.obj 0 _ _ hus he;obtain⟨b',Yd,FC⟩:=sL.1 KZ;have:=By FC;subst this;have hl:tI [(0,[])] w.heap:=λx hx=>by
  obtain rfl:x=(0,[]):=by simpa using hx
  exact⟨cc,t,fr,k1,λi v hv=>by simp at hv⟩
 refine⟨eI F6 oQ hb _ w,?_⟩;refine mf (show CallsIn Fence.wide 0 P g _ w _ from(sI (n:=0)).2 (qH _ Yd w hl)) ?_;rintro e w' ⟨rfl,hq⟩;exact⟨_,rfl,σ,.bool _,hq.rel hW,hq.ext σ W⟩
end
section
variable [ak]
def KW:List (Nat×Callee)->Callee
 |[]=>λ_ _ _=>none
 |(F,c)::l=>λf args W=>match f with
  |.func (.func g) fs cs=>(match Nat.beq g F with
   |true=>c (.func (.func g) fs cs) args W
   |false=>KW l (.func (.func g) fs cs) args W)
  |_=>none
def Gu{P:ah}{ng:List Nat}:∀{l:List (Nat×Callee)},(∀x∈l,bV P ng x.2)->bV P ng (KW l)
 |[],_=>λf args W v W' h=>by cases h
 |(F,c)::l,hl=>by
  intro f args W v W' h;unfold KW at h;split at h;case h_2=>cases h
  split at h
  ·exact hl (F,c) (by simp) _ _ _ _ _ h
  ·exact Gu (λx hx=>hl x (by simp[hx])) _ _ _ _ _ h
def Bj(gs:List (Nat×List ae))(W:AW):Prop:=∀x∈gs,W.get x.1=some (.ro x.2)/\x.1<W.next
def Bj.mono{gs:List (Nat×List ae)}{W W':AW}(h:Bj gs W)(bi:Le W W'):Bj gs W':=λx hx=>⟨by rw[bi.get _ (h x hx).2];exact(h x hx).1,fg (h x hx).2 bi.next⟩
def BB(F:Nat)(gs:List (Nat×List ae))(val:List ae->Option ae):Callee:=λf args W=>match f with
 |.func (.func g) fs cs=>(match Nat.beq g F&&(fs.isEmpty&&cs.isEmpty)with
  |true=>open Classical in if Bj gs W then(match val args with
   |some v=>if bI v&&args.all bI then some (v,W)else none
   |none=>none)else none
  |false=>none)
 |_=>none
def QN{F:Nat}{gs:List (Nat×List ae)}{val:List ae->Option ae}{args:List ae}{W:AW}{v:ae}(hg:Bj gs W)(hv:val args=some v)(hp:bI v=true)(ha:args.all bI=true):
 BB F gs val (.func (.func F) #[] #[]) args W=some (v,W):=by
 unfold BB;simp only[nQ,Array.isEmpty_empty,sR,ax hg,hv,hp,ha,bk]
def Ss{P:ah}{ng:List Nat}{F:Nat}{fn:eV}{body:bs}(F6:P.funcs[F]? =some fn)(oQ:(fn.name== "runtime.NumGoroutine")=false)(hb:fn.body=some body){gs:List (Nat×List ae)}(hsc:gs.all (λx=>x.2.all cJ&&GI x.1 ng)=true){val:List ae->Option ae}
 (qH:∀args v,val args=some v->∀w:aq,tI gs w.heap->Calls P F args.toArray w λe w'=>e=.returned v/\dH w w'):bV P ng (BB F gs val):=by
 intro f args W v W' h σ w f' da hW hG hf cM;unfold BB at h;split at h;case h_2=>cases h
 rename_i g fs cs;split at h;case h_2=>cases h
 rename_i KR;simp only[bB,dW,wa]at KR;obtain⟨rfl,rfl,rfl⟩:=KR;split at h;case isFalse=>cases h
 rename_i hgl;split at h;case h_2=>cases h
 rename_i u hu;split at h;case isFalse=>cases h
 rename_i mq;injection h with h;injection h with h1 h2;subst h1;subst h2;simp only[bB]at mq;obtain⟨CQ,rJ,cz,Cz,Cy,nK,rfl⟩:=hf.jU;cases Cz;obtain rfl:rJ=#[]:=by have h1:rJ.toList.length=0:=Cy.1.symm;exact rS.1 (jz.1 h1)
 obtain rfl:cz=#[]:=by have h1:cz.toList.length=0:=nK.1.symm;exact rS.1 (jz.1 h1)
 obtain rfl:da=args:=LR.QS (λv v'=>eS) mq.2 cM;have hl:tI gs w.heap:=λx hx=>by have hs:=cr.1 hsc x hx;simp only[bB]at hs;obtain⟨e,he⟩:=hG x.1 (qh.1 hs.2);obtain⟨c,t,fr,k1,_,k3⟩:=hW.obj x.1 _ _ (hgl x hx).1 he;refine⟨c,t,fr,k1,λi v hv=>?_⟩;obtain⟨v',a,b⟩:=k3 i v hv;have hsv:=cr.1 hs.1 v (oA hv);have:v'=v:=DN hsv b;subst this;exact⟨by simpa using a,hsv⟩
 refine⟨eI F6 oQ hb _ w,?_⟩;have e1:(#[]:Array ae)++da.toArray++#[]=da.toArray:=by simp
 rw[e1];refine mf (show CallsIn Fence.wide 0 P g _ w _ from(sI (n:=0)).2 (qH _ _ hu w hl)) ?_;rintro e w' ⟨rfl,hq⟩;exact⟨_,rfl,σ,hX mq.1,hq.rel hW,hq.ext σ W⟩
def DM(σ:cV)(W:AW):Prop:=∀b g,σ b=some g->∃cs,W.get b=some (.ro cs)
def DM.quiet{σ σ':cV}{W W':AW}{w w':aq}(h:DM σ W)(he:eB σ W w σ' W' w'):dH w w':=
 ⟨he.os,he.tape,he.output,he.size,λB hB=>he.dK B hB (by rintro⟨b,g,hg,_,hn⟩;obtain⟨cs,hc⟩:=h b g hg;exact hn cs hc)⟩
def Pl{P:ah}{o:Callee}(iJ:bV P ak.ng o){σ:cV}{W W':AW}{w:aq}(hW:bg σ W w.heap)(hG:tx σ ak.ng)(nS:DM σ W){i:gn}{args da:List ae}(cM:LR σ args da){v:ae}(hv:bI v=true)
 (h:o (.func (.func i) #[] #[]) args W=some (v,W')):Calls P i da.toArray w λe w'=>e=.returned v/\dH w w':=by
 have hc:=iJ _ _ _ _ _ h σ w (.func (.func i) #[] #[]) da hW hG (.func _ _ _ _ _ _ (.func i) rfl (λi v v' x=>by simp at x) rfl (λi v v' x=>by simp at x)) cM;unfold tH at hc;obtain⟨_,hc⟩:=hc;have e1:(#[]:Array ae)++da.toArray++#[]=da.toArray:=by simp
 rw[e1]at hc;refine(sI (n:=0)).1 ?_;refine mf (show CallsIn Fence.wide 0 P i da.toArray w _ from hc) ?_;rintro e w' ⟨v',rfl,σ',Ud,_,he⟩;exact⟨by rw[eS hv Ud],nS.quiet he⟩
def Vf{gs:List (Nat×List ae)}{N:Nat}:DM (σG gs) (WG gs N):=by intro b g hg;obtain⟨x,_,_,_,ht⟩:=ph hg;exact⟨x.2,ht⟩
def Ug{gs:List (Nat×List ae)}{N:Nat}(hN:gs.all (λx=>Nat.blt x.1 N)=true)(hd:∀x∈gs,gs.find? (λy=>y.1==x.1)=some x):Bj gs (WG gs N):=by intro x hx;refine⟨?_,show x.1<N by have:=cr.1 hN x hx;simpa[i9]using this⟩;show T.get (path x.1) (A5 gs)=_;rw[sT,hd x hx];rfl
end
end Go.Eng
namespace Go.Eng
open Go
section
variable [ak]
section
variable {P:ah} {W:AW}
def aQ(l:List UInt8):ByteArray:=⟨l.toArray⟩
def HL(b:ByteArray):aQ b.data.toList=b:=by cases b;simp[aQ]
def jq(l:List UInt8):(aQ l).size=l.length:=by simp[aQ,ByteArray.size]
def uz(l:List Nat):AJ l=.string (aQ (l.map UInt8.ofNat)):=aH rfl rfl
def zb(l:List UInt8)(i:Nat):(aQ l)[i]? =l[i]? :=by
 by_cases h:i<l.length
 ·have h2:i<(aQ l).size:=by rw[jq];exact h
  rw[dm h,getElem?_pos (aQ l) i h2];rfl
 ·rw[pH (by omega),getElem?_neg (aQ l) i (by rw[jq];exact h)]
def B5{s:Sem ae}{v:ae}(h:cd P s=some v)(hv:bI v=true)(c:Bool)(hc:c=true):(jV P c (do pure (.value (<-s)))).map (λv=>(v,W))=some (v,W):=by subst hc;unfold jV;simp only[bk,F7 h,hv,cD]
def ir{t:ai}(hs:P.underlying t=some .string){l:List UInt8}{i:Nat}{k:aN}(hi:i<l.length):dU P t (.string (aQ l)) (.int k (i:Int)) W=some (.int .u8 (l[i].toNat:Int),W):=by
 have e:dU P t (.string (aQ l)) (.int k (i:Int)) W=(jV P (bI (.string (aQ l))&&(bI (.int k (i:Int))&&true)) (do pure (.value (<-Instr.index t (.string (aQ l)) (.int k (i:Int)))))).map λv=>(v,W):=by unfold dU;rw[hs]
 rw[e];refine B5 ?_ rfl _ rfl;unfold Instr.index;have h0:(0:Int)<=(i:Int):=by omega
 simp only[asIntOf,pure_bind,eL,eU hs,bq,h0,bk,ot,zb,dm hi,fq]
def ee{ts:Array ai}{ty:ai}{cf:Array Bool}(h:(ts[0]?).bind P.underlying=some .string)(l:List UInt8):aG P .len ts ty cf [.string (aQ l)] W=some (.af l.length,W):=by
 obtain⟨t,h1,h2⟩:∃t,ts[0]? =some t/\P.underlying t=some .string:=by
  cases ht:ts[0]? with
  |none=>rw[ht]at h;cases h
  |some t=>rw[ht]at h;exact⟨t,rfl,h⟩
 have e:aG P .len ts ty cf [.string (aQ l)] W=(jV P ([Value.string (aQ l)].all bI) (builtin .len ts ty cf #[.string (aQ l)])).map λv=>(v,W):=by unfold aG;rfl
 rw[e];have e2:builtin .len ts ty cf #[.string (aQ l)]=(do pure (.value (<-Builtin.len_ ts ty #[.string (aQ l)]))):=rfl;rw[e2];refine B5 ?_ rfl _ rfl;unfold Builtin.len_;simp only[h1,List.getElem?_toArray,D7,eL,eU h2,bq,fq,jq];rfl
def qU(l:List UInt8)(a b:Nat):(aQ l).extract a b=aQ ((l.take b).drop a):=by
 have h:((aQ l).extract a b).data=(aQ ((l.take b).drop a)).data:=by rw[ByteArray.data_extract];apply oD.1;simp[aQ,Fq,List.drop_take]
 cases hx:(aQ l).extract a b with
 |mk d=>rw[hx]at h;simp only at h;rw[h]
def RU{t:ai}(hs:P.underlying t=some .string){l:List UInt8}{a:Nat}{k:aN}(h:a<=l.length):gh P t (.string (aQ l)) (some (.int k (a:Int))) none none W=some (.string (aQ (l.drop a)),W):=by
 have e:gh P t (.string (aQ l)) (some (.int k (a:Int))) none none W=(jV P (([Value.string (aQ l),.int k (a:Int)]:List ae).all bI) (do pure (.value (<-Instr.sliceAt t (.string (aQ l)) (some (.int k (a:Int))) none none)))).map λv=>(v,W):=by unfold gh mD;rw[hs];rfl
 rw[e];refine B5 ?_ rfl _ rfl;have h0:(0:Int)<=(a:Int)/\(a:Int)<=((aQ l).size:Int):=by rw[jq];omega
 have hx:(aQ l).extract a (aQ l).size=aQ (l.drop a):=by rw[qU,jq,dN]
 unfold Instr.sliceAt Instr.slice Instr.sliceBounds Instr.sliceBound;simp only[eL,eU hs,bq,asIntOf,pure_bind,h0,mp,bk,fq,ot,hx,vb,fJ,bG]
def Zm{t:ai}(hs:P.underlying t=some .string){l:List UInt8}{a:Nat}{k:aN}(h:a<=l.length):gh P t (.string (aQ l)) none (some (.int k (a:Int))) none W=some (.string (aQ (l.take a)),W):=by
 have e:gh P t (.string (aQ l)) none (some (.int k (a:Int))) none W=(jV P (([Value.string (aQ l),.int k (a:Int)]:List ae).all bI) (do pure (.value (<-Instr.sliceAt t (.string (aQ l)) none (some (.int k (a:Int))) none)))).map λv=>(v,W):=by unfold gh mD;rw[hs];rfl
 rw[e];refine B5 ?_ rfl _ rfl;have h0:(0:Int)<=(a:Int)/\(a:Int)<=((aQ l).size:Int):=by rw[jq];omega
 have hx:(aQ l).extract 0 a=aQ (l.take a):=by rw[qU];simp
 unfold Instr.sliceAt Instr.slice Instr.sliceBounds Instr.sliceBound;simp only[eL,eU hs,bq,asIntOf,pure_bind,h0,mp,bk,fq,ot,hx,vb,fJ,bG]
def tB(l:List UInt8):(aQ l).toList=l:=by rw[ByteArray.toList_eq];rfl
def nC{t:ai}{c d:Bool}{a b:List UInt8}:aw P .eql t c d (.string (aQ a)) (.string (aQ b)) W=some (.bool (a==b),W):=by rw[xS,tB,tB]
def aX(a:aP):aW (.pointer (some a)) W=some (.pointer (some a),W):=aH rfl rfl
def LJ{t:ai}{x:ae}:aD P [(x,some t)] W=(iH P t x W).bind λr=>some (r.1,W):=by unfold aD iH;simp only[pf];cases iw P W t x<;>rfl
def jv{t:ai}{x u:ae}:aD P [(x,some t),(u,none)] W=(iH P t x W).bind λr=>some (.tuple #[r.1,u],W):=by unfold aD iH;simp only[pf];cases iw P W t x<;>rfl
def sA{t t2:ai}{x y:ae}:aD P [(x,some t),(y,some t2)] W=(iH P t x W).bind λr=>(iH P t2 y W).bind λq=>some (.tuple #[r.1,q.1],W):=by unfold aD iH;simp only[pf];cases iw P W t x<;>cases iw P W t2 y<;>rfl
def AG{t t2:ai}{x y u:ae}:aD P [(x,some t),(y,some t2),(u,none)] W=(iH P t x W).bind λr=>(iH P t2 y W).bind λq=>some (.tuple #[r.1,q.1,u],W):=by unfold aD iH;simp only[pf];cases iw P W t x<;>cases iw P W t2 y<;>rfl
def Vb{b:Nat}{cs:List ae}(h:aF W b=some cs)(h1:cs.all one=true):bU cs.length (.pointer (some ⟨b,0,none⟩)) (.agg cs.toArray) W=some (ag,W.put b (.cells cs)):=by rw[sY,h];simp only[bq,pA,aK,aS,h1,mp,bk,fN,rY,lu,List.drop_length,iD]
def kP{b n:Nat}{cs:List ae}(h:aI W b=some cs)(hn:cs.length=n):bA n (.pointer (some ⟨b,0,none⟩)) W=some (.agg cs.toArray,W):=by rw[Ay,h];simp only[bq,jy,<-hn,dN,bk]
end
end
def SX:=aM @vY (aM @WS (aM @iR (aM @G2 (aM @Oz (aM @GQ (aM @Bg (aM @On (aM @I6 (aM @EJ (aM @D5 (aM @DZ (aM @Ek (aM @Et (aM @Pf (aM @OD (aM @R7 (aM @OG (aM @SN (aM @IU (aM @Fw (aM @JE (aM @ON (aM @JY (aM @OO (aM @EM (aM @NM (aM @Ve (aM @Xi (aM @UN (aM @Sp (aM @Qw (aM @Ra (aM @Rr (aM @Ph (aM @Rk (aM @IQ (aM @I8 (aM @JQ (aM @Py (aM @XQ (aM @Bool.not_true (aM @Bool.not_false (aM @decide_true (@decide_false))))))))))))))))))))))))))))))))))))))))))))
def MX:=aM @Sw (aM @Ay (aM @bp (aM @bQ (aM @bq.{0,0} (aM @cD.{0,0} (aM @jy.{0} (aM @List.drop_succ_cons.{0} (aM @Ej.{0} (aM @rY.{0} (aM @dG.{0} (aM @qo.{0} (aM @D7.{0} (aM @BV.{0} (aM @aK (aM @bk.{1} (aM @mp (aM @rE (aM @IX (aM @UA (aM @IK (aM @Pn (aM @xP (aM @FJ (aM @KX (aM @HR (aM @JM (aM @M3 (aM @Dy (aM @JS (aM @Fb (aM @lO (aM @je (aM @sR (aM @im (aM @TZ (aM @qj (aM @Gv (aM @JJ (aM @Mm (aM @sY (aM @rQ (aM @fp (aM @nW (aM @br (aM @rz (aM @be (aM @E0.{0} (aM @z8.{0} (aM @lu.{0} (aM @oy.{0} (aM @pF (aM @P8 (aM @mV (aM @N3 (aM @eP.{0} (aM @md.{0} (aM @pA.{0} (aM @iD.{0} (aM @LD (aM @List.drop_nil.{0} (@List.take_nil.{0})))))))))))))))))))))))))))))))))))))))))))))))))))))))))))))
section
variable [ak]
section
variable {P:ah} {W:AW} {α:Type}
def ns(lo:Nat)(W:AW)(z:Nat)(f:α->List ae)(v:ae)(l:List α):Prop:=
 (l=[]/\v=.slice none 0 0)\/(l≠[]/\∃B,lo<=B/\B<W.next/\v=.slice (some ⟨B,0,none⟩) l.length (ge+z)/\W.get B=some (.cells (l.flatMap f)))
def cw{z:Nat}{f:α->List ae}(hf:∀a,(f a).length=z):∀l:List α,(l.flatMap f).length=l.length*z
 |[]=>by simp
 |a::l=>by rw[hO,cm,hf,cw hf l,dG,Nat.succ_mul,Nat.add_comm]
def ns.nil(lo:Nat)(W:AW)(z:Nat)(f:α->List ae):ns lo W z f (.slice none 0 0) []:=.inl ⟨rfl,rfl⟩
def ns.mono{lo z:Nat}{f:α->List ae}{v:ae}{l:List α}{W':AW}(h:ns lo W z f v l)(bi:Le W W'):ns lo W' z f v l:=by
 rcases h with h|⟨h0,B,h1,h2,h3,h4⟩
 ·exact .inl h
 ·exact .inr ⟨h0,B,h1,fg h2 bi.next,h3,by rw[bi.get B h2];exact h4⟩
def ns.push{ts:Array ai}{z bytes lo:Nat}{f:α->List ae}{v:ae}{l:List α}{a:α}(hk:lS P ts z bytes=true)(hf:∀a,(f a).length=z)(h1:∀a,(f a).all one=true)
 (h:ns lo W z f v l){b c:Nat}(hc:aI W b=some (f a))(hb:l.length+1<1099511627776)(iu:(2*(l.length+1)+192)*bytes<=281474976710656)(yd:lo<=W.next):
 ∃v' W',aO P W ts v (.slice (some ⟨b,0,none⟩) 1 c)=some (v',W')/\ns lo W' z f v' (l++[a])/\W.next<=W'.next/\∀A,Le A W->A.next<=lo->Le A W':=by
 have hn:f a=((f a).drop 0).take (1*z):=by rw[jy,Nat.one_mul,<-hf a,dN]
 have hl:(f a).length=1*z:=by rw[hf];omega
 rcases h with⟨rfl,rfl⟩|⟨h0,B,i1,i2,rfl,i4⟩
 ·refine⟨_,_,zR (b:=b) (o:=0) (c:=c) hk hc hn hl (by omega) (h1 a) (by omega) (by simpa using iu),.inr ⟨by simp,W.next,yd,by rw[AW.aL];omega,by simp,by rw[AW.a8];simp⟩,by rw[AW.aL];omega,λA hA _=>hA.add _⟩
 ·have xq:0<l.length:=sP.2 h0;refine⟨_,_,I9 (b:=b) (o:=0) (c:=c) hk hc hn hl (by omega) (h1 a) i4 (cw hf l) (by omega) iu xq,.inr ⟨by simp,W.next,yd,by rw[AW.aL,AW.dX];omega,by simp,?_⟩,by rw[AW.aL,AW.dX];omega,λA hA hl=>(hA.kill (by omega)).add _⟩;have:=(W.kill B).a8 (.cells (l.flatMap f++f a));rw[AW.dX]at this;rw[this,jO];simp
def ns.row{lo z:Nat}{f:α->List ae}{v:ae}{l:List α}{at_:List ae->Nat->α->Prop}(hf:∀a,(f a).length=z)(h:ns lo W z f v l)(oC:∀a pre post,at_ (pre++(f a++post)) pre.length a):Row W z at_ v l:=by
 rcases h with⟨rfl,rfl⟩|⟨h0,B,i1,i2,rfl,i4⟩
 ·exact⟨none,0,rfl,.inl rfl⟩
 ·refine⟨_,_,rfl,.inr ⟨B,0,_,rfl,i2,bm i4,λi hi=>?_⟩⟩;have e:l.flatMap f=(l.take i).flatMap f++(f l[i]++(l.drop (i+1)).flatMap f):=by rw[<-hO,<-rC hi,<-jO,xx]
  have e2:((l.take i).flatMap f).length=0+i*z:=by rw[cw hf,fT];rw[nO (by omega),aK]
  rw[e,<-e2];exact oC _ _ _
def Z2{W':AW}{z:Nat}{at_:List ae->Nat->α->Prop}{v:ae}{l:List α}(bi:Le W W')(h:Row W' z at_ v l):∃W2,gc W (v,W')=(v,W2)/\Le W W2/\Le W2 W'/\Row W2 z at_ v l:=by
 cases hp:(bI v&& !Y3 v)
 ·exact⟨W',uB hp,bi,.refl _,h⟩
 ·refine⟨W,rf hp bi,.refl _,bi,?_⟩;obtain⟨a,c,rfl,h⟩:=h;rcases h with h|⟨b,o,cs,rfl,_⟩
  ·exact⟨a,c,rfl,.inl h⟩
  ·exact absurd hp (by simp[bI,fY,cJ])
def Y2{o t:Option (ae×AW)}{z:Nat}{at_:List ae->Nat->α->Prop}{l:List α}(h:Ok t λr=>Le W r.2/\Row r.2 z at_ r.1 l)(OT:∀{r},t=some r->o=some (gc W r)):∃v W2,o=some (v,W2)/\Le W W2/\Row W2 z at_ v l:=by obtain⟨⟨v,W'⟩,h1,h2,h3⟩:=h;obtain⟨W2,k1,k2,_,k3⟩:=Z2 h2 h3;exact⟨v,W2,by rw[OT h1,k1],k2,k3⟩
end
end
section
variable [ak]
section
variable {P:ah} {bad:List Nat} {spec:Callee}
def adO(x:X)(l:Nat)(R:ak.Fr)(nt:Nat)(ps:Array Tmp)(anD bd:bs)(W:AW):ae×AW:=match x with
 |.normal=>(.bool true,W.put l (.loop .ready none R nt ps anD bd))
 |x=>(.bool false,W.put l (.loop .done x.jump R nt ps anD bd))
def DB{l nt:Nat}{R:ak.Fr}{ps:Array Tmp}{anD bd:bs}{W:AW}{args:List ae}(hl:W.get l=some (.loop .ready none R nt ps anD bd))(hn:args.length=ps.size)
 {R1:ak.Fr}{W1:AW}(h1:fK P (om P bad spec) false nt anD LT (lR ps.toList args R) W mg=some (.normal,R1,W1))(hk:W1.get l=some (.loop .ready none R nt ps anD bd))
 {x2:X}{R2:ak.Fr}{W2:AW}(h2:fK P (om P bad spec) false nt bd LT R1 (W1.put l (.loop .busy none R nt ps anD bd)) mg=some (x2,R2,W2))(S8:W2.get l=some (.loop .busy none R nt ps anD bd)):
 om P bad spec (.func (.yield l) #[] #[]) args W=some (adO x2 l R nt ps anD bd W2):=by
 refine SI hl (by simpa using hn) ?_;unfold EH;rw[show(#[]:Array ae).toList++args=args from rfl,h1];simp only[bq,qy,hk,h2,S8];unfold adO;cases x2<;>rfl
def vJ{call:Callee}{i:Nat}{fs cs:Array ae}{obj:dO}{W W2:AW}{v:ae}(h:call (.func (.func i) fs cs) [.func (.yield W.next) #[] #[]] (W.add obj)=some (v,W2))
 {st:LoopState}{R:ak.Fr}{nt:Nat}{ps:Array Tmp}{anD bd:bs}(hg:W2.get W.next=some (.loop st none R nt ps anD bd))(hs:st≠ .busy):jb call (.func (.func i) fs cs) obj W=some (.normal,W2.kill W.next):=by
 unfold jb;simp only[h,hg]
def Bh{call:Callee}{i:Nat}{fs cs:Array ae}{obj:dO}{W W2:AW}{v:ae}(h:call (.func (.func i) fs cs) [.func (.yield W.next) #[] #[]] (W.add obj)=some (v,W2))
 {x:X}{R:ak.Fr}{nt:Nat}{ps:Array Tmp}{anD bd:bs}(hg:W2.get W.next=some (.loop .done x.jump R nt ps anD bd)):jb call (.func (.func i) fs cs) obj W=some (x,W2.kill W.next):=by
 unfold jb;simp only[h,hg];cases x<;>rfl
end
end
end Go.Eng
namespace Go.Eng
open Go Go.RowKit Go.Sort
section
variable [ak]
def jk(zs:List Int):List Int:=zs.mergeSort λx y=>decide (x<=y)
def sz(zs:List Int):(jk zs).length=zs.length:=List.length_mergeSort _
def lj(W:AW)(args:List ae)(W':AW):Prop:=∃b c zs,zs≠[]/\zs.length<1099511627776/\args=[.slice (some ⟨b,0,none⟩) zs.length c]/\W.get b=some (.cells (zs.map (Value.int .i64)))/\W'=W.put b (.cells ((jk zs).map (Value.int .i64)))
def ye:∀{a b:List Int},a.map (Value.int .i64)=b.map (Value.int .i64)->a=b
 |[],[],_=>rfl
 |[],_::_,h=>by simp at h
 |_::_,[],h=>by simp at h
 |x::a,y::b,h=>by simp only[i6,List.cons.injEq,Value.int.injEq,true_and]at h;rw[h.1,ye h.2]
def lj.one{W W1 W2:AW}{args:List ae}(h1:lj W args W1)(h2:lj W args W2):W1=W2:=by obtain⟨b,c,zs,_,_,rfl,g1,rfl⟩:=h1;obtain⟨b2,c2,zs2,_,_,e,g2,rfl⟩:=h2;simp only[List.cons.injEq,Value.slice.injEq,fI,Addr.mk.injEq,and_true]at e;obtain⟨rfl,_,_⟩:=e;rw[g1]at g2;simp only[fI,dO.cells.injEq]at g2;rw[ye g2]
def Ao(F:Nat):Callee:=λf args W=>match f with
 |.func (.func g) fs cs=>(match Nat.beq g F&&(fs.isEmpty&&cs.isEmpty)with
  |true=>open Classical in if h:∃W',lj W args W' then some (.tuple #[],Classical.choose h)else none
  |false=>none)
 |_=>none
def QC{F:Nat}{W W':AW}{args:List ae}(h:lj W args W'):Ao F (.func (.func F) #[] #[]) args W=some (.tuple #[],W'):=by unfold Ao;have hx:∃W',lj W args W':=⟨W',h⟩;simp only[nQ,Array.isEmpty_empty,sR,dif_pos hx];rw[(xC hx).one h]
def bg.TH{σ:cV}{W:AW}{w:aq}(h:bg σ W w.heap)(os:Array Obj):bg σ W (Sort.grow w os).heap/\eB σ W w σ W (Sort.grow w os):=by
 have eG:∀B,B<w.heap.size->(Sort.grow w os).heap[B]? =w.heap[B]? :=λB hB=>heap_grow_old w os hB
 have oJ:w.heap.size<=(Sort.grow w os).heap.size:=by unfold Sort.grow;simp
 exact⟨⟨h.free,λb g hg=>⟨(h.np b g hg).1,fg (h.np b g hg).2 oJ⟩,λb o g hb hg=>(h.obj b o g hb hg).same (eG _ (h.np b g hg).2),h.ny⟩,
  ⟨.refl _,λ_ _ h=>h,oJ,rfl,rfl,rfl,λB hB _=>eG B hB,λ_ _ h k=>⟨h,k⟩,λb g hg _=>.inl hg⟩⟩
def PY{P:ah}{ng:List Nat}{F:Nat}{fn:eV}{body:bs}(F6:P.funcs[F]? =some fn)(oQ:(fn.name== "runtime.NumGoroutine")=false)(hb:fn.body=some body)
 (adb:∀(blk off cap:Nat) (zs:List Int) (w:aq),Holds (Value.int .i64) w blk off zs.toArray->blk<w.heap.size->zs.length<4611686018427387904->
   Calls P F #[.slice (some ⟨blk,off,none⟩) zs.length cap] w λe w'=>e=.returned (.tuple #[])/\∃n os,w'=Sort.grow (putRow (Value.int .i64) (Sort.ahead w n) blk off (jk zs).toArray) os):bV P ng (Ao F):=by
 intro f args W v W' h σ w f' da hW hG hf cM;unfold Ao at h;split at h;case h_2=>cases h
 rename_i g fs cs;split at h;case h_2=>cases h
 rename_i KR;simp only[bB,dW,wa]at KR;obtain⟨rfl,rfl,rfl⟩:=KR;split at h;case isFalse=>cases h
 rename_i hx;injection h with h;injection h with h1 h2;subst h1;have hs:=xC hx;rw[h2]at hs;clear h2 hx;obtain⟨b,c,zs,fe,fb,rfl,hgb,rfl⟩:=hs;obtain⟨CQ,rJ,cz,Cz,Cy,nK,rfl⟩:=hf.jU;cases Cz;obtain rfl:rJ=#[]:=by have h1:rJ.toList.length=0:=Cy.1.symm;exact rS.1 (jz.1 h1)
 obtain rfl:cz=#[]:=by have h1:cz.toList.length=0:=nK.1.symm;exact rS.1 (jz.1 h1)
 obtain⟨v',rfl,hv⟩:∃v',da=[v']/\VR σ (.slice (some ⟨b,0,none⟩) zs.length c) v':=by
  obtain⟨hl,hv⟩:=cM;match da,hl with
  |[v'],_=>exact⟨v',rfl,hv 0 _ _ rfl rfl⟩
 obtain⟨sg,Au,hg,rfl⟩:∃(sg:rB) (Au:Nat),σ b=some sg/\v'=.slice (some ⟨sg.B,sg.s,none⟩) zs.length Au:=by
  have xq:0<zs.length:=sP.2 fe;generalize hl:zs.length=l at hv xq;cases hv with
  |slice a l c c' g h hs hc=>exact⟨g,c',h,rfl⟩
  |di=>omega
 refine⟨eI F6 oQ hb _ w,?_⟩;have e1:(#[]:Array ae)++[Value.slice (some ⟨sg.B,sg.s,none⟩) zs.length Au].toArray++#[]=#[.slice (some ⟨sg.B,sg.s,none⟩) zs.length Au]:=by simp
 rw[e1];obtain⟨cc,t,VN,k1,k0,k2,k3,k4⟩:=hW.obj b _ _ hgb hg;have Qs:sg.s<sg.e:=by rw[ox]at k2;have:=sP.2 fe;omega
 obtain rfl:=k0 Qs;have K1:∀j,(hj:j<zs.length)->cc[sg.s+j]? =some (.af zs[j]):=λj hj=>by obtain⟨u,u1,u2⟩:=k4 j (.af zs[j]) (by rw[jf,dm hj];rfl);cases u2;exact u1
 have hH:Holds (Value.int .i64) w sg.B sg.s zs.toArray:=λj hj=>by
  have hj':j<zs.length:=by simpa using hj
  refine⟨?_,(kA.ahi (hW.obj b _ _ hgb hg) (λ_ hx=>by cases hx) Qs rfl)⟩;unfold World.cell?;simp only[k1,K1 j hj',vb];rw[getElem!_pos zs.toArray j hj];simp
 have hbl:=(hW.np b _ hg).2;refine mf (show CallsIn Fence.wide 0 P g _ w _ from(sI (n:=0)).2 (adb sg.B sg.s Au zs w hH hbl (by omega))) ?_;rintro e w' ⟨rfl,n,os,rfl⟩;have hsl:(jk zs).length=zs.length:=sz zs;have Ys:∀B,B≠sg.B->(putRow (Value.int .i64) (Sort.ahead w n) sg.B sg.s (jk zs).toArray).heap[B]? =w.heap[B]? :=λB hB=>by show(w.heap.modify sg.B _)[B]? =_;rw[w5,ay (bL hB)]
 have oC:(putRow (Value.int .i64) (Sort.ahead w n) sg.B sg.s (jk zs).toArray).heap[sg.B]? =some (.cells (putCells (Value.int .i64) sg.s (jk zs).toArray cc) t (0,0)):=by show(w.heap.modify sg.B _)[sg.B]? =_;rw[w5,ax rfl,k1];rfl
 have Ru:∀i,(putCells (Value.int .i64) sg.s (jk zs).toArray cc)[i]? =(cc[i]?).map λx=>if sg.s<=i/\i<sg.s+(jk zs).toArray.size then Value.int .i64 (jk zs).toArray[i-sg.s]! else x:=λi=>by unfold putCells;rw[Array.getElem?_mapIdx]
 rw[ox]at k2;obtain⟨r1,r2⟩:=hW.write (w':=putRow (Value.int .i64) (Sort.ahead w n) sg.B sg.s (jk zs).toArray) (cz:=(jk zs).map (Value.int .i64)) hgb hg (by show(w.heap.modify _ _).size=_;simp) rfl rfl rfl Ys k1 oC (by unfold putCells;simp)
  (λi hi=>by
    rw[Ru];have:¬(sg.s<=i/\i<sg.s+(jk zs).toArray.size):=by rw[pA,hsl];omega
    simp only[this,bG];cases cc[i]? <;>rfl)
  (by rw[ox,hsl];exact k2)
  (λi v hv=>by
    rw[jf]at hv;have hi:i<(jk zs).length:=by
     rcases Nat.lt_or_ge i (jk zs).length with h|h
     ·exact h
     ·rw[pH h]at hv;cases hv
    rw[dm hi]at hv;injection hv with hv;subst hv;refine⟨_,?_,.int _ _⟩;rw[Ru,K1 i (by omega)];have:sg.s<=sg.s+i/\sg.s+i<sg.s+(jk zs).toArray.size:=by rw[pA];omega
    simp only[this,mp,bk,cD,wG];rw[getElem!_pos (jk zs).toArray i (by simpa using hi)];simp)
 obtain⟨q1,q2⟩:=r1.TH os;exact⟨_,rfl,σ,.tuple' (.nil),q1,r2.trans q2⟩
end
end Go.Eng
namespace Go.Eng
open Go
section
variable [ak]
section
variable {P:ah} {W:AW} {α:Type}
def ka(n:Int):List ae:=[.af n]
def ss(n:Int):(ka n).length=1:=rfl
def uZ(n:Int):(ka n).all one=true:=rfl
def UB(n:Int)(pre post:List ae):BG .i64 (pre++(ka n++post)) pre.length n:=by unfold BG;rw[ig (by omega)];simp[ka]
def AU:∀l:List Int,l.flatMap ka=l.map (Value.int .i64)
 |[]=>rfl
 |a::l=>by rw[hO,i6,AU l];rfl
def ns.ints{lo:Nat}{v:ae}{l:List Int}(h:ns lo W 1 ka v l):oZ W v l:=h.row ss UB
def ns.sort{lo:Nat}{v:ae}{l:List Int}(h:ns lo W 1 ka v l)(h0:l≠[])(hl:l.length<1099511627776):∃W',lj W [v] W'/\ns lo W' 1 ka v (jk l)/\W'.next=W.next/\∀A,Le A W->A.next<=lo->Le A W':=by
 rcases h with⟨rfl,_⟩|⟨_,B,h1,h2,rfl,h4⟩
 ·exact absurd rfl h0
 ·refine⟨_,⟨B,_,l,h0,hl,rfl,by rw[h4,AU],rfl⟩,.inr ⟨?_,B,h1,by rw[AW.cG];exact h2,by rw[sz],by rw[AW.bE,AU]⟩,AW.cG _ _ _,λA hA yd=>hA.put (by omega) _⟩;intro e;have:=sz l;rw[e]at this;exact h0 (jz.1 this.symm)
def UC{W':AW}{z:Nat}{at_:List ae->Nat->α->Prop}{v:ae}{k:aN}{e:Int}{l:List α}(bi:Le W W')(h:Row W' z at_ v l):∃W2,gc W (.tuple #[v,.int k e],W')=(.tuple #[v,.int k e],W2)/\Le W W2/\Le W2 W'/\Row W2 z at_ v l:=by
 obtain⟨a,c,rfl,h⟩:=h;cases a with
 |none=>
  refine⟨W,rf rfl bi,.refl _,bi,none,c,rfl,?_⟩;rcases h with h|⟨b,o,cs,h,_⟩
  ·exact .inl h
  ·cases h
 |some a=>exact⟨W',uB rfl,bi,.refl _,some a,c,rfl,h⟩
def vG{o t:Option (ae×AW)}{z:Nat}{at_:List ae->Nat->α->Prop}{l:List α}{k:aN}{e:Int}(h:Ok t λr=>∃v,r.1=.tuple #[v,.int k e]/\Le W r.2/\Row r.2 z at_ v l)(OT:∀{r},t=some r->o=some (gc W r)):
 ∃v W2,o=some (.tuple #[v,.int k e],W2)/\Le W W2/\Row W2 z at_ v l:=by
 obtain⟨⟨u,W'⟩,h1,v,h2,h3,h4⟩:=h;simp only at h2 h3 h4;subst h2;obtain⟨W2,k1,k2,_,k3⟩:=UC (k:=k) (e:=e) h3 h4;exact⟨v,W2,by rw[OT h1,k1],k2,k3⟩
def Row.nil{z:Nat}{at_:List ae->Nat->α->Prop}:Row W z at_ (.slice none 0 0) ([]:List α):=⟨none,0,rfl,.inl rfl⟩
def Rj{ts:Array ai}{z bytes:Nat}(hk:lS P ts z bytes=true){a:Option aP}{l c:Nat}(h:l<=c)(hb:l<1099511627776)(iu:(2*l+192)*bytes<=281474976710656):
 aO P W ts (.slice a l c) (.slice none 0 0)=some (.slice a l c,W):=by
 obtain⟨t,e,zv,k1,k2,k3,k4,k5,k6⟩:=km hk;unfold aO;simp only[k1,k2,k3,k4,bk,ce,ax (aM k5 (aM k6 (aM hb iu))),ax h]
def KU{ts:Array ai}{z bytes:Nat}(hk:lS P ts z bytes=true){b o n c:Nat}{cs new:List ae}(hc:aI W b=some cs)(hn:new=(cs.drop o).take (n*z))(hl:new.length=n*z)(h0:0<n)(h1:new.all one=true)
 {B m:Nat}{qM:List ae}(ho:aI W B=some qM)(OX:qM.length=m*z)(hb:m+n<1099511627776)(iu:(2*(m+n)+192)*bytes<=281474976710656)(hm:0<m):
 aO P W ts (.slice (some ⟨B,0,none⟩) m m) (.slice (some ⟨b,o,none⟩) n c)=some (.slice (some ⟨W.next,0,none⟩) (m+n) (ge+z),W.add (.cells (qM++new))):=by
 obtain⟨t,e,zv,k1,k2,k3,k4,k5,k6⟩:=km hk;have hr:kg W b o (n*z)=some new:=by rw[gG,hc];simp only;rw[ax (by rw[<-hn];exact hl),hn]
 have VF:bW W (.slice (some ⟨b,o,none⟩) n c) (n*z)=some new:=by unfold bW;simp only;rw[ay (by have:=kF h0 k5;omega),bZ];exact hr
 have nS:kg W B 0 (m*z)=some qM:=by rw[gG,ho];simp only[jy];rw[oc (by omega),ax OX]
 have S4:bW W (.slice (some ⟨B,0,none⟩) m m) (m*z)=some qM:=by unfold bW;simp only;rw[ay (by have:=kF hm k5;omega),bZ];exact nS
 have hB:m<ge:=by unfold ge;omega
 have Lc:¬m=ge+z:=by unfold ge;omega
 unfold aO;simp only[k1,k2,k3,k4,bk,ax (aM k5 (aM k6 (aM hb iu))),ay (show¬n=0 by omega),VF,S4,h1,ay Lc,ax hB,ay (show¬m+n<=m by omega),AW.dj]
def wB(l:List Int)(c:Nat)(W:AW):oZ (W.add (.cells (l.map (Value.int .i64)))) (.slice (some ⟨W.next,0,none⟩) l.length c) l:=
 ⟨_,_,rfl,.inr ⟨W.next,0,_,rfl,by rw[AW.aL];omega,bp,λi hi=>by unfold BG;rw[aK,jR,jf,dm hi];rfl⟩⟩
end
end
section
variable [ak]
def oa(l:List (Int×ae×Nat)):List MapEntry:=l.map λp=>{key:=.af p.1,val:=p.2.1,born:=p.2.2}
def Db:List (Int×ae×Nat)->Int->Option ae
 |[],_=>none
 |p::l,k=>if k=p.1 then some p.2.1 else Db l k
def tw:List (Int×ae×Nat)->Int->Nat->Option (Nat×ae)
 |[],_,_=>none
 |p::l,k,i=>if k=p.1 then some (i,p.2.1)else tw l k (i+1)
def Eu(l:List (Int×ae×Nat))(k:Int):∀i,Instr.findNow (.int .i64) (.af k) (oa l) i=some (tw l k i):=by
 induction l with
 |nil=>intro i;rfl
 |cons p l ih=>
  intro i;show(match Instr.sameNow (.int .i64) (.af k) (.af p.1)with|some true=>some (some (i,p.2.1))|some false=>Instr.findNow (.int .i64) (.af k) (oa l) (i+1)|none=>none)=_;unfold tw;by_cases h:k=p.1
  ·have:Instr.sameNow (.int .i64) (.af k) (.af p.1)=some true:=by simp[Instr.sameNow,h]
   rw[this,ax h]
  ·have:Instr.sameNow (.int .i64) (.af k) (.af p.1)=some false:=by simp[Instr.sameNow,h]
   rw[this,ay h];exact ih (i+1)
def zN(l:List (Int×ae×Nat))(k:Int):∀i,Db l k=(tw l k i).map (·.2):=by
 induction l with
 |nil=>intro i;rfl
 |cons p l ih=>
  intro i;unfold Db tw;by_cases h:k=p.1
  ·rw[ax h,ax h];rfl
  ·rw[ay h,ay h];exact ih (i+1)
def kj(l:List (Int×ae×Nat)):List Int:=l.map (·.1)
def HN{l:List (Int×ae×Nat)}{k:Int}(h:k∉kj l):Db l k=none:=by
 induction l with
 |nil=>rfl
 |cons p l ih=>unfold kj at h;rw[i6,df,not_or]at h;unfold Db;rw[ay h.1];exact ih h.2
def xv{k:Int}{v:ae}:∀{l:List (Int×ae×Nat)} {i j:Nat},(kj l).Nodup->tw l k i=some (j,v)->i<=j/\(∃b,l[j-i]? =some (k,v,b)/\∀v' k',Db (l.set (j-i) (k,v',b)) k'=if k'=k then some v' else Db l k')/\
 (∀k',Db (l.eraseIdx (j-i)) k'=if k'=k then none else Db l k')/\(kj (l.eraseIdx (j-i))).Nodup/\(l.eraseIdx (j-i)).length+1=l.length/\∀v' b,kj (l.set (j-i) (k,v',b))=kj l
 |[],i,j,_,h=>by cases h
 |p::l,i,j,hn,h=>by
  unfold tw at h;have Lu:p.1∉kj l/\(kj l).Nodup:=List.nodup_cons.1 hn;by_cases hk:k=p.1
  ·rw[ax hk]at h;injection h with h;injection h with h1 h2;subst h1;rw[Nat.sub_self];refine⟨aS _,⟨p.2.2,by rw[hk,<-h2];rfl,λv' k'=>?_⟩,λk'=>?_,Lu.2,rfl,λv' b=>by rw[E0];simp[kj,hk]⟩
   ·rw[E0];unfold Db;rw[<-hk];by_cases EB:k'=k
    ·rw[ax EB,ax EB]
    ·rw[ay EB,ay EB,ay EB]
   ·show Db l k'=_;by_cases EB:k'=k
    ·rw[ax EB,EB,hk];exact HN Lu.1
    ·rw[ay EB];conv=>rhs;unfold Db
     rw[ay (λe=>EB (e.trans hk.symm))]
  ·rw[ay hk]at h;obtain⟨h1,⟨b,h2,h3⟩,h4,h5,h6,h7⟩:=xv Lu.2 h;have e:j-i=(j-(i+1))+1:=by omega
   rw[e];refine⟨by omega,⟨b,by rw[BV];exact h2,λv' k'=>?_⟩,λk'=>?_,?_,?_,λv' b=>?_⟩
   ·rw[z8];unfold Db;by_cases hp:k'=p.1
    ·have:¬k'=k:=λx=>hk (x.symm.trans hp)
     rw[ax hp,ay this,ax hp]
    ·rw[ay hp,h3,ay hp]
   ·rw[wF];unfold Db;by_cases hp:k'=p.1
    ·have:¬k'=k:=λx=>hk (x.symm.trans hp)
     rw[ax hp,ay this,ax hp]
    ·rw[ay hp,h4,ay hp]
   ·rw[wF];refine List.nodup_cons.2 ⟨λhm=>Lu.1 ?_,h5⟩;unfold kj at hm|-;obtain⟨x,hx,Va⟩:=mC.1 hm;exact mC.2 ⟨x,List.mem_of_mem_eraseIdx hx,Va⟩
   ·rw[wF,dG,dG,h6]
   ·rw[z8];show p.1::kj _=p.1::kj l;rw[h7]
def xB{k:Int}:∀{l:List (Int×ae×Nat)} {i:Nat},tw l k i=none->k∉kj l/\∀v b k',Db (l++[(k,v,b)]) k'=if k'=k then some v else Db l k'
 |[],i,_=>⟨by simp[kj],λv b k'=>by simp[Db]⟩
 |p::l,i,h=>by
  unfold tw at h;by_cases hk:k=p.1
  ·rw[ax hk]at h;cases h
  ·rw[ay hk]at h;obtain⟨h1,h2⟩:=xB h;refine⟨?_,λv b k'=>?_⟩
   ·unfold kj;rw[i6,df,not_or];exact⟨hk,h1⟩
   ·rw[oy];unfold Db;by_cases hp:k'=p.1
    ·have:¬k'=k:=λx=>hk (x.symm.trans hp)
     rw[ax hp,ay this,ax hp]
    ·rw[ay hp,h2,ay hp]
def FN{α β:Type}(f:α->β):∀(l:List α) (i:Nat),(l.map f).eraseIdx i=(l.eraseIdx i).map f
 |[],_=>by simp
 |a::l,0=>rfl
 |a::l,i+1=>by rw[i6,wF,wF,i6,FN f l i]
def o8(W:AW)(r:Nat)(m:Int->Option ae)(n:Nat):Prop:=∃l c,W.get r=some (.map (oa l) c)/\(kj l).Nodup/\l.length=n/\∀k,Db l k=m k
section
variable {P:ah} {W:AW} {r:Nat} {m:Int->Option ae} {n:Nat} {t kt e:ai}
def Kf(l:List (Int×ae×Nat)):fU (oa l)=true:=by unfold fU oa;rw[List.all_map,cr];intro p _;rfl
def pg(hk:P.underlying kt=some (.int .i64))(empty:Bool)(k:Int):sd P empty kt (.af k)=true:=by
 unfold sd;have:cd P (Instr.checkKey empty 10000 kt (.af k))=some ():=by unfold Instr.checkKey;simp only[eL,eU hk,bq];rfl
 rw[this];rfl
def ms(hk:P.underlying kt=some (.int .i64))(l:List (Int×ae×Nat))(k:Int):uq P kt (.af k) (oa l)=some (tw l k 0):=by unfold uq Po;have hp:bI (.af k)=true/\fU (oa l)=true:=⟨rfl,Kf l⟩;simp only[ax hp,hk,Eu]
def Pz(h:o8 W r m n)(ht:P.underlying t=some (.map kt e))(hk:P.underlying kt=some (.int .i64)){z:ae}(hz:jK P e=some z)(k:Int):gS P t (.map (some r)) (.af k) false W=some ((m k).getD z,W):=by
 obtain⟨l,c,hg,hn,hl,hm⟩:=h;unfold gS kR;simp only[ht,hg,pg hk,bk,ms hk];rw[<-hm k,zN l k 0];unfold tW;cases tw l k 0 with
 |none=>simp only[hz];rfl
 |some q=>rfl
def NK(h:o8 W r m n)(ht:P.underlying t=some (.map kt e))(hk:P.underlying kt=some (.int .i64)){z:ae}(hz:jK P e=some z)(k:Int):gS P t (.map (some r)) (.af k) true W=some (.tuple #[(m k).getD z,.bool (m k).isSome],W):=by
 obtain⟨l,c,hg,hn,hl,hm⟩:=h;unfold gS kR;simp only[ht,hg,pg hk,bk,ms hk];rw[<-hm k,zN l k 0];unfold tW;cases tw l k 0 with
 |none=>simp only[hz];rfl
 |some q=>rfl
def FQ(h:o8 W r m n)(ht:P.underlying t=some (.map kt e))(hk:P.underlying kt=some (.int .i64))(k:Int)(v:ae):∃es c,g8 P t (.map (some r)) (.af k) v W=some (ag,W.put r (.map es c))/\o8 (W.put r (.map es c)) r (λx=>if x=k then some v else m x) (if(m k).isSome then n else n+1):=by
 obtain⟨l,c,hg,hn,hl,hm⟩:=h;have Ul:m k=(tw l k 0).map (·.2):=by rw[<-hm k,zN l k 0]
 cases hf:tw l k 0 with
 |none=>
  obtain⟨h1,h2⟩:=xB hf;rw[hf]at Ul;refine⟨oa (l++[(k,v,c)]),c+1,?_,l++[(k,v,c)],c+1,AW.bE _ _ _,?_,?_,λx=>by rw[h2,hm]⟩
  ·unfold g8 jh;simp only[ht,hg,pg hk,bk,ms hk,hf,cD];unfold oa;rw[pL];rfl
  ·unfold kj at h1 hn|-;rw[pL,List.nodup_append];refine⟨hn,by simp,λa ha b hb UY=>?_⟩;simp only[i6,mY,List.mem_singleton]at hb;subst hb;subst UY;exact h1 ha
  ·rw[Ul];simp[hl]
 |some q=>
  obtain⟨j,v0⟩:=q;obtain⟨_,⟨b,h2,h3⟩,-,-,-,h7⟩:=xv hn hf;rw[Nat.sub_zero]at h2 h3 h7;rw[hf]at Ul;refine⟨oa (l.set j (k,v,b)),c,?_,l.set j (k,v,b),c,AW.bE _ _ _,by rw[h7];exact hn,by rw[Ul];simp[hl],λx=>by rw[h3,hm]⟩;have he:(oa l)[j]? =some {key:=.af k,val:=v0,born:=b}:=by unfold oa;rw[jf,h2];rfl
  have hs:Instr.sameBits 10000 (.af k) (.af k)=true:=by unfold Instr.sameBits;simp
  have mq:bI (.af k)=true:=rfl;unfold g8 jh;simp only[ht,hg,pg hk,bk,ms hk,hf,cD,he,hs,mq,mp];unfold oa;rw[List.map_set]
def G9(h:o8 W r m n)(ht:P.underlying t=some (.map kt e))(hk:P.underlying kt=some (.int .i64))(ts:List ai)(k:Int):∃es c,mb P W (t::ts).toArray (.map (some r)) (.af k)=some (W.put r (.map es c))/\o8 (W.put r (.map es c)) r (λx=>if x=k then none else m x) (if(m k).isSome then n-1 else n):=by
 obtain⟨l,c,hg,hn,hl,hm⟩:=h;have Ul:m k=(tw l k 0).map (·.2):=by rw[<-hm k,zN l k 0]
 cases hf:tw l k 0 with
 |none=>
  obtain⟨h1,-⟩:=xB hf;rw[hf]at Ul;refine⟨oa l,c,?_,l,c,AW.bE _ _ _,hn,by rw[Ul];simp[hl],λx=>?_⟩
  ·unfold mb;simp only[ht,hg,pg hk,bk,ms hk,hf]
  ·show Db l x=if x=k then none else m x
   by_cases hx:x=k
   ·rw[ax hx,hx,HN h1]
   ·rw[ay hx,hm]
 |some q=>obtain⟨j,v0⟩:=q;obtain⟨_,-,h4,h5,h6,-⟩:=xv hn hf;rw[Nat.sub_zero]at h4 h5 h6;rw[hf]at Ul;refine⟨oa (l.eraseIdx j),c,?_,l.eraseIdx j,c,AW.bE _ _ _,h5,by rw[Ul];simp;omega,λx=>by rw[h4,hm]⟩;unfold mb;simp only[ht,hg,pg hk,bk,ms hk,hf];unfold oa;rw[FN]
def Ht:o8 (W.add (.map [] 0)) W.next (λ_=>none) 0:=⟨[],0,AW.a8 _ _,by simp[kj],rfl,λk=>rfl⟩
def o8.dK{W':AW}(h:o8 W r m n)(hg:W'.get r=W.get r):o8 W' r m n:=by obtain⟨l,c,h1,h2⟩:=h;exact⟨l,c,hg.trans h1,h2⟩
end
end
end Go.Eng
namespace Go.Proofs.YtekljimefjclgaaGreatDoor
open Go Go.Eng
def I5:List Int:=[0,1,7,27,7,7,99,67,7,64,11,11,128]
def pp:List ae:=I5.map (Value.int .i64)
def upF(n:Nat):Nat->List Nat:=Nat.rec (motive:=λ_=>Nat->List Nat) (λ_=>[]) (λ_ ih s=>s::ih (s+1)) n
def ais(l:List (Nat×Nat)):List Nat:=List.rec (motive:=λ_=>List Nat) [] (λp _ ih=>List.rec (motive:=λ_=>List Nat) ih (λa _ r=>a::r) (upF p.2 p.1)) l
def lkF(i:Nat)(l:List (Nat×List Nat)):List Nat:=List.rec (motive:=λ_=>List Nat) [] (λp _ ih=>Bool.rec (motive:=λ_=>List Nat) ih p.2 (Nat.beq p.1 i)) l
def zF(x:List (Nat×List Nat))(o:List Nat):List (Nat×List Nat):=List.rec (motive:=λ_=>List (Nat×List Nat)) [] (λi _ r=>(i,lkF i x)::r) o
abbrev TB:=T (List (Nat×List Nat))
def tV(k n:Nat)(l:List (Nat×Nat))(x:List (Nat×List Nat))(t:TB):TB:=T.set (some (zF x (List.rec (motive:=λ_=>List Nat) (upF n 0) (λ_ _ _=>ais l) l))) (path k) t
def tab:TB:=tV 557174 0 [(0,2),(3,1),(2,1),(4,4)] [(2,[3])]<|
 tV 557180 0 [(0,2),(3,1),(2,1),(4,4)] [(2,[3])]<|
 tV 577608 0 [(0,2),(3,2),(7,3),(2,1),(5,2),(10,3)] [(2,[9,4]),(5,[9])]<|
 tV 1106137 14 [] [(10,[7])]<|
 tV 1159430 0 [(0,20),(24,1),(20,4),(25,2)] []<|
 tV 1609972 9 [] [(7,[4])]<|
 tV 1700185 31 [] [(24,[16,13,10,4]),(25,[4])]<|
 tV 2130136 0 [(0,3),(4,2),(3,1),(6,2)] []<|
 tV 2142405 0 [(0,5),(6,2),(5,1),(8,3)] [(5,[7,6])]<|
 tV 2150610 0 [(0,6),(10,1),(6,4),(11,2)] []<|
 tV 2674842 13 [] [(9,[1])]<|
 tV 3162136 4 [] [(2,[1])]<|
 tV 3191050 0 [(0,2),(3,4),(2,1),(7,4)] [(2,[4])]<|
 tV 3195177 0 [(0,2),(3,5),(2,1),(8,4)] [(2,[5])]<|
 tV 3203465 14 [] [(12,[9,6])]<|
 tV 3207553 0 [(0,8),(12,1),(8,4),(13,2)] []<|
 tV 3699014 0 [(0,1),(2,2),(1,1),(4,3)] [(1,[2])]<|
 tV 4227420 0 [(1,2),(4,1),(6,1),(0,1),(3,1),(5,1),(7,1)] [(0,[2])]<|
 tV 4805028 0 [(0,11),(16,2),(11,5),(18,3)] []<|
 tV 5263427 5 [] [(2,[1])]<|
 tV 5292226 12 [] [(7,[5,3]),(9,[5])]<|
 tV 5800390 8 [] [(5,[4])]<|
 tV 6311989 5 [] [(2,[1])]<|
 tV 6357288 16 [] [(9,[7,5,3]),(11,[7,5]),(13,[7])]<|
 tV 6357448 0 [(0,3),(4,9),(3,1),(13,3)] [(3,[9,7,5])]<|
 tV 7405976 16 [] [(9,[7,5,3]),(11,[7,5]),(13,[7])]<|
 tV 7463625 30 [] [(24,[4])]<|
 tV 8438266 12 [] [(7,[5,3]),(9,[5])]<|
 tV 8491684 25 [] [(19,[4,0])]<|
 tV 11059842 12 [] [(7,[5,3]),(9,[5])]<|
 tV 17372640 17 [] [(13,[10,7,5])]<|.lf
def jF:List (Nat×List ae):=[(0,pp)]
end Go.Proofs.YtekljimefjclgaaGreatDoor
namespace Go.Eng
open Go
section
variable [ak]
section
variable {P:ah} {W:AW}
def Jn{t:ai}{z:Nat}(hz:AA P t=some z)(h0:0<z){b o l h:Nat}{k:aN}(h1:h<=l):
 gh P t (.slice (some ⟨b,o,none⟩) l (ge+z)) none (some (.int k (h:Int))) none W=some (.slice (some ⟨b,o,none⟩) h (ge+z),W):=by
 obtain⟨e,he,hz⟩:=BK hz;have h2:((⟨b,o,none⟩:aP).add (0*z))=⟨b,o,none⟩:=by rw[dy];simp
 unfold gh mD;simp only[he,hz,gj,lh,Nat.zero_le,bk,true_and,ax h0,ax h1,Nat.sub_zero,h2]
end
end
section
variable [ak]
def Yu(W:AW)(cs:List ae)(b:Nat):aI (W.add (.cells cs)) b=if b=W.next then some cs else aI W b:=by
 by_cases h:b=W.next
 ·subst h;rw[ax rfl];exact bp
 ·rw[ay h];unfold aI;rw[W.bC _ (λe=>h e.symm)]
def Yr(W:AW)(c:Nat)(cs:List ae)(b:Nat):aI (W.put c (.cells cs)) b=if b=c then some cs else aI W b:=by
 by_cases h:b=c
 ·subst h;rw[ax rfl];exact nW _
 ·rw[ay h];exact rz _ (λe=>h e.symm)
def Xm(W:AW)(cs:List ae)(b:Nat):aF (W.add (.cells cs)) b=if b=W.next then some cs else aF W b:=by
 by_cases h:b=W.next
 ·subst h;rw[ax rfl];exact bQ
 ·rw[ay h];unfold aF;rw[W.bC _ (λe=>h e.symm)]
def YB(W:AW)(c:Nat)(cs:List ae)(b:Nat):aF (W.put c (.cells cs)) b=if b=c then some cs else aF W b:=by
 by_cases h:b=c
 ·subst h;rw[ax rfl];exact br _
 ·rw[ay h];exact be _ (λe=>h e.symm)
def Ot(W:AW):Le W W=True:=eq_true (Le.refl W)
def P2{W W':AW}(h:Le W W')(o:dO):Le W (W'.add o)=True:=eq_true (h.add o)
def SR{W W':AW}(h:Le W W'){b:Nat}(hb:W.next<=b)(o:dO):Le W (W'.put b o)=True:=eq_true (h.put hb o)
def Tw(a:Option aP):one (.pointer a)=true:=aH rfl rfl
def UZ{W:AW}{b o:Nat}{x:Option aP}:bU 1 (.pointer (some ⟨b,o,none⟩)) (.pointer x) W=(aF W b).bind λcs=>if o<cs.length then some (ag,W.put b (.cells (cs.set o (.pointer x))))else none:=ip rfl rfl
def MS(cs vs:List ae):fN cs 0 vs=vs++cs.drop vs.length:=by unfold fN;rw[rY,lu,aK]
def adW(b:Bool):aZ ag b=false:=aH (by unfold aZ ag;rfl) rfl
def HX:=aM @Yu (aM @Yr (aM @Xm (aM @YB (aM @Ot (aM @P2 (aM @SR (aM @Tw (aM @UZ (aM @AW.aL (aM @AW.cG (aM @lH (aM @Nat.le_add_right (aM @aS (aM @Nat.add_eq_left (aM @Nat.left_eq_add (aM @MS (aM @iR (aM @bG.{1} (aM @Nat.one_ne_zero (aM @jB (aM @List.take_nil.{0} (aM @true_and (aM @and_true (aM @adW @am))))))))))))))))))))))))
end
section
variable [ak]
section
variable {P:ah} {W:AW} {α:Type}
def Mx{ts:Array ai}{z bytes:Nat}(hk:lS P ts z bytes=true){b o n c:Nat}{cs new:List ae}(hc:aI W b=some cs)(hn:new=(cs.drop o).take (n*z))(hl:new.length=n*z)(h0:0<n)(h1:new.all Eng.one=true)
 {a:aP}(hb:n<1099511627776)(iu:(2*n+192)*bytes<=281474976710656):
 aO P W ts (.slice (some a) 0 0) (.slice (some ⟨b,o,none⟩) n c)=some (.slice (some ⟨W.next,0,none⟩) n (ge+z),W.add (.cells new)):=by
 obtain⟨t,e,zv,k1,k2,k3,k4,k5,k6⟩:=km hk;have hr:kg W b o (n*z)=some new:=by rw[gG,hc];simp only;rw[ax (by rw[<-hn];exact hl),hn]
 have VF:bW W (.slice (some ⟨b,o,none⟩) n c) (n*z)=some new:=by unfold bW;simp only;rw[ay (by have:=kF h0 k5;omega),bZ];exact hr
 have S4:bW W (.slice (some a) 0 0) (0*z)=some []:=by unfold bW;simp
 have hB:0<ge:=by unfold ge;omega
 have Lc:¬0=ge+z:=by unfold ge;omega
 unfold aO;simp only[k1,k2,k3,k4,bk,aK,ax (aM k5 (aM k6 (aM hb iu))),ay (show¬n=0 by omega),VF,S4,h1,ay Lc,ax hB,ay (show¬n<=0 by omega),AW.dj,lu]
def xQ{ts:Array ai}{z bytes:Nat}(hk:lS P ts z bytes=true){a a2:Option aP}{l c c2:Nat}(h:l<=c)(hb:l<1099511627776)(iu:(2*l+192)*bytes<=281474976710656):
 aO P W ts (.slice a l c) (.slice a2 0 c2)=some (.slice a l c,W):=by
 obtain⟨t,e,zv,k1,k2,k3,k4,k5,k6⟩:=km hk;unfold aO;simp only[k1,k2,k3,k4,bk,ce,ax (aM k5 (aM k6 (aM hb iu))),ax h]
def Bk{f:α->List ae}(h1:∀a,(f a).all one=true):∀l:List α,(l.flatMap f).all one=true
 |[]=>rfl
 |a::l=>by rw[hO,List.all_append,h1 a,Bk h1 l];rfl
def EL(lo:Nat)(W:AW)(z:Nat)(f:α->List ae)(v:ae)(l:List α):Prop:=
 (l=[]/\(v=.slice none 0 0\/∃B,v=.slice (some ⟨B,0,none⟩) 0 0))\/(l≠[]/\∃B c,lo<=B/\B<W.next/\v=.slice (some ⟨B,0,none⟩) l.length c/\(c=ge+z\/c=l.length)/\W.get B=some (.cells (l.flatMap f)))
def Rd(W:AW)(z:Nat)(f:α->List ae)(v:ae)(l:List α):Prop:=
 ∃a c,v=.slice a l.length c/\(l=[]\/∃b o cs,a=some ⟨b,o,none⟩/\b<W.next/\aI W b=some cs/\(cs.drop o).take (l.length*z)=l.flatMap f)
def EL.Yk(lo:Nat)(W:AW)(z:Nat)(f:α->List ae)(B:Nat):EL lo W z f (.slice (some ⟨B,0,none⟩) 0 0) []:=.inl ⟨rfl,.inr ⟨B,rfl⟩⟩
def EL.dK{lo z:Nat}{f:α->List ae}{v:ae}{l:List α}{W':AW}(h:EL lo W z f v l)(hn:W.next<=W'.next)(hg:∀b,lo<=b->b<W.next->W'.get b=W.get b):EL lo W' z f v l:=by
 rcases h with h|⟨h0,B,c,h1,h2,h3,hc,h4⟩
 ·exact .inl h
 ·exact .inr ⟨h0,B,c,h1,by omega,h3,hc,by rw[hg B h1 h2];exact h4⟩
def ns.el{lo z:Nat}{f:α->List ae}{v:ae}{l:List α}(h:ns lo W z f v l):EL lo W z f v l:=by
 rcases h with⟨rfl,rfl⟩|⟨h0,B,h1,h2,h3,h4⟩
 ·exact .inl ⟨rfl,.inl rfl⟩
 ·exact .inr ⟨h0,B,_,h1,h2,h3,.inl rfl,h4⟩
def EL.row{lo z:Nat}{f:α->List ae}{v:ae}{l:List α}{at_:List ae->Nat->α->Prop}(hf:∀a,(f a).length=z)(h:EL lo W z f v l)(oC:∀a pre post,at_ (pre++(f a++post)) pre.length a):Row W z at_ v l:=by
 rcases h with⟨rfl,rfl|⟨B,rfl⟩⟩|⟨h0,B,c,i1,i2,rfl,hc,i4⟩
 ·exact⟨none,0,rfl,.inl rfl⟩
 ·exact⟨_,0,rfl,.inl rfl⟩
 ·refine⟨_,_,rfl,.inr ⟨B,0,_,rfl,i2,bm i4,λi hi=>?_⟩⟩;have e:l.flatMap f=(l.take i).flatMap f++(f l[i]++(l.drop (i+1)).flatMap f):=by rw[<-hO,<-rC hi,<-jO,xx]
  have e2:((l.take i).flatMap f).length=0+i*z:=by rw[cw hf,fT];rw[nO (by omega),aK]
  rw[e,<-e2];exact oC _ _ _
def EL.rd{lo z:Nat}{f:α->List ae}{v:ae}{l:List α}(hf:∀a,(f a).length=z)(h:EL lo W z f v l):Rd W z f v l:=by
 rcases h with⟨rfl,rfl|⟨B,rfl⟩⟩|⟨h0,B,c,i1,i2,rfl,hc,i4⟩
 ·exact⟨none,0,rfl,.inl rfl⟩
 ·exact⟨_,0,rfl,.inl rfl⟩
 ·exact⟨_,_,rfl,.inr ⟨B,0,_,rfl,i2,bm i4,by rw[jy,<-cw hf l,dN]⟩⟩
def Rd.dK{z:Nat}{f:α->List ae}{v:ae}{l:List α}{W':AW}(h:Rd W z f v l)(bi:Le W W'):Rd W' z f v l:=by
 obtain⟨a,c,rfl,h⟩:=h;refine⟨a,c,rfl,?_⟩;rcases h with h|⟨b,o,cs,h1,h2,h3,h4⟩
 ·exact .inl h
 ·exact .inr ⟨b,o,cs,h1,fg h2 bi.next,by unfold aI at h3|-;rw[bi.get b h2];exact h3,h4⟩
section
variable {t:ai} {z lo:Nat} {f:α->List ae} {v:ae} {l:List α} {kk:aN} {k:Nat}
def MZ(hf:∀a,(f a).length=z)(l:List α)(k:Nat):(l.flatMap f).drop (k*z)=(l.drop k).flatMap f:=by
 rcases Nat.lt_or_ge l.length k with h|h
 ·rw[zV (by rw[cw hf];exact ut z (by omega)),zV (by omega)];rfl
 ·have e:l.flatMap f=(l.take k).flatMap f++(l.drop k).flatMap f:=by rw[<-jO,xx]
  have e2:((l.take k).flatMap f).length=k*z:=by rw[cw hf,fT,nO h]
  rw[e,<-e2,vn]
def EL.app{ts:Array ai}{bytes:Nat}{v2:ae}{l2:List α}(hk:lS P ts z bytes=true)(hf:∀a,(f a).length=z)(h1:∀a,(f a).all one=true)
 (h:EL lo W z f v l)(h2:Rd W z f v2 l2)(hb:l.length+l2.length<1099511627776)(iu:(2*(l.length+l2.length)+192)*bytes<=281474976710656)(yd:lo<=W.next):
 ∃v' W',aO P W ts v v2=some (v',W')/\EL lo W' z f v' (l++l2)/\W.next<=W'.next/\∀b,b<lo->W'.get b=W.get b:=by
 have Nr:0<z:=by obtain⟨t,e,zv,_,_,_,_,k5,_⟩:=km hk;exact k5
 obtain⟨a,c,rfl,h2⟩:=h2;by_cases he:l2=[]
 ·subst he;rw[iD];have Yd:(2*l.length+192)*bytes<=281474976710656:=by simpa using iu
  rcases h with⟨rfl,rfl|⟨B,rfl⟩⟩|⟨PO,B,c',i1,i2,rfl,hc,i4⟩
  ·exact⟨_,_,xQ hk (aS _) (by simp at hb;omega) (by simpa using Yd),.inl ⟨rfl,.inl rfl⟩,aS _,λ_ _=>rfl⟩
  ·exact⟨_,_,xQ hk (aS _) (by simp at hb;omega) (by simpa using Yd),.inl ⟨rfl,.inr ⟨B,rfl⟩⟩,aS _,λ_ _=>rfl⟩
  ·exact⟨_,_,xQ hk (by rcases hc with rfl|rfl<;>(try unfold ge)<;>omega) (by omega) Yd,.inr ⟨PO,B,c',i1,i2,rfl,hc,i4⟩,aS _,λ_ _=>rfl⟩
 ·rcases h2 with h2|⟨b,o,cs,rfl,j1,j2,j3⟩
  ·exact absurd h2 he
  have K0:0<l2.length:=sP.2 he;have If:(l2.flatMap f).length=l2.length*z:=cw hf l2;have ha:=Bk h1 l2;rcases h with⟨rfl,rfl|⟨B,rfl⟩⟩|⟨PO,B,c',i1,i2,rfl,hc,i4⟩
  ·refine⟨_,_,zR hk j2 j3.symm If K0 ha (by simp at hb;omega) (by simpa using iu),.inr ⟨by simpa using he,W.next,_,yd,by rw[AW.aL];omega,by simp,.inl rfl,by rw[AW.a8];simp⟩,by rw[AW.aL];omega,λb hb=>AW.bC _ _ (by omega)⟩
  ·refine⟨_,_,Mx hk j2 j3.symm If K0 ha (by simp at hb;omega) (by simpa using iu),.inr ⟨by simpa using he,W.next,_,yd,by rw[AW.aL];omega,by simp,.inl rfl,by rw[AW.a8];simp⟩,by rw[AW.aL];omega,λb hb=>AW.bC _ _ (by omega)⟩
  ·have xq:0<l.length:=sP.2 PO;rcases hc with rfl|rfl
   ·refine⟨_,_,I9 hk j2 j3.symm If K0 ha i4 (cw hf l) hb iu xq,.inr ⟨by simp[PO],W.next,_,yd,by rw[AW.aL,AW.dX];omega,by rw[cm],.inl rfl,?_⟩,by rw[AW.aL,AW.dX];omega,λb hb=>?_⟩
    ·have:=(W.kill B).a8 (.cells (l.flatMap f++l2.flatMap f));rw[AW.dX]at this;rw[this,jO]
    ·rw[AW.bC _ _ (by rw[AW.dX];omega),AW.dL _ (by omega)]
   ·refine⟨_,_,KU hk j2 j3.symm If K0 ha (bm i4) (cw hf l) hb iu xq,.inr ⟨by simp[PO],W.next,_,yd,by rw[AW.aL];omega,by rw[cm],.inl rfl,by rw[AW.a8,jO]⟩,by rw[AW.aL];omega,λb hb=>AW.bC _ _ (by omega)⟩
end
end
def uy{α:Type}(W:AW)(z:Nat)(f:α->List ae)(v:ae)(l:List α)(bo:Option Nat):Prop:=
 (l=[]/\v=.slice none 0 0/\bo=none)\/(l≠[]/\∃B,bo=some B/\B<W.next/\v=.slice (some ⟨B,0,none⟩) l.length (ge+z)/\W.get B=some (.cells (l.flatMap f)))
def uy.ZX{α:Type}{W:AW}{z:Nat}{f:α->List ae}{v:ae}{l:List α}{bo:Option Nat}(h:uy W z f v l bo):ns 0 W z f v l:=by
 rcases h with⟨h1,h2,-⟩|⟨h0,B,-,h2,h3,h4⟩
 ·exact .inl ⟨h1,h2⟩
 ·exact .inr ⟨h0,B,Nat.zero_le _,h2,h3,h4⟩
def uy.dK{α:Type}{W W':AW}{z:Nat}{f:α->List ae}{v:ae}{l:List α}{bo:Option Nat}(h:uy W z f v l bo)(hn:W.next<=W'.next)(hg:∀B,bo=some B->W'.get B=W.get B):uy W' z f v l bo:=by
 rcases h with h|⟨h0,B,h1,h2,h3,h4⟩
 ·exact .inl h
 ·exact .inr ⟨h0,B,h1,by omega,h3,(hg B h1).trans h4⟩
def uy.lt{α:Type}{W:AW}{z:Nat}{f:α->List ae}{v:ae}{l:List α}{bo:Option Nat}(h:uy W z f v l bo){B:Nat}(hB:bo=some B):B<W.next:=by
 rcases h with⟨-,-,h⟩|⟨h0,B',h1,h2,-⟩
 ·rw[h]at hB;cases hB
 ·rw[h1]at hB;injection hB with hB;omega
def uy.push{α:Type}{P:ah}{W:AW}{ts:Array ai}{z bytes:Nat}{f:α->List ae}{v:ae}{l:List α}{bo:Option Nat}{a:α}(hk:lS P ts z bytes=true)(hf:∀a,(f a).length=z)(h1:∀a,(f a).all one=true)
 (h:uy W z f v l bo){b c:Nat}(hc:aI W b=some (f a))(hb:l.length+1<1099511627776)(iu:(2*(l.length+1)+192)*bytes<=281474976710656):
 ∃v' W',aO P W ts v (.slice (some ⟨b,0,none⟩) 1 c)=some (v',W')/\uy W' z f v' (l++[a]) (some W.next)/\W'.next=W.next+1/\∀b,b<W.next->bo≠some b->W'.get b=W.get b:=by
 have hn:f a=((f a).drop 0).take (1*z):=by rw[jy,Nat.one_mul,<-hf a,dN]
 have hl:(f a).length=1*z:=by rw[hf];omega
 rcases h with⟨rfl,rfl,rfl⟩|⟨h0,B,rfl,i2,rfl,i4⟩
 ·refine⟨_,_,zR (b:=b) (o:=0) (c:=c) hk hc hn hl (by omega) (h1 a) (by omega) (by simpa using iu),.inr ⟨by simp,W.next,rfl,by rw[AW.aL];omega,by simp,by rw[AW.a8];simp⟩,AW.aL _ _,λd hd _=>AW.bC _ _ (by omega)⟩
 ·have xq:0<l.length:=sP.2 h0;refine⟨_,_,I9 (b:=b) (o:=0) (c:=c) hk hc hn hl (by omega) (h1 a) i4 (cw hf l) (by omega) iu xq,.inr ⟨by simp,W.next,rfl,by rw[AW.aL,AW.dX];omega,by simp,?_⟩,by rw[AW.aL,AW.dX],λd hd fe=>?_⟩
  ·have:=(W.kill B).a8 (.cells (l.flatMap f++f a));rw[AW.dX]at this;rw[this,jO];simp
  ·rw[AW.bC _ _ (by rw[AW.dX];omega),AW.dL _ (λe=>fe (by rw[e]))]
section
variable {P:ah} {W:AW} {α:Type} {t:ai} {z lo:Nat} {f:α->List ae} {v:ae} {l:List α} {kk:aN} {k:Nat}
end
def Uc{W W':AW}(v:ae):gc W (v,W')=(v,W')\/(gc W (v,W')=(v,W)/\Le W W'/\bI v=true):=by
 unfold gc;split
 ·rename_i h;have:=h.1;simp only[bB]at this;exact .inr ⟨rfl,h.2,this.1⟩
 ·exact .inl rfl
def wb{o t:Option (ae×AW)}{W:AW}{Q:ae->AW->Prop}(h:Ok t λr=>Q r.1 r.2)(OT:∀{r},t=some r->o=some (gc W r))(hq:∀v W',Q v W'->Le W W'->bI v=true->Q v W):∃v W',o=some (v,W')/\Q v W':=by
 obtain⟨⟨v,W'⟩,h1,h2⟩:=h;rcases Uc (W:=W) (W':=W') v with hg|⟨hg,bi,hp⟩
 ·exact⟨v,W',by rw[OT h1,hg],h2⟩
 ·exact⟨v,W,by rw[OT h1,hg],hq v W' h2 bi hp⟩
def BO{P:ah}{W:AW}{t:ai}{x y u:ae}:aD P [(x,some t),(y,none),(u,none)] W=(iH P t x W).bind λr=>some (.tuple #[r.1,y,u],W):=by unfold aD iH;simp only[pf];cases iw P W t x<;>rfl
end
end Go.Eng
namespace Go.Eng
open Go Go.RowKit
section
variable [ak]
def Pe(P:ah)(dv:Nat):Nat->List pq->Bool
 |off,[]=>off==dv
 |off,f::fs=>f.offset==off&&Pe P dv (off+P.cellsOf f.type) fs
def QI(P:ah):Nat->ai->Bool
 |0,_=>false
 |n+1,t=>match P.underlying t with
  |some .bool=>true
  |some (.int _)=>true
  |some .string=>true
  |some (.struct fs)=>Pe P (P.cellsOf t) 0 fs.toList&&fs.toList.all λf=>QI P n f.type
  |some (.slice e)=>decide (0<P.cellsOf e)&&QI P n e
  |_=>false
def vN(g:ai->List ae->Prop):List ai->List ae->Prop
 |[],cs=>cs=[]
 |t::ts,cs=>∃c1 c2,cs=c1++c2/\g t c1/\vN g ts c2
def vN.imp{g g':ai->List ae->Prop}(h:∀t cs,g t cs->g' t cs):∀{ts:List ai} {cs:List ae},vN g ts cs->vN g' ts cs
 |[],_,hc=>hc
 |_::_,_,⟨c1,c2,e,h1,h2⟩=>⟨c1,c2,e,h _ _ h1,vN.imp h h2⟩
def DR(P:ah)(W:AW):Nat->ai->List ae->Prop
 |0,_,_=>False
 |n+1,t,cs=>match P.underlying t with
  |some .bool=>∃b,cs=[.bool b]
  |some (.int k)=>∃m,cs=[.int k m]/\k.min<=m/\m<=k.max
  |some .string=>∃s:ByteArray,cs=[.string s]/\s.size<9223372036854775808
  |some (.struct fs)=>vN (DR P W n) (fs.toList.map (·.type)) cs
  |some (.slice e)=>∃a len cap,cs=[.slice a len cap]/\len<=cap/\cap<ge/\(a=none\/∃b,a=some ⟨b,0,none⟩)/\(len=0\/∃(b:Nat) (l:List (List ae)),a=some ⟨b,0,none⟩/\b<W.next/\aI W b=some l.flatten/\l.length=len/\∀c∈l,c.length=P.cellsOf e/\DR P W n e c)
  |_=>False
def DR.mono{P:ah}{W W':AW}(bi:Le W W'):∀{n:Nat} {t:ai} {cs:List ae},DR P W n t cs->DR P W' n t cs:=by
 intro n;induction n with
 |zero=>intro t cs h;exact h.elim
 |succ n ih=>
  intro t cs h;unfold DR at h|-;split at h
  ·exact h
  ·exact h
  ·exact h
  ·exact vN.imp (λt cs h=>ih h) h
  ·obtain⟨a,len,cap,e1,e2,e3,e3',h⟩:=h;refine⟨a,len,cap,e1,e2,e3,e3',?_⟩;rcases h with h|⟨b,l,e4,e5,e6,e7,h⟩
   ·exact .inl h
   ·exact .inr ⟨b,l,e4,fg e5 bi.next,(bi.aI e5).trans e6,e7,λc hc=>⟨(h c hc).1,ih (h c hc).2⟩⟩
  ·exact h
structure kn (σ:cV) (W:AW) (w:aq):Prop where
 rel:bg σ W w.heap
 ro:DM σ W
 some_:∃b g,σ b=some g
def kn.add{σ:cV}{W:AW}{w:aq}(h:kn σ W w){B s:Nat}{cs:List ae}{c:Array ae}{t:ai}{fr:Nat×Nat}(hB:w.heap[B]? =some (.cells c t fr))
 (hc:∀(i:Nat) (v:ae),cs[i]? =some v->∃v',c[s+i]? =some v'/\VR σ v v'):
 kn (bR σ W.next ⟨B,s,s+cs.length⟩) (W.add (.ro cs)) w/\Sub σ (bR σ W.next ⟨B,s,s+cs.length⟩):=by
 have Cz:=h.rel.fresh;have hs:Sub σ (bR σ W.next ⟨B,s,s+cs.length⟩):=dh Cz;have gY:B<w.heap.size:=(dB.1 hB).1;have fe:∀{x:Nat},x≠W.next->(W.add (.ro cs)).get x=W.get x:=λhx=>W.bC _ (bL hx)
 have mE:∀x g,bR σ W.next ⟨B,s,s+cs.length⟩ x=some g->(x=W.next/\g=⟨B,s,s+cs.length⟩)\/(x≠W.next/\σ x=some g):=λx g hc=>by
  unfold bR at hc;split at hc
  ·rename_i hx;injection hc with hc;exact .inl ⟨hx,hc.symm⟩
  ·rename_i hx;exact .inr ⟨hx,hc⟩
 have nS:DM (bR σ W.next ⟨B,s,s+cs.length⟩) (W.add (.ro cs)):=by
  intro x g hx;rcases mE x g hx with⟨rfl,rfl⟩|⟨h1,h2⟩
  ·exact⟨cs,AW.a8 _ _⟩
  ·obtain⟨cz,nK⟩:=h.ro x g h2;exact⟨cz,by rw[fe h1];exact nK⟩
 refine⟨⟨⟨?_,?_,?_,?_⟩,nS,?_⟩,hs⟩
 ·intro x hx;rw[AW.aL]at hx;rw[fe (by omega)];exact h.rel.free x (by omega)
 ·intro x g hx;rw[AW.aL];rcases mE x g hx with⟨rfl,rfl⟩|⟨_,h2⟩
  ·exact⟨by omega,gY⟩
  ·have:=h.rel.np x g h2;exact⟨by omega,this.2⟩
 ·intro x o g hx hk;rcases mE x g hk with⟨rfl,rfl⟩|⟨h1,h2⟩
  ·rw[AW.a8]at hx;injection hx with hx;subst hx;exact⟨c,t,fr,hB,aS _,λi v hv=>let⟨v',a,b⟩:=hc i v hv;⟨v',a,b.mono hs⟩⟩
  ·rw[fe h1]at hx;exact(h.rel.obj x o g hx h2).mono hs
 ·intro b1 b2 o1 o2 g1 g2 FC h1 h2 k1 k2 hr;obtain⟨c1,e1⟩:=nS b1 g1 k1;obtain⟨c2,e2⟩:=nS b2 g2 k2;rw[h1]at e1;rw[h2]at e2;injection e1 with e1;injection e2 with e2;subst e1;subst e2;simp[O2]at hr
 ·obtain⟨b,g,hb⟩:=h.some_;exact⟨b,g,hs b g hb⟩
def DT{w:aq}{base:Nat}{a:aP}{n:Nat}{cs:List ae}(h:w.cells? base a n=some cs)(hn:0<n):∃c t fr,w.heap[a.block]? =some (.cells c t fr)/\a.spot=none/\cs.length=n/\∀i,i<n->c[a.off+i]? =cs[i]? :=by
 unfold World.cells? at h;split at h;case isFalse=>cases h
 have hl:=mapM_some_length h;rw[pP]at hl;have hg:∀i,i<n->w.cell? (a.add i)=cs[i]? :=λi hi=>mapM_some_get h i i (by simp[hi])
 have h0:=hg 0 hn;have e0:a.add 0=a:=by simp[Addr.add]
 rw[e0,dm (by omega)]at h0;unfold World.cell? at h0;split at h0;case h_2=>cases h0
 rename_i c t fr hh;split at h0;case isTrue=>cases h0
 rename_i sw;refine⟨c,t,fr,hh,by simpa using sw,hl,λi hi=>?_⟩;rw[<-hg i hi];unfold World.cell?;have eb:(a.add i).block=a.block:=by unfold Addr.add;split<;>rfl
 have eo:(a.add i).off=a.off+i:=by unfold Addr.add;split<;>simp_all
 have es:(a.add i).spot=none:=by unfold Addr.add;split<;>simp_all
 rw[eb,hh];simp only[es,eo,vb,fJ,bG]
section
variable {H:Type} {enc:ai×ae->H} {P:ah} {w:aq}
def RC(P:ah)(w:aq)(n:Nat)(t:ai)(cz:List ae):Prop:=∀σ W,kn σ W w->∃σ2 W2 cs,kn σ2 W2 w/\Sub σ σ2/\Le W W2/\LR σ2 cs cz/\DR P W2 n t cs
def vz{n:Nat}{dv:Nat}{cz:List ae}(hl:cz.length=dv):∀{fs:List pq} {off:Nat},Pe P dv off fs=true->(∀f∈fs,RC P w n f.type ((cz.drop f.offset).take (P.cellsOf f.type)))->
 ∀σ W,kn σ W w->∃σ2 W2 cs,kn σ2 W2 w/\Sub σ σ2/\Le W W2/\LR σ2 cs (cz.drop off)/\vN (DR P W2 n) (fs.map (·.type)) cs
 |[],off,h,_,σ,W,ho=>by unfold Pe at h;have:=kH.1 h;refine⟨σ,W,[],ho,.refl _,.refl _,?_,rfl⟩;rw[zV (by omega)];exact .nil
 |f::fs,off,h,hf,σ,W,ho=>by
  unfold Pe at h;simp only[bB]at h;have E2:=kH.1 h.1;obtain⟨σ1,W1,c1,o1,s1,l1,r1,a1⟩:=hf f (by simp) σ W ho;obtain⟨σ2,W2,c2,o2,s2,l2,r2,a2⟩:=vz hl h.2 (λg hg=>hf g (by simp[hg])) σ1 W1 o1;refine⟨σ2,W2,c1++c2,o2,s1.trans s2,l1.trans l2,?_,c1,c2,rfl,a1.mono l2,a2⟩;rw[E2]at r1;have e:cz.drop off=(cz.drop off).take (P.cellsOf f.type)++cz.drop (off+P.cellsOf f.type):=by rw[<-sC,xx]
  rw[e];exact(r1.mono s2).append r2
def Ch{n z:Nat}{e:ai}:∀{LL:List (List ae)},(∀c∈LL,c.length=z/\RC P w n e c)->
 ∀σ W,kn σ W w->∃(σ2:cV) (W2:AW) (l:List (List ae)),kn σ2 W2 w/\Sub σ σ2/\Le W W2/\LR σ2 l.flatten LL.flatten/\l.length=LL.length/\∀c∈l,c.length=z/\DR P W2 n e c
 |[],_,σ,W,ho=>⟨σ,W,[],ho,.refl _,.refl _,.nil,rfl,by simp⟩
 |c0::LL,h,σ,W,ho=>by
  obtain⟨σ1,W1,c1,o1,s1,l1,r1,a1⟩:=(h c0 (by simp)).2 σ W ho;obtain⟨σ2,W2,l,o2,s2,l2,r2,e2,a2⟩:=Ch (LL:=LL) (λc hc=>h c (by simp[hc])) σ1 W1 o1;refine⟨σ2,W2,c1::l,o2,s1.trans s2,l1.trans l2,?_,by simp[e2],?_⟩
  ·rw[List.flatten_cons,List.flatten_cons];exact(r1.mono s2).append r2
  ·intro c hc;rcases df.1 hc with rfl|hc
   ·exact⟨by rw[r1.1];exact(h c0 (by simp)).1,a1.mono l2⟩
   ·exact a2 c hc
def H7(L:List ae)(o z:Nat):∀n,((List.range n).map λi=>(L.drop (o+i*z)).take z).flatten=(L.drop o).take (n*z)
 |0=>by simp
 |n+1=>by rw[mL,pL,List.flatten_append,H7 L o z n,Nat.succ_mul,List.take_add,sC];simp
def IS:∀{n m:Nat} {t:ai} {cz:List ae} {x:bP H×List dp},QI P n t=true->DataW.trod enc P w 0 (λ_=>true) true m t cz=some x->RC P w n t cz:=by
 intro n;induction n with
 |zero=>intro m t cz x h;cases h
 |succ n ih=>
  intro m t cz x h hx σ W ho;unfold QI at h;split at h
  ·rename_i ht;obtain⟨b,rfl,_⟩:=DataW.trod_bool ht hx;exact⟨σ,W,[.bool b],ho,.refl _,.refl _,.cons (.bool b) .nil,by unfold DR;rw[ht];exact⟨b,rfl⟩⟩
  ·rename_i k ht;obtain⟨z,rfl,_,hwf⟩:=DataW.trod_int ht hx;simp only[Lit.wf,bB,lP]at hwf;exact⟨σ,W,[.int k z],ho,.refl _,.refl _,.cons (.int k z) .nil,by unfold DR;rw[ht];exact⟨z,rfl,hwf⟩⟩
  ·rename_i ht;obtain⟨s,rfl,_,hs⟩:=DataW.trod_string ht hx;exact⟨σ,W,[.string s],ho,.refl _,.refl _,.cons (.string s) .nil,by unfold DR;rw[ht];exact⟨s,rfl,by unfold maxLen at hs;omega⟩⟩
  ·rename_i fs ht;simp only[bB,cr]at h;obtain⟨xs,m',_,_,hl,fb,hf⟩:=DataW.trod_struct ht hx;have:=vz (P:=P) (w:=w) (n:=n) hl h.1 (λf hfm=>by
    obtain⟨i,hi,rfl⟩:=vj hfm;have Zg:i<fs.size:=by simpa using hi
    have h1:=hf i fs[i] (by rw[gp Zg]);rw[dm (by omega)]at h1;have e:fs.toList[i]=fs[i]:=by simp
    rw[e];exact ih (by rw[<-e];exact h.2 _ hfm) h1) σ W ho;obtain⟨σ2,W2,cs,o2,s2,l2,r2,a2⟩:=this;rw[jy]at r2;exact⟨σ2,W2,cs,o2,s2,l2,r2,by unfold DR;rw[ht];exact a2⟩
  ·rename_i e ht;simp only[bB,lP]at h;obtain⟨hz,Qs⟩:=h;have mk:∀{W2:AW} {a:Option aP} {len cap:Nat},len<=cap->cap<ge->(a=none\/∃b,a=some ⟨b,0,none⟩)->(len=0\/∃(b:Nat) (l:List (List ae)),a=some ⟨b,0,none⟩/\b<W2.next/\aI W2 b=some l.flatten/\l.length=len/\∀c∈l,c.length=P.cellsOf e/\DR P W2 n e c)->DR P W2 (n+1) t [.slice a len cap]:=λh1 h2 h2' h3=>by unfold DR;rw[ht];exact⟨_,_,_,rfl,h1,h2,h2',h3⟩
   rcases DataW.trod_slice ht hx with⟨rfl,_⟩|⟨a,len,cap,ajB,ij,m',_,rfl,_,_,VI,oB,hel,bi,sw,_⟩
   ·exact⟨σ,W,[.slice none 0 0],ho,.refl _,.refl _,.cons (.B9 0 0) .nil,mk (aS _) (by unfold ge;omega) (.inl rfl) (.inl rfl)⟩
   obtain⟨hrl,Ga⟩:=sw rfl;have WJ:cap<ge:=by unfold maxLen at oB;unfold ge;omega
   by_cases UF:cap=0
   ·obtain rfl:len=0:=by omega
    subst UF;obtain⟨b,g,hg⟩:=ho.some_;exact⟨σ,W,[.slice (some ⟨b,0,none⟩) 0 0],ho,.refl _,.refl _,.cons (.di ⟨b,0,none⟩ a 0 g hg (.inl rfl)) .nil,mk (aS _) (by unfold ge;omega) (.inr ⟨b,rfl⟩) (.inl rfl)⟩
   ·
    have qH:∀i,i<cap->∃ci,w.cells? 0 (a.add (i*P.cellsOf e)) (P.cellsOf e)=some ci/\∃x,DataW.trod enc P w 0 (λ_=>true) true m' e ci=some x:=by
     intro i hi;by_cases VQ:i<len
     ·have h1:=bi i VQ;rw[dm (by omega)]at h1;obtain⟨ci,h2,h3⟩:=Option.bind_eq_some_iff.1 h1;exact⟨ci,h2,_,h3⟩
     ·have h1:=Ga (i-len) (by omega);rw[dm (by omega),show len+(i-len)=i by omega]at h1;obtain⟨ci,h2,h3⟩:=Option.bind_eq_some_iff.1 h1;exact⟨ci,h2,_,h3⟩
    obtain⟨c0,aem,_⟩:=qH 0 (by omega);have ea0:a.add (0*P.cellsOf e)=a:=by simp[Addr.add]
    rw[ea0]at aem;obtain⟨c,tt,fr,hB,WA,_,_⟩:=DT aem hz;have hci:∀i,i<cap->∃x,((c.toList.drop (a.off+i*P.cellsOf e)).take (P.cellsOf e)).length=P.cellsOf e/\DataW.trod enc P w 0 (λ_=>true) true m' e ((c.toList.drop (a.off+i*P.cellsOf e)).take (P.cellsOf e))=some x:=by
     intro i hi;obtain⟨ci,h1,x,h2⟩:=qH i hi;obtain⟨c2,t2,fr2,Lc,_,qN,GM⟩:=DT h1 hz;have eb:(a.add (i*P.cellsOf e)).block=a.block:=by unfold Addr.add;split<;>rfl
     have eo:(a.add (i*P.cellsOf e)).off=a.off+i*P.cellsOf e:=by unfold Addr.add;split<;>simp_all
     rw[eb,hB]at Lc;injection Lc with Lc;injection Lc with Lc;subst Lc;rw[eo]at GM;have ec:(c.toList.drop (a.off+i*P.cellsOf e)).take (P.cellsOf e)=ci:=by
      apply tY;intro j;by_cases hj:j<P.cellsOf e
      ·rw[ks,ax hj,sn,rn];exact GM j hj
      ·rw[ks,ay hj,pH (by omega)]
     rw[ec];exact⟨x,qN,h2⟩
    obtain⟨σ1,W1,l,o1,s1,l1,r1,e1,a1⟩:=Ch (P:=P) (w:=w) (n:=n) (z:=P.cellsOf e) (e:=e) (LL:=(List.range len).map λi=>(c.toList.drop (a.off+i*P.cellsOf e)).take (P.cellsOf e)) (λci hm=>by
     obtain⟨i,hi,rfl⟩:=mC.1 hm;rw[nM]at hi;obtain⟨x,h1,h2⟩:=hci i (by omega);exact⟨h1,ih Qs h2⟩) σ W ho;rw[H7]at r1;rw[ox,pP]at e1;obtain⟨o2,s2⟩:=o1.add (s:=a.off) (cs:=l.flatten) hB (λi v hv=>by
     obtain⟨v',Ud,hr⟩:=r1.get hv;refine⟨v',?_,hr⟩;rw[ks]at Ud;split at Ud
     ·rw[sn,rn]at Ud;exact Ud
     ·cases Ud);have lw:Le W1 (W1.add (.ro l.flatten)):=(Le.refl W1).add _;have ev:(⟨a.block,a.off+0,none⟩:aP)=a:=by
     obtain⟨b,o,s⟩:=a;simp only at WA;subst WA;rfl
    have hv:VR (bR σ1 W1.next ⟨a.block,a.off,a.off+l.flatten.length⟩) (.slice (some ⟨W1.next,0,none⟩) len cap) (.slice (some ⟨a.block,a.off+0,none⟩) len cap):=
     .slice ⟨W1.next,0,none⟩ len cap cap ⟨a.block,a.off,a.off+l.flatten.length⟩ de rfl (.known cap WJ)
    rw[ev]at hv;refine⟨_,_,[.slice (some ⟨W1.next,0,none⟩) len cap],o2,s1.trans s2,l1.trans lw,.cons hv .nil,mk VI WJ (.inr ⟨W1.next,rfl⟩) (.inr ⟨W1.next,l,rfl,by rw[AW.aL];omega,Ah (W1.a8 _),e1,λci hm=>⟨(a1 ci hm).1,(a1 ci hm).2.mono lw⟩⟩)⟩
  ·cases h
end
end
end Go.Eng
namespace Go.Eng
open Go Go.RowKit Go.ChangeShapes Go.WideShapes
section
variable [ak]
section
variable {P:ah} {W:AW} {α:Type}
def DR.int{n:Nat}{t:ai}{cs:List ae}{k:aN}(h:DR P W (n+1) t cs)(ht:P.underlying t=some (.int k)):∃m,cs=[.int k m]:=by unfold DR at h;rw[ht]at h;obtain⟨m,h,_⟩:=h;exact⟨m,h⟩
def DR.str{n:Nat}{t:ai}{cs:List ae}(h:DR P W (n+1) t cs)(ht:P.underlying t=some .string):∃s:ByteArray,cs=[.string s]/\s.size<9223372036854775808:=by unfold DR at h;rw[ht]at h;exact h
def DR.struct{n:Nat}{t:ai}{cs:List ae}{fs:Array pq}(h:DR P W (n+1) t cs)(ht:P.underlying t=some (.struct fs)):vN (DR P W n) (fs.toList.map (·.type)) cs:=by unfold DR at h;rw[ht]at h;exact h
def DR.slice{n:Nat}{t e:ai}{cs:List ae}(h:DR P W (n+1) t cs)(ht:P.underlying t=some (.slice e)):
 ∃a len cap,cs=[.slice a len cap]/\len<=cap/\cap<ge/\(len=0\/∃(b:Nat) (l:List (List ae)),a=some ⟨b,0,none⟩/\b<W.next/\aI W b=some l.flatten/\l.length=len/\∀c∈l,c.length=P.cellsOf e/\DR P W n e c):=by
 unfold DR at h;rw[ht]at h;obtain⟨a,len,cap,h1,h2,h3,_,h4⟩:=h;exact⟨a,len,cap,h1,h2,h3,h4⟩
def DR.X5{n:Nat}{t e:ai}{cs:List ae}(h:DR P W (n+1) t cs)(ht:P.underlying t=some (.slice e)):
 ∃a len cap,cs=[.slice a len cap]/\len<=cap/\cap<ge/\(a=none\/∃b,a=some ⟨b,0,none⟩)/\(len=0\/∃(b:Nat) (l:List (List ae)),a=some ⟨b,0,none⟩/\b<W.next/\aI W b=some l.flatten/\l.length=len/\∀c∈l,c.length=P.cellsOf e/\DR P W n e c):=by
 unfold DR at h;rw[ht]at h;exact h
def GN{z:Nat}{at_:List ae->Nat->α->Prop}:∀{l:List (List ae)},(∀c∈l,c.length=z/\∃x:α,∀pre post,at_ (pre++(c++post)) pre.length x)->∀pre:List ae,
 ∃xs:List α,xs.length=l.length/\∀i (h:i<xs.length),at_ (pre++l.flatten) (pre.length+i*z) xs[i]
 |[],_,_=>⟨[],rfl,λi h=>by simp at h⟩
 |c::l,hc,pre=>by
  obtain⟨hz,x,hx⟩:=hc c (by simp);obtain⟨xs,h1,h2⟩:=GN (l:=l) (λd hd=>hc d (by simp[hd])) (pre++c);refine⟨x::xs,by simp[h1],λi h=>?_⟩;rw[List.flatten_cons];match i with
  |0=>simpa using hx pre l.flatten
  |i+1=>have:=h2 i (by simpa using h);rw[cm,hz,ji]at this;rw[List.getElem_cons_succ,Nat.succ_mul,Nat.add_comm (i*z) z,<-lH];exact this
def acp{α:Type}(W:AW)(z:Nat)(at_:List ae->Nat->α->Prop)(v:ae)(l:List α):Prop:=Row W z at_ v l/\(∃a c,v=.slice a l.length c/\l.length<=c/\c<ge/\(l≠[]->∃b o,a=some ⟨b,o,none⟩))
def DR.row{n:Nat}{t e:ai}{cs:List ae}(h:DR P W (n+1) t cs)(ht:P.underlying t=some (.slice e)){at_:List ae->Nat->α->Prop}
 (oC:∀c,c.length=P.cellsOf e->DR P W n e c->∃x:α,∀pre post,at_ (pre++(c++post)) pre.length x):∃v l,cs=[v]/\acp W (P.cellsOf e) at_ v l:=by
 obtain⟨a,len,cap,rfl,h1,h2,h3⟩:=h.slice ht;rcases h3 with rfl|⟨b,l,rfl,h4,h5,rfl,h6⟩
 ·exact⟨_,[],rfl,⟨a,cap,rfl,.inl rfl⟩,a,cap,rfl,h1,h2,λh=>absurd rfl h⟩
 ·obtain⟨xs,e1,e2⟩:=GN (z:=P.cellsOf e) (at_:=at_) (l:=l) (λc hc=>⟨(h6 c hc).1,oC c (h6 c hc).1 (h6 c hc).2⟩) [];refine⟨_,xs,rfl,⟨_,cap,by rw[e1],.inr ⟨b,0,l.flatten,rfl,h4,h5,λi hi=>?_⟩⟩,_,cap,by rw[e1],by omega,h2,λ_=>⟨b,0,rfl⟩⟩;have:=e2 i hi;simpa using this
def DR.ints{n:Nat}{t e:ai}{cs:List ae}{k:aN}(h:DR P W (n+2) t cs)(ht:P.underlying t=some (.slice e))(he:P.underlying e=some (.int k))(hz:P.cellsOf e=1):∃v l,cs=[v]/\acp W 1 (BG k) v l:=by have:=h.row ht (at_:=BG k) (λc _ hc=>by obtain⟨m,rfl⟩:=hc.int he;refine⟨m,λpre post=>?_⟩;unfold BG;rw[ig (by omega)];simp);rwa [hz]at this
def vN.nil{g:ai->List ae->Prop}{cs:List ae}(h:vN g [] cs):cs=[]:=h
def vN.cons{g:ai->List ae->Prop}{t:ai}{ts:List ai}{cs:List ae}(h:vN g (t::ts) cs):∃c1 c2,cs=c1++c2/\g t c1/\vN g ts c2:=h
end
section
variable {H:Type} {enc:ai×ae->H} {P:ah} {w w':aq} {base:Nat} {Qg:Nat->Bool} {held:Bool}
def dH.same{p:dp}(hq:dH w w')(hp:p.block<w.heap.size):w.sameAt w' p:=by
 cases p with
 |cell b off=>exact World.cell?_of_block (a:=⟨b,off,none⟩) (hq.block b hp)
 |map b=>exact hq.block b hp
def dH.trodAll(hq:dH w w'):∀{ts:List ai} {vs:List ae} {ds:List (bP H)} {ps:List dp},DataW.TrodAll enc P w base Qg held ts vs ds ps->DataW.TrodAll enc P w' base Qg held ts vs ds ps
 |[],[],[],_,h=>h
 |_::_,_::_,_::_,_,⟨p,q,⟨n,h1⟩,h2,e⟩=>⟨p,q,⟨n,DataW.trod_carry n _ _ _ h1 (λx hx=>hq.same (DataW.trod_lt n _ _ _ h1 x hx))⟩,hq.trodAll h2,e⟩
def Nw{f:eV}{s:ChangeSpec}{args:Array ae}{ds gs:List (bP H)}{lM:List dp}{T:ai->Prop}(K:Kids P T)(hz:∀t e,T t->P.underlying t=some (.slice e)->0<P.cellsOf e)(hT:∀t∈f.params.toList,T t)
 (hW:DataW.Whole enc P f.params.toList s.vars false w args.toList ds gs lM)(hq:dH w w')(hv:s.vars=[])(F6:s.fn H ds={results:=[.lit (.bool true)],args:=ds}){t:ai}(hr:f.resultTypes=#[t])(ht:P.underlying t=some .bool):
 s.post enc P f false true false false w args (.bool true) w':=by
 have WX:=hW;obtain⟨p,q,hA,hV,rfl,_,_⟩:=hW;rw[hv]at hV;obtain⟨rfl,rfl⟩:=trodVars_none hV;have gY:=hA.lt;refine⟨ds,[],p++[],[],p,[],WX,?_,?_,?_,hq.grown.frame _,λh=>by cases h⟩
 ·rw[hr,iD,F6];exact trodAll_cons_mk (shut_bool ht _) trodAll_mk0
 ·rw[iD,F6];exact hq.trodAll (hA.respare K hz hT (λx hx=>by simpa using gY x hx))
 ·rw[hv,iD,F6];exact rfl
end
end
end Go.Eng
namespace Go.Eng
open Go
@[reducible] noncomputable def Lq (D:Nat->Array ao->Option (List (Nat×List Nat))) (ng:List Nat) (ex:ai->Bool:=λ_=>false):ak where
 D:=D
 ex:=ex
 ng:=ng
 Fr:=T ae
 Kq:=λR t=>(T.get (path t) R).getD ag
 Qc:=λR t v=>T.set (some v) (path t) R
 blank:=.lf
 jC:=λR t v=>by rw[T.jC];rfl
 fA:=λR t u v h=>by rw[T.fA _ _ _ _ (sO h)]
 xd:=λt=>by rw[T.xN];rfl
end Go.Eng
namespace Go.Proofs.YtekljimefjclgaaGreatDoor
open Go Go.Proofs
def Np:Go.Shelf.Ren:=⟨λ|189=>165|125=>178|257=>177|128=>194|129=>195|294=>185|295=>186|296=>187|297=>188|298=>189|299=>190|216=>191|300=>192|301=>193|328=>198|329=>199|330=>200|331=>201|332=>202|215=>203|343=>205|n=>n,λ|28=>64|3=>3|46=>250|0=>0|51=>36|53=>37|4=>4|183=>274|182=>273|131=>163|5=>5|9=>9|218=>282|222=>286|228=>288|229=>289|n=>n,λ|n=>n⟩
def ado:Lays.n189 Tryz.prog Np where
 mixed:=by kernel_rfl
 f125:=Tryz.func178.trans (cI some (by kernel_rfl))
 f128:=Tryz.func194.trans (cI some (by kernel_rfl))
 f129:=Tryz.func195.trans (cI some (by kernel_rfl))
 f189:=Tryz.func165.trans (cI some (by kernel_rfl))
 f215:=Tryz.func203.trans (cI some (by kernel_rfl))
 f216:=Tryz.func191.trans (cI some (by kernel_rfl))
 f257:=Tryz.func177.trans (cI some (by kernel_rfl))
 f294:=Tryz.func185.trans (cI some (by kernel_rfl))
 f295:=Tryz.func186.trans (cI some (by kernel_rfl))
 f296:=Tryz.func187.trans (cI some (by kernel_rfl))
 f297:=Tryz.func188.trans (cI some (by kernel_rfl))
 f298:=Tryz.func189.trans (cI some (by kernel_rfl))
 f299:=Tryz.func190.trans (cI some (by kernel_rfl))
 f300:=Tryz.func192.trans (cI some (by kernel_rfl))
 f301:=Tryz.func193.trans (cI some (by kernel_rfl))
 f328:=Tryz.func198.trans (cI some (by kernel_rfl))
 f329:=Tryz.func199.trans (cI some (by kernel_rfl))
 f330:=Tryz.func200.trans (cI some (by kernel_rfl))
 f331:=Tryz.func201.trans (cI some (by kernel_rfl))
 f332:=Tryz.func202.trans (cI some (by kernel_rfl))
 f343:=Tryz.func205.trans (cI some (by kernel_rfl))
 t0:=Tryz.underlying0
 a0:=Tryz.isAgg0
 z0:=Tryz.sizeOf0
 v0:=Tryz.zeroValue0
 t3:=Tryz.underlying3
 a3:=Tryz.isAgg3
 z3:=Tryz.sizeOf3
 v3:=Tryz.zeroValue3
 t4:=Tryz.underlying4
 a4:=Tryz.isAgg4
 z4:=Tryz.sizeOf4
 v4:=Tryz.zeroValue4
 t5:=Tryz.underlying5
 a5:=Tryz.isAgg5
 z5:=Tryz.sizeOf5
 v5:=Tryz.zeroValue5
 t9:=Tryz.underlying9
 a9:=Tryz.isAgg9
 z9:=Tryz.sizeOf9
 v9:=Tryz.zeroValue9
 t28:=Tryz.underlying64
 a28:=Tryz.isAgg64
 z28:=Tryz.sizeOf64
 v28:=Tryz.zeroValue64
 t46:=Tryz.underlying250
 a46:=Tryz.isAgg250
 z46:=Tryz.sizeOf250
 v46:=Tryz.zeroValue250
 t51:=Tryz.underlying36
 a51:=Tryz.isAgg36
 z51:=Tryz.sizeOf36
 v51:=Tryz.zeroValue36
 t53:=Tryz.underlying37
 a53:=Tryz.isAgg37
 z53:=Tryz.sizeOf37
 v53:=Tryz.zeroValue37
 t131:=Tryz.underlying163
 a131:=Tryz.isAgg163
 z131:=Tryz.sizeOf163
 v131:=Tryz.zeroValue163
 t182:=Tryz.underlying273
 a182:=Tryz.isAgg273
 z182:=Tryz.sizeOf273
 v182:=Tryz.zeroValue273
 t183:=Tryz.underlying274
 a183:=Tryz.isAgg274
 z183:=Tryz.sizeOf274
 v183:=Tryz.zeroValue274
 t218:=Tryz.underlying282
 a218:=Tryz.isAgg282
 z218:=Tryz.sizeOf282
 v218:=Tryz.zeroValue282
 t222:=Tryz.underlying286
 a222:=Tryz.isAgg286
 z222:=Tryz.sizeOf286
 v222:=Tryz.zeroValue286
 t228:=Tryz.underlying288
 a228:=Tryz.isAgg288
 z228:=Tryz.sizeOf288
 v228:=Tryz.zeroValue288
 t229:=Tryz.underlying289
 a229:=Tryz.isAgg289
 z229:=Tryz.sizeOf289
 v229:=Tryz.zeroValue289
end Go.Proofs.YtekljimefjclgaaGreatDoor
