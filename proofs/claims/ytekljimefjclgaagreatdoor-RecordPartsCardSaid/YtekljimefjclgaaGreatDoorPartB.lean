/- A part: contracts and laws. -/
import Derived.Test.YtekljimefjclgaaGreatDoorPartA
import Derived.LoopNIn
import Derived.RangeFuncRecord
import Derived.RowKit3
import Derived.ProofKit
import Derived.OpenShut
import Derived.Maps.RangeWalk
import Derived.Orders
import Derived.RowKit
import Derived.Sort.Grow
import Derived.ChangeArms
import Derived.ReadAgain
import Derived.Shelf.Sort.Plain
import Derived.Test.YtekljimefjclgaaGreatDoorChecked
set_option linter.unusedVariables false
set_option linter.unusedSimpArgs false
set_option linter.unusedSectionVars false
set_option linter.defProp false
noncomputable section
open Go renaming Act->ba,Addr->aW,Code->bG,DataW->ce,Deferred->dM,Exit->dh,Field->qZ,Func->fD,FuncId->hZ,IntKind->aV,MemPlace->dO,Oper->ao,Operand->aq,Program->aj,TypeId->ai,Value->ae,World->au,undef->ag
namespace Go.Eng
open Go
section
variable [ak]
inductive X where
 |normal|exit (id:Nat)|ret
def X.to:X->dh
 |.normal=>.normal
 |.exit id=>.exit id
 |.ret=>.ret
def X.jump:X->Option bG
 |.normal=>none
 |.exit id=>some (.exit id)
 |.ret=>some .ret
def jo(body:ak.Fr->AW->Option (X×ak.Fr×AW)):Nat->ak.Fr->AW->Option (X×ak.Fr×AW)
 |0,_,_=>none
 |n+1,R,W=>match body R W with
  |some (.normal,R',W')=>jo body n R' W'
  |r=>r
def cu(P:aj)(call:Callee)(top:Bool)(nt:Nat):bG->ak.Fr->AW->Option (X×ak.Fr×AW)
 |.skip,R,W=>some (.normal,R,W)
 |.label _,R,W=>some (.normal,R,W)
 |.region id ops zL,R,W=>
  match zL with
  |false=>(oX P call ops ops.toList R W).map λr=>(.normal,r.1,r.2)
  |true=>match ak.D id ops with
   |none=>(oX P call ops ops.toList R W).map λr=>(.normal,r.1,r.2)
   |some pl=>(jv P call ops pl R W).map λr=>(.normal,r.1,r.2)
 |.seq a b,R,W=>match cu P call top nt a R W with
  |some (.normal,R',W')=>cu P call top nt b R' W'
  |r=>r
 |.cond c a b,R,W=>match aC R c with
  |.bool true=>cu P call top nt a R W
  |.bool false=>cu P call top nt b R W
  |_=>none
 |.block id b,R,W=>match cu P call top nt b R W with
  |some (.exit i,R',W')=>if i=id then some (.normal,R',W')else some (.exit i,R',W')
  |r=>r
 |.loop b,R,W=>jo (cu P call top nt b) 1000000 R W
 |.rangeFunc f ps asC bd,R,W=>
  match top with
  |false=>none
  |true=>match aC R f with
   |.func (.func i) fs cs=>W.new (.loop .ready none R nt ps asC bd) λl W1=>
    match call (.func (.func i) fs cs) [.func (.yield l) #[] #[]] W1 with
    |some (_,W2)=>match W2.get l with
     |some (.loop st mJ _ _ _ _ _)=>(match st with
      |.busy=>none
      |_=>match mJ with
       |none=>some (.normal,R,W2.kill l)
       |some (.exit i)=>some (.exit i,R,W2.kill l)
       |some .ret=>some (.ret,R,W2.kill l)
       |_=>none)
     |_=>none
    |none=>none
   |_=>none
 |.exit id,R,W=>some (.exit id,R,W)
 |.ret,R,W=>some (.ret,R,W)
 |.goto _,_,_=>none
 |.scope _,_,_=>none
 |.refuse _,_,_=>none
def pR(n0:Nat)(σ:dj)(w:au):List dM->Prop
 |[]=>True
 |d::ds=>(∃r,d={target:=.collected r,args:=#[]}/\n0<=r/\w.heap[r]? =some (.deferred (some []))/\(∀b g,σ b=some g->g.B≠r)/\
  ∀d'∈ds,∀r',d'.target=.collected r'->r'≠r)/\pR n0 σ w ds
section
variable {P:aj} {σ σ':dj} {W W':AW} {w w':au} {n0:Nat}
def pR.ext(he:eW σ W w σ' W' w'):∀{ds:List dM},pR n0 σ w ds->pR n0 σ' w' ds:=by
 intro ds;induction ds with
 |nil=>intro _;trivial
 |cons d ds ih=>
  rintro⟨⟨r,h1,h2,h3,h4,h5⟩,Xj⟩;have hr:r<w.heap.size:=(dW.1 h3).1;have hm:¬Mut σ W r:=by rintro⟨b,g,hg,e,_⟩;exact h4 b g hg e
  refine⟨⟨r,h1,h2,(he.dq r hr hm).trans h3,λb g hg e=>?_,h5⟩,ih Xj⟩;rcases he.grow b g hg (by omega)with h|h
  ·exact h4 b g h e
  ·rw[e]at h;exact hm h
def bt.push(h:bt σ W w.heap)(x:Obj)(hx:∀c t fr,x≠ .cells c t fr):bt σ W (w.heap.push x)/\eW σ W w σ W {w with heap:=w.heap.push x}:=by
 have fd:∀B,B<w.heap.size->(w.heap.push x)[B]? =w.heap[B]? :=λB hB=>by rw[ss];rw[b8]
 refine⟨⟨h.free,λb g hg=>?_,λb o g hb hg=>(h.obj b o g hb hg).same (fd _ (h.pd b g hg).2),h.pn⟩,
  ⟨.refl _,λ_ _ h=>h,by simp,rfl,rfl,rfl,λB hB _=>fd B hB,λ_ _ h k=>⟨h,k⟩,λb g hg _=>.inl hg⟩⟩
 ·have:=h.pd b g hg;simp;omega
def bt.other(h:bt σ W w.heap){r:Nat}(hr:∀b g,σ b=some g->g.B≠r)(x:Obj):bt σ W (w.heap.setIfInBounds r x):=by
 refine⟨h.free,λb g hg=>?_,λb o g hb hg=>(h.obj b o g hb hg).same ?_,h.pn⟩
 ·have:=h.pd b g hg;simpa using this
 ·rw[Dm (bL (hr b g hg))]
def FH(ops:Array ao):(List.range ops.size).filterMap (λi=>ops[i]?)=ops.toList:=by
 have h1:(List.range ops.size).filterMap (λi=>ops[i]?)=(List.range ops.size).map λi=>ops.getD i default:=by
  have key:∀l:List Nat,(∀i∈l,i<ops.size)->l.filterMap (λi=>ops[i]?)=l.map λi=>ops.getD i default:=by
   intro l;induction l with
   |nil=>intro _;rfl
   |cons i l ih=>intro h;have hi:i<ops.size:=h i (by simp);simp only[List.filterMap_cons,jd,g9 hi];rw[ih λj hj=>h j (by simp[hj])];simp[hi]
  exact key _ λi hi=>by simpa using hi
 rw[h1];refine rR λi=>?_
 simp only[jh,ug];by_cases hi:i<ops.size
 ·rw[B4 hi];simp[hi]
 ·rw[rK (by simpa using hi)];simp[hi]
def aa1{ng:List Nat}{nt:Nat}{call:Callee}(hc:cw P ng call){ops:Array ao}(jq:∀(i:Nat) (o:ao),ops[i]? =some o->kL nt ng o=true){ro:Option Nat}{Q:dh->ba->au->Prop}{Rf:ak.Fr}{Wf:AW}:
 ∀(l:List Nat) (σ:dj) (R:ak.Fr) (W:AW) (a:ba) (w:au),(∀i∈l,i<ops.size)->bt σ W w.heap->vH σ ng->eG nt σ R a.tmps->
  oX P call ops (l.filterMap λi=>ops[i]?) R W=some (Rf,Wf)->
  (∀σ' a' w',eG nt σ' Rf a'.tmps->a'.defers=a.defers->bt σ' Wf w'.heap->eW σ W w σ' Wf w'->Q .normal a' w')->wpOpsIn (FE ro) 0 P ops Q l a w:=by
 intro l;induction l with
 |nil=>intro σ R W a w _ hW hG hR h hQ;injection h with h;injection h with h1 h2;subst h1;subst h2;exact hQ σ a w hR rfl hW (.refl _ _ _)
 |cons i l ih=>
  intro σ R W a w hl hW hG hR h hQ;have hi:i<ops.size:=hl i (by simp);have hg:ops[i]? =some ops[i]:=g9 hi;simp only[List.filterMap_cons,hg,oX]at h;split at h;case h_2=>cases h
  rename_i R' W' hs;have A7:∀t∈(ops[i]).looksAt ops,VR σ (dg R t) (a.tmps.getD t ag):=λt ht=>hR.2 t (Jg jq hg ht)
  have hρ:=rV hG (jq _ _ hg) A7;have Be:=zw A7;simp only[wpOpsIn,hg,Be];unfold jY at hs;split at hs
  ·rename_i hw;rw[ax hw];split at hs
   ·rename_i v W1 sV;injection hs with hs;injection hs with Bl nI;subst Bl;subst nI;refine GY hc hW hG sV hρ λσ' v' w' hv hw' he=>?_
    exact ih σ' _ _ _ w' (λj hj=>hl j (by simp[hj])) hw' (hG.mono he.sub) ((hR.mono he.sub).put _ hv) h
     (λG2 a' VD k1 k2 k3 k4=>hQ G2 a' VD k1 (by rw[k2,oy]) k3 (he.trans k4))
   ·cases hs
  ·rename_i hw;rw[ay hw];injection hs with hs;injection hs with Bl nI;subst Bl;subst nI
   exact⟨λf _=>trivial,ih σ _ _ _ w (λj hj=>hl j (by simp[hj])) hW hG (hR.put _ .undef) h
    (λG2 a' VD k1 k2 k3 k4=>hQ G2 a' VD k1 (by rw[k2,oy]) k3 k4)⟩
end
end
section
variable [ak]
section
variable {P:aj}
def vZ{x:X}{R':ak.Fr}{W':AW}{y:Option (ak.Fr×AW)}(h:(y.map λr=>((X.normal,r.1,r.2):X×ak.Fr×AW))=some (x,R',W')):x=.normal/\y=some (R',W'):=by
 cases y with
 |none=>cases h
 |some r=>simp only[cS,gJ,pA]at h;obtain⟨h1,h2,h3⟩:=h;exact⟨h1.symm,by rw[<-h2,<-h3]⟩
def ZD(P:aj)(ng:List Nat)(nt n0:Nat)(ro:Option Nat)(c:bG)(x:X)(R:ak.Fr)(W:AW)(R':ak.Fr)(W':AW):Prop:=
 ∀(σ:dj) (a:ba) (w:au) (Q:dh->ba->au->Prop),bt σ W w.heap->vH σ ng->eG nt σ R a.tmps->pR n0 σ w a.defers->n0<=w.heap.size->
  (∀σ' a' w',eG nt σ' R' a'.tmps->pR n0 σ' w' a'.defers->bt σ' W' w'.heap->eW σ W w σ' W' w'->Q x.to a' w')->c.wpIn (FE ro) 0 P Q a w
def O4{x:X}(hx:x≠ .normal){N:ba->au->Prop}{Q:dh->ba->au->Prop}{a:ba}{w:au}(h:Q x.to a w):Exit.then N Q x.to a w:=by
 cases x with
 |normal=>exact absurd rfl hx
 |exit id=>exact h
 |ret=>exact h
def Kx{x:X}{id:Nat}{Q:dh->ba->au->Prop}{a:ba}{w:au}(h:(match x with|.exit i=>if i=id then Q .normal a w else Q (.exit i) a w|x=>Q x.to a w)):Exit.inBlock id Q x.to a w:=by
 cases x with
 |normal=>exact h
 |exit i=>exact h
 |ret=>exact h
def Tb{ng:List Nat}{nt n0:Nat}{ro:Option Nat}{b:bG}{body:ak.Fr->AW->Option (X×ak.Fr×AW)}(hb:∀x R W R' W',body R W=some (x,R',W')->ZD P ng nt n0 ro b x R W R' W'):
 ∀(m:Nat) (x:X) (R:ak.Fr) (W:AW) (R':ak.Fr) (W':AW),jo body m R W=some (x,R',W')->x≠ .normal/\∀(σ:dj) (a:ba) (w:au) (Q:dh->ba->au->Prop),bt σ W w.heap->vH σ ng->eG nt σ R a.tmps->pR n0 σ w a.defers->n0<=w.heap.size->
  (∀σ' a' w',eG nt σ' R' a'.tmps->pR n0 σ' w' a'.defers->bt σ' W' w'.heap->eW σ W w σ' W' w'->Q x.to a' w')->Code.roundsIn (FE ro) 0 P b Q m a w:=by
 intro m;induction m with
 |zero=>intro x R W R' W' h;cases h
 |succ m ih=>
  intro x R W R' W' h;unfold jo at h;split at h
  ·rename_i R1 W1 h1;obtain⟨hx,aiP⟩:=ih x R1 W1 R' W' h;refine⟨hx,λσ a w Q hW hG hR hM hn hQ=>?_⟩;refine hb _ _ _ _ _ h1 σ a w _ hW hG hR hM hn λσ1 a1 w1 k1 k2 k3 k4=>?_
   exact aiP σ1 a1 w1 Q k3 (hG.mono k4.sub) k1 k2 (gQ hn k4.size) λσ2 a2 w2 g1 g2 g3 g4=>hQ σ2 a2 w2 g1 g2 g3 (k4.trans g4)
  ·rename_i fk;have hx:x≠ .normal:=by rintro rfl;exact fk R' W' h
   refine⟨hx,λσ a w Q hW hG hR hM hn hQ=>?_⟩;exact hb _ _ _ _ _ h σ a w _ hW hG hR hM hn λσ1 a1 w1 k1 k2 k3 k4=>O4 hx (hQ σ1 a1 w1 k1 k2 k3 k4)
def tC(hm:P.follows .mixedOrders=true){ng:List Nat}{nt n0:Nat}(Pf:ng=ak.ng){call:Callee}(hc:cw P ng call){top:Bool}{ro:Option Nat}(pM:top=true->ro=none):
 ∀(c:bG),iC nt ng c=true->∀(x:X) (R:ak.Fr) (W:AW) (R':ak.Fr) (W':AW),cu P call top nt c R W=some (x,R',W')->ZD P ng nt n0 ro c x R W R' W':=by
 intro c;induction c with
 |skip=>intro _ x R W R' W' h σ a w Q hW hG hR hM hn hQ;injection h with h;injection h with h1 h2;injection h2 with h2 h3;subst h1;subst h2;subst h3;exact wpIn_skip (hQ σ a w hR hM hW (.refl _ _ _))
 |label l=>intro _ x R W R' W' h σ a w Q hW hG hR hM hn hQ;injection h with h;injection h with h1 h2;injection h2 with h2 h3;subst h1;subst h2;subst h3;exact wpIn_label (hQ σ a w hR hM hW (.refl _ _ _))
 |exit id=>intro _ x R W R' W' h σ a w Q hW hG hR hM hn hQ;injection h with h;injection h with h1 h2;injection h2 with h2 h3;subst h1;subst h2;subst h3;exact wpIn_exit (hQ σ a w hR hM hW (.refl _ _ _))
 |ret=>intro _ x R W R' W' h σ a w Q hW hG hR hM hn hQ;injection h with h;injection h with h1 h2;injection h2 with h2 h3;subst h1;subst h2;subst h3;exact wpIn_ret (hQ σ a w hR hM hW (.refl _ _ _))
 |goto l=>intro _ x R W R' W' h;cases h
 |scope b _=>intro _ x R W R' W' h;cases h
 |refuse s=>intro _ x R W R' W' h;cases h
 |region id ops zL=>
  intro jq x R W R' W' h σ a w Q hW hG hR hM hn hQ;simp only[iC,bK,mV,tD]at jq;have JT:∀(i:Nat) (o:ao),ops[i]? =some o->kL nt ng o=true:=λi o ho=>cM.1 jq.1 o (by have:=Array.mem_of_getElem? ho;simpa using this)
  unfold cu at h;split at h
  ·obtain⟨hx,hy⟩:=vZ h;subst hx;refine wpIn_region (aa1 hc JT (List.range ops.size) σ R W a w (by simp) hW hG hR (by rw[FH];exact hy) λσ' a' w' k1 k2 k3 k4=>?_);exact hQ σ' a' w' k1 (by rw[k2];exact hM.ext k4) k3 k4
  ·have oa:Hh ops (Tz ops (ak.D id ops))=true:=jq.2.resolve_left (by simp);split at h
   ·rename_i hD;obtain⟨hx,hy⟩:=vZ h;subst hx;rw[hD]at oa;refine IA hm hc jq.1 oa hW hG hR (Rf:=R') (Wf:=W') ?_ λσ' a' w' k1 k2 k3 k4=>hQ σ' a' w' k1 (by rw[k2];exact hM.ext k4) k3 k4
    show jv P call ops ((List.range ops.size).map λi=>(i,[])) R W=_;rw[Mk _ _ _ (by simp),FH];exact hy
   ·rename_i pl hD;obtain⟨hx,hy⟩:=vZ h;subst hx;rw[hD]at oa;exact IA hm hc jq.1 oa hW hG hR hy λσ' a' w' k1 k2 k3 k4=>hQ σ' a' w' k1 (by rw[k2];exact hM.ext k4) k3 k4
 |seq b c La ihc=>
  intro jq x R W R' W' h σ a w Q hW hG hR hM hn hQ;simp only[iC,bK]at jq;unfold cu at h;split at h
  ·rename_i R1 W1 h1;refine wpIn_seq (La jq.1 _ _ _ _ _ h1 σ a w _ hW hG hR hM hn λσ1 a1 w1 k1 k2 k3 k4=>?_);exact ihc jq.2 _ _ _ _ _ h σ1 a1 w1 Q k3 (hG.mono k4.sub) k1 k2 (gQ hn k4.size) λσ2 a2 w2 g1 g2 g3 g4=>hQ σ2 a2 w2 g1 g2 g3 (k4.trans g4)
  ·rename_i fk;have hx:x≠ .normal:=by rintro rfl;exact fk R' W' h
   exact wpIn_seq (La jq.1 _ _ _ _ _ h σ a w _ hW hG hR hM hn λσ1 a1 w1 k1 k2 k3 k4=>O4 hx (hQ σ1 a1 w1 k1 k2 k3 k4))
 |cond o b c La ihc=>
  intro jq x R W R' W' h σ a w Q hW hG hR hM hn hQ;simp only[iC,bK]at jq;obtain⟨⟨h1,h2⟩,h3⟩:=jq;have hv:=F9 hR hG h1;unfold cu at h;split at h
  ·rename_i he;rw[he]at hv;exact wpIn_cond_true hv.io (La h2 _ _ _ _ _ h σ a w Q hW hG hR hM hn hQ)
  ·rename_i he;rw[he]at hv;exact wpIn_cond_false hv.io (ihc h3 _ _ _ _ _ h σ a w Q hW hG hR hM hn hQ)
  ·cases h
 |block id b ih=>
  intro jq x R W R' W' h σ a w Q hW hG hR hM hn hQ;simp only[iC]at jq;unfold cu at h;split at h
  ·rename_i i R1 W1 h1;refine wpIn_block (ih jq _ _ _ _ _ h1 σ a w _ hW hG hR hM hn λσ1 a1 w1 k1 k2 k3 k4=>Kx ?_);simp only;split at h
   ·rename_i hi;injection h with h;injection h with e1 e2;injection e2 with e2 e3;subst e1;subst e2;subst e3;rw[ax hi];exact hQ σ1 a1 w1 k1 k2 k3 k4
   ·rename_i hi;injection h with h;injection h with e1 e2;injection e2 with e2 e3;subst e1;subst e2;subst e3;rw[ay hi];exact hQ σ1 a1 w1 k1 k2 k3 k4
  ·rename_i fk;refine wpIn_block (ih jq _ _ _ _ _ h σ a w _ hW hG hR hM hn λσ1 a1 w1 k1 k2 k3 k4=>Kx ?_);cases x with
   |normal=>exact hQ σ1 a1 w1 k1 k2 k3 k4
   |exit i=>exact absurd h (fk i R' W')
   |ret=>exact hQ σ1 a1 w1 k1 k2 k3 k4
 |loop b ih=>intro jq x R W R' W' h σ a w Q hW hG hR hM hn hQ;simp only[iC]at jq;unfold cu at h;exact wpIn_loop_rounds _ ((Tb (λx R W R' W' hh=>ih jq x R W R' W' hh) _ x R W R' W' h).2 σ a w Q hW hG hR hM hn hQ)
 |rangeFunc f ps asC bd _ _=>
  intro jq x R W R' W' h σ a w Q hW hG hR hM hn hQ;simp only[iC,bK]at jq;obtain⟨⟨⟨h1,h2⟩,h3⟩,h4⟩:=jq;unfold cu at h;split at h
  ·cases h
  have Kv:ro=none:=pM rfl;subst Kv;split at h;case h_2=>cases h
  rename_i i0 fs0 cs0 hf0;rw[AW.dG]at h;split at h;case h_2=>cases h
  rename_i u W2 agv;split at h;case h_2=>cases h
  rename_i st mJ R9 O2 O9 NQ NI fj;obtain⟨p1,p2⟩:=hW.push (.deferred (some [])) (λ_ _ _ e=>by cases e);let w0:au:={w with heap:=w.heap.push (.deferred (some []))};let GU:Nat->Loop:=λfn=>{state:=.ready,pending:=none,fn,tmps:=a.tmps,params:=ps,assign:=asC,body:=bd,defers:=w.heap.size}
  refine wpIn_rangeFunc λfn _=>?_
  have I7:Sub σ (cq σ W.next ⟨w0.heap.size,0,1⟩):=dD hW.fresh;obtain⟨q1,q2⟩:=bt.alloc (w:=w0) p1 (o:=.loop .ready none R nt ps asC bd) (x:=.loop (GU fn)) (e:=1)
   ⟨rfl,rfl,GU fn,by simp,rfl,rfl,hR.mono I7,rfl,rfl,rfl,⟨by rw[<-Pf];exact hG.mono I7,by rw[<-Pf];exact h3⟩,⟨by rw[<-Pf];exact hG.mono I7,by rw[<-Pf];exact h4⟩,h2⟩
  have hfv:=(F9 hR hG h1).mono I7;rw[hf0]at hfv;have db:LR (cq σ W.next ⟨w0.heap.size,0,1⟩) [.func (.yield W.next) #[] #[]] [.func (.yield w0.heap.size) #[] #[]]:=
   .cons (.func _ _ _ _ _ _ (.yield _ _ dy) rfl (λi v v' x=>by simp at x) rfl (λi v v' x=>by simp at x)) .nil
  have ZG:=hc _ _ _ _ _ agv _ {w0 with heap:=w0.heap.push (.loop (GU fn))} _ _ q1 (hG.mono I7) hfv db;have amH:w0.heap.size=w.heap.size+1:=by simp[w0]
  have aaH:pR n0 (cq σ W.next ⟨w0.heap.size,0,1⟩) {w0 with heap:=w0.heap.push (.loop (GU fn))} ([{target:=.collected w.heap.size,args:=#[]}]++a.defers):=by
   refine⟨⟨w.heap.size,rfl,hn,?_,?_,?_⟩,(hM.ext p2).ext q2⟩
   ·show(w0.heap.push _)[w.heap.size]? =_;rw[ss,b8];simp[w0]
   ·intro b g hg e;unfold cq at hg;split at hg
    ·injection hg with hg;subst hg;simp at e;omega
    ·have:=(hW.pd b g hg).2;omega
   ·intro d' ie r' ht e;have:∀{ds:List dM},pR n0 σ w ds->∀d'∈ds,∀r',d'.target=.collected r'->r'<w.heap.size:=by
     intro ds;induction ds with
     |nil=>intro _ d' ie;cases ie
     |cons d ds ih=>
      rintro⟨⟨r,e1,e2,e3,_⟩,Xj⟩ d' ie r' ht;rcases dz.1 ie with rfl|ie
      ·rw[e1]at ht;injection ht with ht;subst ht;exact(dW.1 e3).1
      ·exact ih Xj d' ie r' ht
    have:=this hM d' ie r' ht;omega
  unfold vM at ZG;split at ZG;case h_3=>exact ZG.elim
  ·rename_i fv i fs cs wB;obtain⟨c1,c2⟩:=ZG;refine⟨w0.heap.size,[{target:=.collected w.heap.size,args:=#[]}],{w0 with heap:=w0.heap.push (.loop (GU fn))},{target:=.fn (.func i) cs,args:=fs++#[.func (.yield w0.heap.size) #[] #[]]},{w0 with heap:=w0.heap.push (.loop (GU fn))},i,fs++#[.func (.yield w0.heap.size) #[] #[]]++cs,{w0 with heap:=w0.heap.push (.loop (GU fn))},?_,?_,λ_ _=>trivial,?_,λhd=>by rw[DL]at hd;simp at hd,?_⟩
   ·show(Instr.enterLoop fn a.tmps ps asC bd none).run P w=_;rw[run_enterLoop_outer,amH];rfl
   ·show(resolve a.eval (rangeCall f w0.heap.size) 0).run P _=.ok _ {w0 with heap:=w0.heap.push (.loop (GU fn))};have:a.eval f=.func (.func i) fs cs:=wB;have amY:a.eval (.const (.func (.yield w0.heap.size) #[] #[]))=.func (.yield w0.heap.size) #[] #[]:=rfl;simp[resolve,this,Deferred.ofValue,amY]
   ·show(invoke (.fn (.func i) cs) (fs++#[.func (.yield w0.heap.size) #[] #[]])).run P _=_;have c1':(callFunc i (fs++#[.func (.yield w0.heap.size) #[] #[]]++cs)).run P {w0 with heap:=w0.heap.push (.loop (GU fn))}=_:=c1;simpa[invoke]using c1'
   ·refine nK (CF c2) ?_;rintro e w' ⟨v',rfl,σ',k1,k2,k3⟩;obtain⟨hz,hzz⟩:σ' W.next=some ⟨w0.heap.size,0,1⟩/\True:=⟨k3.sub _ _ dy,aA⟩;obtain⟨_,_,r,r1,r2,r3,r4,r5,r6,r7,r8,r9,bw⟩:=k2.obj _ _ _ fj hz;have aly:st≠ .busy:=by rintro rfl;simp at h
    have alS:=run_endLoop (P:=P) r1 (by rw[r2];exact aly);obtain⟨s1,s2⟩:=k2.setObj (w:=w') (o':=.loop .exhausted mJ R9 O2 O9 NQ NI) (x:=.loop {r with state:=.exhausted}) fj (λ_=>by simp) hz ⟨rfl,rfl⟩ (λc t fr e=>by rw[r1]at e;cases e)
     ⟨rfl,rfl,{r with state:=.exhausted},by simp[(k2.pd _ _ hz).2],rfl,r3,r4,r5,r6,r7,r8,r9,bw⟩
    obtain⟨t1,t2⟩:=bt.kill (w:={w' with heap:=w'.heap.setIfInBounds w0.heap.size (.loop {r with state:=.exhausted})}) s1 (b:=W.next) (g0:=⟨w0.heap.size,0,1⟩) (λcs=>by rw[AW.bz];simp) hz;have aeY:(W2.put W.next (.loop .exhausted mJ R9 O2 O9 NQ NI)).kill W.next=W2.kill W.next:=by simp only[AW.kill,AW.put];congr 1;exact T.set_set _ _ _ _
    rw[aeY]at t1 t2;have Kw:eW σ W w σ' (W2.kill W.next) {w' with heap:=w'.heap.setIfInBounds w0.heap.size (.loop {r with state:=.exhausted})}:=
     (((p2.trans q2).trans k3).trans s2).trans t2
    have adt:pR n0 σ' {w' with heap:=w'.heap.setIfInBounds w0.heap.size (.loop {r with state:=.exhausted})} ([{target:=.collected w.heap.size,args:=#[]}]++a.defers):=
     ((aaH.ext k3).ext s2).ext t2
    refine⟨mJ,{w' with heap:=w'.heap.setIfInBounds w0.heap.size (.loop {r with state:=.exhausted})},by rw[alS,r3];rfl,?_⟩;have fin:∀x',x=x'->R'=R->W'=W2.kill W.next->Q x'.to {a with defers:=[{target:=.collected w.heap.size,args:=#[]}]++a.defers} {w' with heap:=w'.heap.setIfInBounds w0.heap.size (.loop {r with state:=.exhausted})}:=by rintro x' rfl rfl rfl;exact hQ σ' _ _ (hR.mono Kw.sub) adt t1 Kw
    cases mJ with
    |none=>
     have:x=.normal/\R'=R/\W'=W2.kill W.next:=by cases st<;>simp at h<;>simp_all
     exact fin .normal this.1 this.2.1 this.2.2
    |some cc=>
     cases cc<;>first
      |(exfalso;cases st<;>simp at h;done)
      |skip
     ·rename_i id;have:x=.exit id/\R'=R/\W'=W2.kill W.next:=by cases st<;>simp at h<;>simp_all
      exact wpIn_exit (fin (.exit id) this.1 this.2.1 this.2.2)
     ·have:x=.ret/\R'=R/\W'=W2.kill W.next:=by cases st<;>simp at h<;>simp_all
      exact wpIn_ret (fin .ret this.1 this.2.1 this.2.2)
  ·rename_i fv l fs cs wB;exfalso;obtain⟨Fa,tW,cP,k1,_,_,k4⟩:=hfv.kB;cases k1;rw[wB]at k4;cases k4
end
end
section
variable [ak]
def dp:Nat->List ae->ak.Fr->ak.Fr
 |_,[],R=>R
 |k,v::l,R=>dp (k+1) l (I9 R k v)
def nl:List Tmp->List ae->ak.Fr->ak.Fr
 |t::ts,v::l,R=>nl ts l (I9 R t v)
 |_,_,R=>R
def E7(P:aj)(W:AW)(R:ak.Fr):List ResultVar->Option (List ae)
 |[]=>some []
 |.tmp t::l=>match E7 P W R l with
  |some vs=>some (dg R t::vs)
  |none=>none
 |.cell a t::l=>match ja P W t (dg R a)with
  |some v=>match E7 P W R l with
   |some vs=>some (v::vs)
   |none=>none
  |none=>none
def qL(P:aj)(W:AW)(R:ak.Fr)(rs:Array ResultVar):Option ae:=
 match E7 P W R rs.toList with
 |some [v]=>some v
 |some vs=>some (.tuple vs.toArray)
 |none=>none
def Fs(nt:Nat):ResultVar->Bool
 |.tmp t=>Nat.blt t nt
 |.cell a _=>Nat.blt a nt
def O1(ng:List Nat)(fn:fD):Bool:=
 match fn.body with
 |some c=>iC fn.ntmps ng c&&fn.results.toList.all (Fs fn.ntmps)&& !(fn.name== "runtime.NumGoroutine")
 |none=>true
def lG(ng:List Nat)(bad:List Nat):Nat->List fD->Bool
 |_,[]=>true
 |i,fn::l=>(Jh i bad||O1 ng fn)&&lG ng bad (i+1) l
def jS(P:aj)(bad:List Nat)(spec call:Callee):Callee:=λf args W=>
 match f with
 |.func (.func i) fs cs=>match Jh i bad with
  |true=>spec (.func (.func i) fs cs) args W
  |false=>match P.funcs[i]? with
   |some fn=>match fn.body with
    |some c=>match Nat.ble (fs.toList.length+(args.length+cs.toList.length)) fn.ntmps with
     |true=>match cu P call true fn.ntmps c (dp 0 (fs.toList++(args++cs.toList)) ak.blank) W with
      |some (x,R,W')=>match x with
       |.exit _=>none
       |_=>match qL P W' R fn.results with
        |some v=>some (v,W')
        |none=>none
      |none=>none
     |false=>none
    |none=>none
   |none=>none
 |.func (.yield l) fs _=>match W.get l with
  |some (.loop .ready none R nt ps asC bd)=>match Nat.beq (fs.toList.length+args.length) ps.size with
   |true=>match cu P call false nt asC (nl ps.toList (fs.toList++args) R) W with
    |some (.normal,R1,W1)=>match W1.get l with
     |some (.loop .ready SI R9 O2 O9 NQ NI)=>match cu P call false nt bd R1 (W1.put l (.loop .busy SI R9 O2 O9 NQ NI))with
      |some (x,_,W2)=>match W2.get l with
       |some (.loop _ _ R8 XL Yk X3 XX)=>match x with
        |.normal=>some (.bool true,W2.put l (.loop .ready none R8 XL Yk X3 XX))
        |x=>some (.bool false,W2.put l (.loop .done x.jump R8 XL Yk X3 XX))
       |_=>none
      |none=>none
     |_=>none
    |_=>none
   |false=>none
  |_=>none
 |_=>none
def LC(P:aj)(bad:List Nat)(spec:Callee):Nat->Callee
 |0=>λ_ _ _=>none
 |n+1=>jS P bad spec (LC P bad spec n)
def L1{ng:List Nat}{bad:List Nat}:∀(l:List fD) (k:Nat),lG ng bad k l=true->∀(i:Nat) (fn:fD),l[i]? =some fn->Jh (k+i) bad=false->O1 ng fn=true:=by
 intro l;induction l with
 |nil=>intro k _ i fn h;simp at h
 |cons f l ih=>
  intro k h i fn hi hb;simp only[lG,bK,mV]at h;cases i with
  |zero=>
   simp at hi;subst hi;rcases h.1 with h1|h1
   ·simp at hb;rw[h1]at hb;cases hb
   ·exact h1
  |succ i=>simp at hi;exact ih (k+1) h.2 i fn hi (by rw[<-hb];congr 1;omega)
def XT(t:Nat):dg ak.blank t=ag:=ak.zB t
def Q2:∀(l:List ae) (k:Nat) (R:ak.Fr) (t:Nat),dg (dp k l R) t=if k<=t/\t<k+l.length then l.getD (t-k) ag else dg R t:=by
 intro l;induction l with
 |nil=>intro k R t;simp[dp];intro h1 h2;omega
 |cons v l ih=>
  intro k R t;simp only[dp,ih,dE];by_cases h:k=t
  ·subst h;rw[b8,ou,uU];simp
  ·rw[sC _ _ h];by_cases h2:k+1<=t/\t<k+1+l.length
   ·rw[ax h2,ou];obtain⟨j,hj⟩:∃j,t-k=j+1:=⟨t-k-1,by omega⟩;have:t-(k+1)=j:=by omega
    rw[this,hj];simp
   ·rw[ay h2,b8]
section
variable {P:aj} {σ:dj} {W:AW} {w:au}
def TN{nt:Nat}{l:List ae}{a:Array ae}(h:LR σ l a.toList)(hn:l.length<=nt):eG nt σ (dp 0 l ak.blank) (a++Array.replicate (nt-a.size) ag):=by
 have eA:l.length=a.size:=by have:=h.1;simpa using this
 refine⟨by simp;omega,λt ht=>?_⟩;rw[Q2];by_cases gZ:t<l.length
 ·rw[ou];have h1:l[t]? =some l[t]:=cL gZ;obtain⟨v',e,hv⟩:=h.get h1;have e1:l.getD (t-0) ag=l[t]:=by simp[gZ]
  have e2:(a++Array.replicate (nt-a.size) ag).getD t ag=v':=by
   rw[ug]at e;have:t<a.size:=by omega
   simp[yb,this];rw[g9 this]at e;injection e
  rw[e1,e2];exact hv
 ·rw[b8,XT];have e2:(a++Array.replicate (nt-a.size) ag).getD t ag=ag:=by simp only[uo,yb];rw[b8];simp[Array.getElem?_replicate];split<;>rfl
  rw[e2];exact .undef
def YL{nt:Nat}:∀(ts:List Tmp) (l l':List ae) (R:ak.Fr) (tm:Array ae),LR σ l l'->ts.all (λt=>Nat.blt t nt)=true->eG nt σ R tm->
 eG nt σ (nl ts l R) ((ts.zip l').foldl (λtmps (x:Tmp×ae)=>tmps.setIfInBounds x.1 x.2) tm):=by
 intro ts;induction ts with
 |nil=>intro l l' R tm h _ hR;cases l<;>exact hR
 |cons t ts ih=>
  intro l l' R tm h ha hR;cases l with
  |nil=>have:=h.of_nil;subst this;exact hR
  |cons v l=>obtain⟨v',XS,rfl,hv,hl⟩:=h.of_cons;simp only[fa,bK]at ha;exact ih l XS _ _ hl ha.2 (hR.set t hv)
def Jt(hW:bt σ W w.heap){t:ai}{x x' v:ae}(h:ja P W t x=some v)(hx:VR σ x x'):
 ∃v',(do loadVar t (<-asAddr x'):Sem ae).run P w=.ok v' w/\VR σ v v':=by
 obtain⟨v',h1,h2⟩:=FV hW h hx;refine⟨v',?_,h2⟩;rw[<-h1];unfold ja at h;split at h
 ·obtain⟨g,hg,hs,rfl⟩:=hx.yj;simp[asAddr,Instr.loadAt,Instr.sureAddr]
 ·cases h
def Gz(tmps:Array ae)(r:ResultVar):Sem ae:=
 match r with
 |.tmp t=>pure (tmps.getD t ag)
 |.cell a t=>do loadVar t (<-asAddr (tmps.getD a ag))
def LN(fn:fD)(tmps:Array ae):results fn tmps=(do let vs<-fn.results.mapM (Gz tmps);pure (if h:vs.size=1 then vs[0]else .tuple vs)):=rfl
def Tq(hW:bt σ W w.heap){nt:Nat}{R:ak.Fr}{tmps:Array ae}(hR:eG nt σ R tmps):∀(rs:List ResultVar) (vs:List ae),rs.all (Fs nt)=true->E7 P W R rs=some vs->
 ∃C3,LR σ vs C3/\(rs.mapM (Gz tmps)).run P w=.ok C3 w:=by
 intro rs;induction rs with
 |nil=>intro vs _ h;injection h with h;subst h;exact⟨[],.nil,by simp⟩
 |cons r rs ih=>
  intro vs jq h;simp only[fa,bK]at jq;cases r with
  |tmp t=>
   unfold E7 at h;split at h
   ·rename_i vs0 h0;injection h with h;subst h;obtain⟨C3,k1,k2⟩:=ih vs0 jq.2 h0;refine⟨_,.cons (hR.2 t (by simpa[Fs,jM]using jq.1)) k1,?_⟩;have h1:(Gz tmps (.tmp t)).run P w=.ok (tmps.getD t ag) w:=rfl;rw[List.mapM_cons,cJ,h1,cF,cJ,k2,cF];rfl
   ·cases h
  |cell a t=>
   unfold E7 at h;split at h
   ·rename_i v hv;split at h
    ·rename_i vs0 h0;injection h with h;subst h;obtain⟨C3,k1,k2⟩:=ih vs0 jq.2 h0;obtain⟨v',k3,k4⟩:=Jt hW hv (hR.2 a (by simpa[Fs,jM]using jq.1));refine⟨_,.cons k4 k1,?_⟩;have h1:(Gz tmps (.cell a t)).run P w=.ok v' w:=k3;rw[List.mapM_cons,cJ,h1,cF,cJ,k2,cF];rfl
    ·cases h
   ·cases h
def Hw(hW:bt σ W w.heap){fn:fD}{R:ak.Fr}{tmps:Array ae}{v:ae}(jq:fn.results.toList.all (Fs fn.ntmps)=true)(hR:eG fn.ntmps σ R tmps)(h:qL P W R fn.results=some v):
 ∃v',(results fn tmps).run P w=.ok v' w/\VR σ v v':=by
 unfold qL at h;have key:∀vs,E7 P W R fn.results.toList=some vs->∃C3,LR σ vs C3/\(results fn tmps).run P w=.ok (if h:C3.toArray.size=1 then C3.toArray[0]else .tuple C3.toArray) w:=by intro vs hvs;obtain⟨C3,k1,k2⟩:=Tq hW hR _ _ jq hvs;refine⟨C3,k1,?_⟩;rw[LN,cJ,Array.mapM_eq_mapM_toList,Sem.run_map,k2];rfl
 split at h
 ·rename_i u hu;injection h with h;subst h;obtain⟨C3,k1,k2⟩:=key _ hu;obtain⟨v',l',rfl,k3,k4⟩:=k1.of_cons;have:=k4.of_nil;subst this;exact⟨v',by rw[k2];simp,k3⟩
 ·rename_i vs fk hvs;injection h with h;subst h;obtain⟨C3,k1,k2⟩:=key _ hvs;refine⟨.tuple C3.toArray,?_,VR.tuple' (by simpa using k1)⟩;rw[k2];have:C3.toArray.size≠1:=by
   intro e;have e2:vs.length=1:=by have:=k1.1;simp at e;omega
   match vs,e2 with
   |[u],_=>exact fk u rfl
  rw[dif_neg this]
 ·cases h
end
section
variable {P:aj} {σ σ0:dj} {W W0:AW} {w w0:au}
def eW.other(he:eW σ0 W0 w0 σ W w){r:Nat}(hr:w0.heap.size<=r){x y:Obj}(hy:w.heap[r]? =some y)(hx:∀c t fr,x≠ .cells c t fr)(hy':∀c t fr,y≠ .cells c t fr):eW σ0 W0 w0 σ W (w.putObj r x):=
 ⟨he.sub,he.ro,by simpa[World.putObj]using he.size,he.os,he.tape,he.output,λB hB hm=>by rw[World.putObj_heap_other (by omega)];exact he.dq B hB hm,he.ghost,he.grow⟩
def abR{fn:fD}{R:ak.Fr}{tmps:Array ae}{v:ae}(jq:fn.results.toList.all (Fs fn.ntmps)=true)(hR:eG fn.ntmps σ R tmps)(h:qL P W R fn.results=some v):
 ∀(ds:List dM) (w:au),pR w0.heap.size σ w ds->bt σ W w.heap->eW σ0 W0 w0 σ W w->
  LeavesInM (FE none) 0 P fn tmps (λe w'=>∃v',e=.returned v'/\∃σ',VR σ' v v'/\bt σ' W w'.heap/\eW σ0 W0 w0 σ' W w') ds .returning w:=by
 intro ds;induction ds with
 |nil=>intro w _ hW he;obtain⟨v',k1,k2⟩:=Hw hW jq hR h;exact⟨v',k1,v',rfl,σ,k2,hW,he⟩
 |cons d ds ih=>
  rintro w ⟨⟨r,e1,e2,e3,e4,e5⟩,Xj⟩ hW he;refine⟨by simp,.inl ⟨r,w.putObj r (.deferred none),by rw[e1],run_takeDeferred e3,ih _ ?_ (hW.other e4 _) (he.other e2 e3 (λ_ _ _ e=>by cases e) (λ_ _ _ e=>by cases e))⟩⟩;have:∀{ds:List dM},(∀d'∈ds,∀r',d'.target=.collected r'->r'≠r)->pR w0.heap.size σ w ds->pR w0.heap.size σ (w.putObj r (.deferred none)) ds:=by
   intro ds;induction ds with
   |nil=>intro _ _;trivial
   |cons d ds ih=>rintro fk ⟨⟨r',a1,a2,a3,a4,a5⟩,Xj⟩;exact⟨⟨r',a1,a2,by rw[World.putObj_heap_other (fk d (by simp) r' (by rw[a1]))];exact a3,a4,a5⟩,ih (λd' ie=>fk d' (by simp[ie])) Xj⟩
  exact this e5 Xj
end
end
section
variable [ak]
def Lm(l:Nat):(FE none).inRound l=FE (some l):=rfl
def fg{P:aj}{f:hZ}{fn:fD}{c:bG}(hf:P.funcs[f]? =some fn)(qR:(fn.name== "runtime.NumGoroutine")=false)(hb:fn.body=some c)(args:Array ae)(w:au):
 (callFunc f args).run P w=.ok (.enter f args) w:=by
 have h1:fn.name≠ "runtime.NumGoroutine" :=by simpa using qR
 simp[callFunc,hf,h1,hb]
def Ay{P:aj}(hm:P.follows .mixedOrders=true){ng:List Nat}(Pf:ng=ak.ng){bad:List Nat}(hP:lG ng bad 0 P.funcs.toList=true){spec:Callee}(hs:cw P ng spec){call:Callee}(ih:cw P ng call):
 cw P ng (jS P bad spec call):=by
 intro f args W v W' h σ w f' dw hW hG hf db
 unfold jS at h
 split at h
 ·
  rename_i i fs cs;split at h
  ·exact hs _ _ _ _ _ h σ w f' dw hW hG hf db
  rename_i alw;split at h;case h_2=>cases h
  rename_i fn Ki;split at h;case h_2=>cases h
  rename_i c Un;split at h;case h_2=>cases h
  rename_i eA;split at h;case h_2=>cases h
  rename_i x R W1 ait;have Y8:O1 ng fn=true:=L1 _ _ hP i fn (by rw[ug];exact Ki) (by simpa using alw);unfold O1 at Y8;rw[Un]at Y8;simp only[bK,tD]at Y8;obtain⟨⟨hco,anh⟩,qR⟩:=Y8;obtain⟨Fa,tW,cP,Eu,Et,pw,rfl⟩:=hf.kB;cases Eu;have hx:(∀id,x≠ .exit id)/\∃v0,qL P W1 R fn.results=some v0/\v0=v/\W1=W':=by
   cases x with
   |exit id=>cases h
   |normal=>
    refine⟨λid e=>X.noConfusion e,?_⟩;simp only at h;split at h
    ·rename_i v0 SF;injection h with h;injection h with h1 h2;exact⟨v0,SF,h1,h2⟩
    ·cases h
   |ret=>
    refine⟨λid e=>X.noConfusion e,?_⟩;simp only at h;split at h
    ·rename_i v0 SF;injection h with h;injection h with h1 h2;exact⟨v0,SF,h1,h2⟩
    ·cases h
  obtain⟨Ym,v0,SF,rfl,rfl⟩:=hx;have th:LR σ (fs.toList++(args++cs.toList)) (tW++dw.toArray++cP).toList:=by have h1:=(Et.append (db.append pw));simpa[jQ]using h1
  have afa:(fs.toList++(args++cs.toList)).length<=fn.ntmps:=by have:=Nat.le_of_ble_eq_true eA;simpa using this
  refine⟨fg Ki qR Un _ w,?_⟩;refine callsIn_of_wp_marks Ki Un trivial ?_;refine tC hm Pf ih (n0:=w.heap.size) (λ_=>rfl) c hco x _ _ _ _ ait σ _ w _ hW hG (TN th afa) trivial (aP _) λσ' a' w' k1 k2 k3 k4=>?_
  have hl:=abR anh k1 SF a'.defers w' k2 k3 k4;cases x with
  |exit id=>exact absurd rfl (Ym id)
  |normal=>exact hl
  |ret=>exact hl
 ·
  rename_i l fs cs;split at h;case h_2=>cases h
  rename_i R nt ps asC bd fj;split at h;case h_2=>cases h
  rename_i eA;split at h;case h_2=>cases h
  rename_i R1 W1 abB;split at h;case h_2=>cases h
  rename_i SI R9 O2 O9 NQ NI aay;split at h;case h_2=>cases h
  rename_i x R2 W2 ady;split at h;case h_2=>cases h
  rename_i st8 pd8 R8 XL Yk X3 XX aaj;obtain⟨Fa,tW,cP,Eu,Et,pw,rfl⟩:=hf.kB;cases Eu with
  |yield _ g hg=>
  obtain⟨g1,g2,r,r1,r2,r3,r4,r5,r6,r7,⟨hG1,hk1⟩,⟨hG2,HB⟩,hps⟩:=hW.obj _ _ _ fj hg;have th:LR σ (fs.toList++args) (tW++dw.toArray).toList:=by have h1:=Et.append db;simpa using h1
  have qD:(tW++dw.toArray).size=r.params.size:=by have h1:=th.1;have h2:fs.toList.length+args.length=ps.size:=uN eA;rw[cK,h2,Array.length_toList]at h1;rw[r5];exact h1.symm
  refine⟨r.fn,_,r.assign,r.body,run_yield r1 qD,?_⟩;rw[r6,r7];refine roundIn_of_wpIn trivial ?_;have hR0:eG nt σ (nl ps.toList (fs.toList++args) R) ((r.params.zip (tW++dw.toArray)).foldl (λtmps (x:Tmp×ae)=>tmps.setIfInBounds x.1 x.2) r.tmps):=by have:=YL ps.toList _ _ R r.tmps th hps r4;rw[r5,<-Array.foldl_toList,Array.toList_zip];exact this
  rw[<-Pf]at hk1 HB;rw[Lm];refine tC hm Pf ih (n0:=w.heap.size) (ro:=some g.B) (λe=>by cases e) asC hk1 .normal _ _ _ _ abB σ _ w _ hW hG hR0 trivial (aP _) λσ1 a1 w1 k1 k2 k3 k4=>?_
  have hg1:σ1 l=some g:=k4.sub _ _ hg;obtain⟨_,_,rr,q1,q2,q3,q4,q5,q6,q7,q8,q9,q10⟩:=k3.obj _ _ _ aay hg1;have afC:g.s=0/\g.e=1:=⟨g1,g2⟩;obtain⟨s1,s2⟩:=k3.setObj (w:=w1) (o':=.loop .busy SI R9 O2 O9 NQ NI) (x:=.loop {rr with state:=.busy}) aay (λ_=>by simp) hg1 afC (λc t fr e=>by rw[q1]at e;cases e)
   ⟨g1,g2,{rr with state:=.busy},by simp[(k3.pd _ _ hg1).2],rfl,q3,q4,q5,q6,q7,q8,q9,q10⟩
  refine⟨_,run_beginRound q1 q2,?_⟩;refine tC hm Pf ih (n0:=w.heap.size) (ro:=some g.B) (λe=>by cases e) bd HB x _ _ _ _ ady σ1 a1 (w1.putObj g.B (.loop {rr with state:=.busy})) _ s1 (hG.mono k4.sub) k1 (k2.ext s2) (by have:=k4.size;simpa using this) λσ2 a2 w2 _ _ t3 t4=>?_
  have K1:σ2 l=some g:=t4.sub _ _ hg1;obtain⟨_,_,r8,u1,u2,u3,u4,u5,u6,u7,u8,u9,u10⟩:=t3.obj _ _ _ aaj K1;have fin:∀(jump:Option bG) (EA:LoopState),EA=(if jump.isNone then .ready else .done)->v=.bool jump.isNone->W'=W2.put l (.loop EA jump R8 XL Yk X3 XX)->
   ∃v' w',(Instr.endRound g.B jump).run P w2=.ok v' w'/\∃v'',Ending.returned v'=.returned v''/\∃σ',VR σ' v v''/\bt σ' W' w'.heap/\eW σ W w σ' W' w':=by
   intro jump EA nS hv hW';subst nS;subst hv;subst hW';obtain⟨z1,z2⟩:=t3.setObj (w:=w2) (o':=.loop (if jump.isNone then .ready else .done) jump R8 XL Yk X3 XX) (x:=.loop {r8 with state:=if jump.isNone then .ready else .done,pending:=jump}) aaj (λ_=>by simp) K1 afC (λc t fr e=>by rw[u1]at e;cases e)
    ⟨g1,g2,{r8 with state:=if jump.isNone then .ready else .done,pending:=jump},by simp[(t3.pd _ _ K1).2],rfl,rfl,u4,u5,u6,u7,u8,u9,u10⟩
   exact⟨_,_,run_endRound jump u1,_,rfl,σ2,.bool _,z1,((k4.trans s2).trans t4).trans z2⟩
  cases x with
  |normal=>simp only at h;injection h with h;injection h with h1 h2;exact fin none .ready rfl h1.symm h2.symm
  |exit id=>simp only at h;injection h with h;injection h with h1 h2;exact fin (some (.exit id)) .done rfl h1.symm h2.symm
  |ret=>simp only at h;injection h with h;injection h with h1 h2;exact fin (some .ret) .done rfl h1.symm h2.symm
 ·cases h
def Fm{P:aj}(hm:P.follows .mixedOrders=true){ng:List Nat}(Pf:ng=ak.ng){bad:List Nat}(hP:lG ng bad 0 P.funcs.toList=true){spec:Callee}(hs:cw P ng spec):
 ∀n,cw P ng (LC P bad spec n)
 |0=>λf args W v W' h=>by cases h
 |n+1=>Ay hm Pf hP hs (Fm hm Pf hP hs n)
end
section
variable [ak]
def j8(P:aj)(ok:Bool)(s:Sem Next):Option ae:=
 if ok then match yv (cI P s)with
  |some v=>if bC v then some v else none
  |none=>none
 else none
def iT(v:ae)(W:AW):Option (ae×AW):=some (v,W)
def bu(c a b:ae)(W:AW):Option (ae×AW):=match c with
 |.bool true=>some (a,W)
 |.bool false=>some (b,W)
 |_=>none
def aY(P:aj)(t:ai)(W:AW):Option (ae×AW):=match kS P t with
 |some z=>some (.pointer (some ⟨W.next,0,none⟩),W.add (mL t z.cells.toList))
 |none=>none
def cD(x:ae)(W:AW):Option (ae×AW):=some (.pointer (some ⟨W.next,0,none⟩),W.add (.cells x.cells.toList))
def acA(P:aj)(t:ai)(vs:List (Nat×ae)):Option ae:=
 match kS P t,P.underlying t with
 |some z,some (.struct fs)=>match qE P fs.toList with
  |some pl=>(AZ (pl.toArray[·]?) z.cells vs).map .agg
  |none=>none
 |some z,some (.array _ e)=>match lX P e with
  |some n=>(AZ (λi=>some (i*n,n)) z.cells vs).map .agg
  |none=>none
 |_,_=>none
def bD(P:aj)(t:ai)(vs:List (Nat×ae))(W:AW):Option (ae×AW):=(acA P t vs).map λv=>(v,W)
def aD(P:aj)(t:ai)(len:Nat)(vs:List (Nat×ae))(W:AW):Option (ae×AW):=
 match P.underlying t with
 |some (.slice e)=>match lX P e,kS P e with
  |some n,some z=>
   if len*n<=16777216/\len<gU/\(Nat.beq z.cells.size n&&z.cells.toList.all cG)=true then
    match AZ (λi=>some (i*n,n)) (Bt z.cells.toList len).toArray vs with
    |some c=>some (Value.slice (some ⟨W.next,0,none⟩) len len,W.add (.cells c.toList))
    |none=>none
   else none
  |_,_=>none
 |_=>none
def iV(P:aj)(t:ai)(a:ae)(W:AW):Option (ae×AW):=(ja P W t a).map λv=>(v,W)
def zb(W:AW)(b off:Nat)(vs:List ae):Option AW:=match W.get b with
 |some (.cells cs)=>(match Cr cs off vs with
  |some l=>some (W.put b (.cells l))
  |none=>none)
 |_=>none
def CZ(W:AW)(b off:Nat)(vs:List ae):zb W b off vs=match W.get b with
 |some (.cells cs)=>if off+vs.length<=cs.length/\vs.all one=true then some (W.put b (.cells (gI cs off vs)))else none
 |_=>none:=by
 unfold zb;split
 ·rename_i cs pw;rw[zY];by_cases h:off+vs.length<=cs.length/\vs.all one=true
  ·rw[ax h,ax h]
  ·rw[ay h,ay h]
 ·rfl
def QR{W W':AW}{b off:Nat}{vs:List ae}(h:zb W b off vs=some W'):nc W b off vs=some W':=by
 unfold zb at h;unfold nc;split at h
 ·rename_i cs pw;rw[pw];exact h
 ·cases h
def yA(P:aj)(W:AW)(t:ai)(x v:ae):Option AW:=
 match x with
 |.pointer (some a)=>match lX P t with
  |some n=>if v.cells.size=n then zb W a.block a.off v.cells.toList else none
  |none=>none
 |_=>none
def LQ{P:aj}{W W':AW}{t:ai}{x v:ae}(h:yA P W t x v=some W'):wA P W t x v=some W':=by
 unfold yA at h;unfold wA;split at h
 ·split at h
  ·rename_i n hn;simp only[hn];split at h
   ·rename_i hc;rw[ax hc];exact QR h
   ·cases h
  ·cases h
 ·cases h
def acI(P:aj)(t:ai)(a x:ae)(W:AW):Option (ae×AW):=(yA P W t a x).map λW'=>(ag,W')
def be(x:ae)(W:AW):Option (ae×AW):=match x with
 |.pointer (some a)=>some (.pointer (some a),W)
 |.func (.func f) a b=>some (.func (.func f) a b,W)
 |.func (.yield l) a b=>some (.func (.yield l) a b,W)
 |.iface t v=>some (.iface t v,W)
 |_=>none
def opd:Bool->aq
 |true=>.const ag
 |false=>.tmp 0
def kM:aq->Bool:=Operand.rec (λ_=>false) (λ_=>true) (λ_=>false) (λ_=>false)
def EI(op:BinOp)(t:ai)(x y:aq)(a b:ae):eqGuard op t x y a b=eqGuard op t (opd (kM x)) (opd (kM y)) a b:=by cases x<;>cases y<;>rfl
def aw(P:aj)(op:BinOp)(t:ai)(a b:Bool)(vx vy:ae)(W:AW):Option (ae×AW):=
 match ot P W op t vx vy with
 |some v=>some (v,W)
 |none=>(j8 P (bC vx&&(bC vy&&true)) (do pure (.value (<-(do eqGuard op t (opd a) (opd b) vx vy;binOp op t vx vy))))).map λv=>(v,W)
def BS(P:aj)(op:UnOp)(x:ae)(W:AW):Option (ae×AW):=
 (j8 P (bC x&&true) (do pure (.value (<-Op.unary op x)))).map λv=>(v,W)
def FT(P:aj)(s d:ai)(x:ae)(W:AW):Option (ae×AW):=
 (Cc P W s d x (j8 P (bC x&&true) (do pure (.value (<-convert s d x))))).map λv=>(v,W)
def VO(P:aj)(t:ai)(x:ae)(W:AW):Option (ae×AW):=match P.underlying t with
 |some (.interface _)=>none
 |some _=>some (.iface t x,W)
 |none=>none
def xN(fn:Fn)(first iQ:Array ae)(W:AW):Option (ae×AW):=match fn with
 |.func f=>some (.func (.func f) first iQ,W)
 |_=>none
def oe(P:aj)(t:ai)(r:Option ae)(W:AW):Option (ae×AW):=match r with
 |none=>some (Value.map (some W.next),W.add (.map [] 0))
 |some h=>match P.underlying t,h with
  |some (.map _ _),.int _ _=>some (Value.map (some W.next),W.add (.map [] 0))
  |_,_=>none
def oR(P:aj)(t:ai)(l c:ae)(W:AW):Option (ae×AW):=
 match P.underlying t with
 |some (.slice e)=>match lX P e,kS P e,(P.info? e).map (·.bytes),l,c with
  |some n,some z,some bytes,.int _ (.ofNat l),.int _ (.ofNat c)=>
   if l<=c/\c<9223372036854775808/\c*bytes<=281474976710656/\(jp z (c*n)).toList.all cG=true then
    some (Value.slice (some ⟨W.next,0,none⟩) l c,W.add (.cells (jp z (c*n)).toList))
   else none
  |_,_,_,_,_=>none
 |_=>none
def fh(P:aj)(t:ai)(x:ae)(lo hi mx:Option ae)(W:AW):Option (ae×AW):=
 match mS P t x lo hi mx with
 |some v=>some (v,W)
 |none=>(j8 P ((x::(lo.toList++(hi.toList++mx.toList))).all bC) (do pure (.value (<-Instr.sliceAt t x lo hi mx)))).map λv=>(v,W)
def Mh(P:aj)(s:ai)(x:ae)(f:Nat)(W:AW):Option (ae×AW):=match P.underlying s,x with
 |some (.struct fs),.pointer (some a)=>match fs[f]? with
  |some fl=>match lX P fl.type with
   |some (_+1)=>some (.pointer (some (a.add fl.offset)),W)
   |_=>none
  |none=>none
 |_,_=>none
def aaU(P:aj)(t:ai)(x:ae)(f:Nat)(W:AW):Option (ae×AW):=match P.underlying t,x with
 |some (.struct fs),.agg cs=>match fs[f]? with
  |some fl=>(xy P fl.type cs fl.offset).map λv=>(v,W)
  |none=>none
 |_,_=>none
def MY(P:aj)(t:ai)(x i:ae)(W:AW):Option (ae×AW):=match P.underlying t,x,lD i with
 |some (.slice e),.slice (some a) len _,some n=>match lX P e with
  |some z=>if n<len then some (.pointer (some (a.add (n*z))),W)else none
  |none=>none
 |some (.array len e),.pointer (some a),some n=>match lX P e with
  |some z=>if n<len then some (.pointer (some (a.add (n*z))),W)else none
  |none=>none
 |_,_,_=>none
def eH(P:aj)(t:ai)(x i:ae)(W:AW):Option (ae×AW):=match P.underlying t,x,lD i with
 |some (.array len e),.agg cs,some n=>match lX P e with
  |some z=>if n<len then(xy P e cs (n*z)).map λv=>(v,W)else none
  |none=>none
 |_,_,_=>(j8 P (bC x&&(bC i&&true)) (do pure (.value (<-Instr.index t x i)))).map λv=>(v,W)
def iG(P:aj)(t:ai)(m k:ae)(ok:Bool)(W:AW):Option (ae×AW):=(ms P W t m k ok).map λv=>(v,W)
def iJ(P:aj)(t:ai)(m k v:ae)(W:AW):Option (ae×AW):=(jI P W t m k v).map λW'=>(ag,W')
def ap(x:ae)(i:Nat)(W:AW):Option (ae×AW):=match x with
 |.tuple vs=>(vs[i]?).map λv=>(v,W)
 |_=>none
def Xv(P:aj)(x:ae)(t:ai)(ok:Bool)(W:AW):Option (ae×AW):=match P.underlying t,x with
 |some (.interface _),_=>none
 |some _,.iface u v=>if u=t then some (if ok then .tuple #[v,.bool true]else v,W)else none
 |_,_=>none
def zu(P:aj)(t:ai)(x:ae)(W:AW):Option (ae×AW):=match P.underlying t,x with
 |some .string,.string s=>some (Value.pointer (some ⟨W.next,0,none⟩),W.add (.mF s 0))
 |_,_=>none
def Wm(it:ae)(W:AW):Option (ae×AW):=match it with
 |.pointer (some ⟨b,0,_⟩)=>match W.get b with
  |some (.mF s pos)=>if pos<s.size then some (.tuple #[.bool true,goInt pos,.int .i32 (Utf8.decode s pos).1],W.put b (.mF s (pos+(Utf8.decode s pos).2)))else some (.tuple #[.bool false],W)
  |_=>none
 |_=>none
def aB(P:aj)(b:Builtin)(ts:Array ai)(ty:ai)(cf:Array Bool)(args:List ae)(W:AW):Option (ae×AW):=
 match b,args with
 |.len,[.slice _ n _]=>match(ts[0]?).bind P.underlying with
  |some (.slice _)=>some (goInt n,W)
  |_=>none
 |.len,[.map none]=>match(ts[0]?).bind P.underlying with
  |some (.map _ _)=>some (goInt 0,W)
  |_=>none
 |.len,[.map (some r)]=>match(ts[0]?).bind P.underlying,W.get r with
  |some (.map _ _),some (.map es _)=>some (goInt es.length,W)
  |_,_=>none
 |.append,[s,x]=>yx P W ts s x
 |.copy,[d,x]=>Oo P W ts d x
 |.clear,[x]=>(HH P W ts x).map λW'=>(.tuple #[],W')
 |.delete,[m,k]=>(nD P W ts m k).map λW'=>(.tuple #[],W')
 |.unsafeSliceData,[x]=>(sD x).map λv=>(v,W)
 |.unsafeString,[p,n]=>mw P W ts p n
 |_,_=>(j8 P (args.all bC) (builtin b ts ty cf args.toArray)).map λv=>(v,W)
def YW(P:aj)(call:Callee)(r:ae)(name:String)(args:List ae)(W:AW):Option (ae×AW):=match r with
 |.iface t v=>match qI P t name with
  |some f=>call (.func (.func f) #[] #[]) (v::args) W
  |none=>none
 |_=>none
def aae(x:aq)(P:aj)(call:Callee)(o:ao)(R:ak.Fr)(W:AW):Option (ae×AW):=iT (aC R x) W
def aeV(c a b:aq)(P:aj)(call:Callee)(o:ao)(R:ak.Fr)(W:AW):Option (ae×AW):=bu (aC R c) (aC R a) (aC R b) W
def acx(t:ai)(P:aj)(call:Callee)(o:ao)(R:ak.Fr)(W:AW):Option (ae×AW):=aY P t W
def amc(t:ai)(x:aq)(P:aj)(call:Callee)(o:ao)(R:ak.Fr)(W:AW):Option (ae×AW):=cD (aC R x) W
def abk(t:ai)(ps:Array (Nat×aq))(P:aj)(call:Callee)(o:ao)(R:ak.Fr)(W:AW):Option (ae×AW):=bD P t (oJ R ps) W
def Kl(t:ai)(n:Nat)(ps:Array (Nat×aq))(P:aj)(call:Callee)(o:ao)(R:ak.Fr)(W:AW):Option (ae×AW):=aD P t n (oJ R ps) W
def Yi(_t:ai)(_m _k _v:aq)(P:aj)(call:Callee)(o:ao)(R:ak.Fr)(W:AW):Option (ae×AW):=none
def ajo(t:ai)(a:aq)(P:aj)(call:Callee)(o:ao)(R:ak.Fr)(W:AW):Option (ae×AW):=iV P t (aC R a) W
def ac0(t:ai)(a x:aq)(P:aj)(call:Callee)(o:ao)(R:ak.Fr)(W:AW):Option (ae×AW):=acI P t (aC R a) (aC R x) W
def agC(_g:Nat)(P:aj)(call:Callee)(o:ao)(R:ak.Fr)(W:AW):Option (ae×AW):=none
def QC(x:aq)(P:aj)(call:Callee)(o:ao)(R:ak.Fr)(W:AW):Option (ae×AW):=be (aC R x) W
def aaW(op:BinOp)(t:ai)(x y:aq)(yt:ai)(P:aj)(call:Callee)(o:ao)(R:ak.Fr)(W:AW):Option (ae×AW):=aw P op t (kM x) (kM y) (aC R x) (aC R y) W
def agY(op:UnOp)(t:ai)(x:aq)(P:aj)(call:Callee)(o:ao)(R:ak.Fr)(W:AW):Option (ae×AW):=BS P op (aC R x) W
def Td(s d:ai)(x:aq)(P:aj)(call:Callee)(o:ao)(R:ak.Fr)(W:AW):Option (ae×AW):=FT P s d (aC R x) W
def kTO(_d:ai)(_x:aq)(P:aj)(call:Callee)(o:ao)(R:ak.Fr)(W:AW):Option (ae×AW):=none
def Da(t:ai)(x:aq)(P:aj)(call:Callee)(o:ao)(R:ak.Fr)(W:AW):Option (ae×AW):=VO P t (aC R x) W
def PU(fn:Fn)(first iQ:Array aq)(P:aj)(call:Callee)(o:ao)(R:ak.Fr)(W:AW):Option (ae×AW):=xN fn (first.map (aC R)) (iQ.map (aC R)) W
def Ve(t:ai)(r:Option aq)(P:aj)(call:Callee)(o:ao)(R:ak.Fr)(W:AW):Option (ae×AW):=oe P t (r.map (aC R)) W
def No(t:ai)(l c:aq)(P:aj)(call:Callee)(o:ao)(R:ak.Fr)(W:AW):Option (ae×AW):=oR P t (aC R l) (aC R c) W
def aa5(t:ai)(x:aq)(lo hi mx:Option aq)(P:aj)(call:Callee)(o:ao)(R:ak.Fr)(W:AW):Option (ae×AW):=fh P t (aC R x) (lo.map (aC R)) (hi.map (aC R)) (mx.map (aC R)) W
def Nu(s:ai)(x:aq)(f:Nat)(P:aj)(call:Callee)(o:ao)(R:ak.Fr)(W:AW):Option (ae×AW):=Mh P s (aC R x) f W
def ab6(t:ai)(x:aq)(f:Nat)(P:aj)(call:Callee)(o:ao)(R:ak.Fr)(W:AW):Option (ae×AW):=aaU P t (aC R x) f W
def MW(t:ai)(x i:aq)(P:aj)(call:Callee)(o:ao)(R:ak.Fr)(W:AW):Option (ae×AW):=MY P t (aC R x) (aC R i) W
def ac8(t:ai)(x i:aq)(P:aj)(call:Callee)(o:ao)(R:ak.Fr)(W:AW):Option (ae×AW):=eH P t (aC R x) (aC R i) W
def YC(t:ai)(m k:aq)(ok:Bool)(P:aj)(call:Callee)(o:ao)(R:ak.Fr)(W:AW):Option (ae×AW):=iG P t (aC R m) (aC R k) ok W
def Mj(t:ai)(m k v:aq)(P:aj)(call:Callee)(o:ao)(R:ak.Fr)(W:AW):Option (ae×AW):=iJ P t (aC R m) (aC R k) (aC R v) W
def anO(_t:ai)(_m _k:aq)(P:aj)(call:Callee)(o:ao)(R:ak.Fr)(W:AW):Option (ae×AW):=none
def ahG(_t:ai)(_m _s _v:aq)(P:aj)(call:Callee)(o:ao)(R:ak.Fr)(W:AW):Option (ae×AW):=none
def acX(t:ai)(x:aq)(P:aj)(call:Callee)(o:ao)(R:ak.Fr)(W:AW):Option (ae×AW):=zu P t (aC R x) W
def ahg(it:aq)(s:Bool)(P:aj)(call:Callee)(o:ao)(R:ak.Fr)(W:AW):Option (ae×AW):=match s with
 |true=>Wm (aC R it) W
 |false=>none
def kO(_it:aq)(P:aj)(call:Callee)(o:ao)(R:ak.Fr)(W:AW):Option (ae×AW):=none
def IH(x:aq)(_t a:ai)(ok:Bool)(P:aj)(call:Callee)(o:ao)(R:ak.Fr)(W:AW):Option (ae×AW):=Xv P (aC R x) a ok W
def Vg(x:aq)(i:Nat)(P:aj)(call:Callee)(o:ao)(R:ak.Fr)(W:AW):Option (ae×AW):=ap (aC R x) i W
def ae9(c:Call)(P:aj)(call:Callee)(o:ao)(R:ak.Fr)(W:AW):Option (ae×AW):=
 match c.callee with
 |.builtin b=>aB P b c.argTypes o.type (c.args.map kM) (c.args.toList.map (aC R)) W
 |.value f=>call (aC R f) (c.args.toList.map (aC R)) W
 |.invoke r name=>YW P call (aC R r) name (c.args.toList.map (aC R)) W
def kC(_c:Call)(P:aj)(call:Callee)(o:ao)(R:ak.Fr)(W:AW):Option (ae×AW):=none
def kOO(_c _x:aq)(P:aj)(call:Callee)(o:ao)(R:ak.Fr)(W:AW):Option (ae×AW):=none
def aiJ(_t:ai)(_c:aq)(_ok:Bool)(P:aj)(call:Callee)(o:ao)(R:ak.Fr)(W:AW):Option (ae×AW):=none
def Zo(_cs:Array SelectCase)(_bl:Bool)(P:aj)(call:Callee)(o:ao)(R:ak.Fr)(W:AW):Option (ae×AW):=none
def amG:Op->aj->Callee->ao->ak.Fr->AW->Option (ae×AW):=
 Op.rec (motive:=λ_=>aj->Callee->ao->ak.Fr->AW->Option (ae×AW)) aae aae aeV acx amc abk Kl Yi ajo ac0 agC agC QC aaW agY Td kTO Da PU Ve kTO No aa5 Nu ab6 MW ac8 YC Mj anO ahG acX ahg kO IH Vg ae9 kC kC kO kOO aiJ Zo
def Yn(P:aj)(call:Callee)(o:ao)(R:ak.Fr)(W:AW):Option (ae×AW):=amG o.op P call o R W
def vw{P:aj}{R:ak.Fr}{o:ao}(hs:uX o.op=true):iS P R o=j8 P (o.op.operands.toList.all λx=>bC (aC R x)) (execOp (aC R) o):=by unfold iS j8;rw[hs,jK];rfl
def all_map{α β:Type}(f:α->β)(p:β->Bool)(l:List α):(l.map f).all p=l.all λx=>p (f x):=by rw[List.all_map];rfl
def IY(P:aj)(call:Callee)(dst:Option Tmp)(b:Builtin)(args:Array aq)(ts:Array ai)(ty:ai)(pos:String)(after:Array Edge)(guard:Option (Nat×Bool))(R:ak.Fr)(W:AW):
 aB P b ts ty (args.map kM) (args.toList.map (aC R)) W=iI P ⟨dst,.call ⟨.builtin b,args,ts⟩,ty,pos,after,guard⟩ b ts (args.toList.map (aC R)) R W:=by
 have hf:j8 P ((args.toList.map (aC R)).all bC) (builtin b ts ty (args.map kM) (args.toList.map (aC R)).toArray)=iS P R ⟨dst,.call ⟨.builtin b,args,ts⟩,ty,pos,after,guard⟩:=by
  rw[vw rfl];have h1:((args.toList.map (aC R)).all bC)=((Op.call {callee:=Callee.builtin b,args:=args,argTypes:=ts}).operands.toList.all λx=>bC (aC R x)):=by
   rw[all_map];have:(Op.call {callee:=.builtin b,args:=args,argTypes:=ts}).operands=args:=by simp[Op.operands,Call.operands]
   rw[this]
  have h2:builtin b ts ty (args.map kM) (args.toList.map (aC R)).toArray=execOp (aC R) ⟨dst,.call ⟨.builtin b,args,ts⟩,ty,pos,after,guard⟩:=by
   have h4:args.map kM=args.map (λ|.const _=>true|_=>false):=by congr 1;funext x;cases x<;>rfl
   have h3:(args.toList.map (aC R)).toArray=args.map (aC R):=by apply qv.1;simp
   rw[h4,h3];symm;simp[execOp,resolve,invoke];rfl
  rw[h1,h2]
 unfold aB iI;rw[hf];rfl
def OU:Op->Bool
 |.store .. =>true
 |_=>false
def aaX(P:aj)(call:Callee)(o:ao)(R:ak.Fr)(W:AW)(hs:OU o.op=false):Yn P call o R W=qr P call o R W:=by
 rw[vh];obtain⟨dst,op,type,pos,after,guard⟩:=o;cases op with
 |store t a x=>cases hs
 |pick c a b=>rfl
 |alloc t=>show aY P t W=_;(simp only[gW,EX,aY,AW.dG];try rfl)
 |box t x=>show cD (aC R x) W=_;simp only[gW,EX,cD,AW.dG]
 |buildSlice t len ps=>show aD P t len (oJ R ps) W=_;(simp only[gW,EX,aD,jV,AW.dG];try rfl)
 |binOp op t x y yt=>show aw P op t (kM x) (kM y) (aC R x) (aC R y) W=_;simp only[gW,EX,aw];rw[vw rfl,<-EI];rfl
 |unOp op t x=>show BS P op (aC R x) W=_;simp only[gW,EX,BS];rw[vw rfl];rfl
 |convert s d x=>show FT P s d (aC R x) W=_;simp only[gW,EX,FT];rw[vw rfl];rfl
 |makeFunc fn a b=>cases fn<;>rfl
 |makeMap t r=>
  cases r with
  |none=>show oe P t none W=_;(simp only[gW,EX,oe,AW.dG];try rfl)
  |some r=>show oe P t (some (aC R r)) W=_;(simp only[gW,EX,oe,AW.dG];try rfl)
 |makeSlice t l c=>show oR P t (aC R l) (aC R c) W=_;(simp only[gW,EX,oR,lM,AW.dG];try rfl)
 |slice t x lo hi mx=>
  show fh P t (aC R x) (lo.map (aC R)) (hi.map (aC R)) (mx.map (aC R)) W=_;simp only[gW,EX,fh];rw[vw rfl];have:(aC R x::((lo.map (aC R)).toList++((hi.map (aC R)).toList++(mx.map (aC R)).toList))).all bC=((Op.slice t x lo hi mx).operands.toList.all λx=>bC (aC R x)):=by cases lo<;>cases hi<;>cases mx<;>simp[Op.operands]
  rw[this];rfl
 |index t x i=>show eH P t (aC R x) (aC R i) W=_;simp only[gW,EX,eH];rw[vw rfl];rfl
 |range t x=>show zu P t (aC R x) W=_;(simp only[gW,EX,zu,AW.dG];try rfl)
 |next it s=>cases s<;>rfl
 |call c=>
  obtain⟨callee,args,ts⟩:=c;cases callee with
  |builtin b=>exact IY P call dst b args ts type pos after guard R W
  |value f=>rfl
  |invoke r name=>rfl
 |_=>rfl
def Nh{P:aj}{call:Callee}{o:ao}{R:ak.Fr}{W:AW}{r:ae×AW}(h:Yn P call o R W=some r):qr P call o R W=some r:=by
 cases hs:OU o.op with
 |false=>rw[<-aaX P call o R W hs];exact h
 |true=>
  rw[vh];obtain⟨dst,op,type,pos,after,guard⟩:=o;cases op<;>(try cases hs);rename_i t a x;have h':(yA P W t (aC R a) (aC R x)).map (λW'=>(ag,W'))=some r:=h;simp only[gW,EX];cases hc:yA P W t (aC R a) (aC R x)with
  |none=>rw[hc]at h';cases h'
  |some W'=>rw[hc]at h';rw[LQ hc];exact h'
def aK(x:ae)(W:AW):Option (ae×AW):=(match x with
 |.pointer (some a)=>(match aL W a.block with
  |some cs=>Xn cs a.off
  |none=>none)
 |_=>none).map λv=>(v,W)
def bA(n:Nat)(x:ae)(W:AW):Option (ae×AW):=(match x with
 |.pointer (some a)=>(lu W a.block a.off n).map λ(l:List ae)=>Value.agg l.toArray
 |_=>none).map λv=>(v,W)
def bP(n:Nat)(x v:ae)(W:AW):Option (ae×AW):=(match x with
 |.pointer (some a)=>if v.cells.size=n then zb W a.block a.off v.cells.toList else none
 |_=>none).map λW'=>(ag,W')
def aO(off:Nat)(x:ae)(W:AW):Option (ae×AW):=match x with
 |.pointer (some a)=>some (.pointer (some (a.add off)),W)
 |_=>none
def gn(z:Nat)(x i:ae)(W:AW):Option (ae×AW):=match x,lD i with
 |.slice (some a) len _,some n=>if n<len then some (.pointer (some (a.add (n*z))),W)else none
 |_,_=>none
def Gt(len z:Nat)(x i:ae)(W:AW):Option (ae×AW):=match x,lD i with
 |.pointer (some a),some n=>if n<len then some (.pointer (some (a.add (n*z))),W)else none
 |_,_=>none
end
section
variable [ak]
def ahT:∃f:(∀(α ρ:Type),Option α->(α->Option ρ)->Option ρ),f=λ_ _ x g=>x.bind g:=⟨_,rfl⟩
def ah{α ρ:Type}(x:Option α)(g:α->Option ρ):Option ρ:=Classical.choose ahT α ρ x g
def Db{α ρ:Type}(x:Option α)(g:α->Option ρ):ah x g=x.bind g:=by unfold ah;rw[vo ahT]
abbrev KT(ρ:Type):=X->ak.Fr->AW->Option ρ
abbrev LT:=X×ak.Fr×AW
def aU(v:ae)(w:Bool):Bool:=match v with|.bool b=>b==w|_=>false
def IV(ops:Array ao)(R:ak.Fr)(o:ao):Bool:=match o.guard with
 |none=>true
 |some (j,w)=>match(ops[j]?).bind (·.dst)with
  |some t=>aU (dg R t) w
  |none=>false
def I6(ops:Array ao)(R:ak.Fr)(o:ao):IV ops R o=g8 ops R o:=by
 unfold IV g8;cases o.guard with
 |none=>rfl
 |some p=>obtain⟨j,w⟩:=p;simp only;cases(ops[j]?).bind (·.dst)<;>rfl
def aQ{ρ:Type}(c:Bool)(a b:ρ):ρ:=Bool.rec (motive:=λ_=>ρ) b a c
def sY(P:aj)(call:Callee)(ops:Array ao)(o:ao)(R:ak.Fr)(W:AW):Option (ae×AW):=
 aQ (IV ops R o) (Yn P call o R W) (some (ag,W))
def mvO:Op->Option aq:=Op.rec (motive:=λ_=>Option aq) some some (λ_ _ _=>none) (λ_=>none) (λ_ _=>none) (λ_ _=>none) (λ_ _ _=>none) (λ_ _ _ _=>none) (λ_ _=>none) (λ_ _ _=>none) (λ_=>none) (λ_=>none) (λ_=>none) (λ_ _ _ _ _=>none) (λ_ _ _=>none) (λ_ _ _=>none) (λ_ _=>none) (λ_ _=>none) (λ_ _ _=>none) (λ_ _=>none) (λ_ _=>none) (λ_ _ _=>none) (λ_ _ _ _ _=>none) (λ_ _ _=>none) (λ_ _ _=>none) (λ_ _ _=>none) (λ_ _ _=>none) (λ_ _ _ _=>none) (λ_ _ _ _=>none) (λ_ _ _=>none) (λ_ _ _ _=>none) (λ_ _=>none) (λ_ _=>none) (λ_=>none) (λ_ _ _ _=>none) (λ_ _=>none) (λ_=>none) (λ_=>none) (λ_=>none) (λ_=>none) (λ_ _=>none) (λ_ _ _=>none) (λ_ _=>none)
def ZL(o:ao):Option aq:=Option.rec (motive:=λ_=>Option aq) (mvO o.op) (λ_=>none) o.guard
def KD(P:aj)(call:Callee)(ops:Array ao){ρ:Type}(K:ak.Fr->AW->Option ρ)(l:List ao):ak.Fr->AW->Option ρ:=
 List.rec (motive:=λ_=>ak.Fr->AW->Option ρ) (λR W=>K R W) (λo _ ih R W=>Option.rec (motive:=λ_=>Option ρ) (ah (sY P call ops o R W) λr=>ih (eP R o.dst r.1) r.2) (λx=>ih (eP R o.dst (aC R x)) W) (ZL o)) l
def rE(w:Bool)(r:Option (ae×AW))(v:ae):Bool:=aQ w (match r with|some (u,_)=>fK u v|none=>false) true
def agN(w:Bool)(r:Option (ae×AW)):Bool:=aQ w r.isSome true
def Ae(P:aj)(call:Callee)(ops:Array ao)(R:ak.Fr)(W:AW)(j:Nat):Bool:=match ops[j]? with
 |none=>false
 |some o=>match o.dst with
  |some t=>rE (IV ops R o) (Yn P call o R W) (dg R t)
  |none=>agN (IV ops R o) (Yn P call o R W)
def KB(P:aj)(call:Callee)(ops:Array ao){ρ:Type}(K:ak.Fr->AW->Option ρ)(l:List (Nat×List Nat)):ak.Fr->AW->Option ρ:=
 List.rec (motive:=λ_=>ak.Fr->AW->Option ρ) (λR W=>K R W) (λp _ ih R W=>match ops[p.1]? with
  |none=>none
  |some o=>Option.rec (motive:=λ_=>Option ρ) (ah (sY P call ops o R W) λr=>aQ (p.2.all (Ae P call ops (eP R o.dst r.1) r.2)) (ih (eP R o.dst r.1) r.2) none) (λx=>ih (eP R o.dst (aC R x)) W) (List.rec (motive:=λ_=>Option aq) (ZL o) (λ_ _ _=>none) p.2)) l
def bi(R:ak.Fr)(l:List (Nat×ae)):ak.Fr:=List.rec (motive:=λ_=>ak.Fr->ak.Fr) (λR=>R) (λp _ ih R=>ih (eP R (some p.1) p.2)) l R
def sU{ρ:Type}(x:X)(a b:Option ρ):Option ρ:=X.rec (motive:=λ_=>Option ρ) a (λ_=>b) b x
def di{ρ:Type}(id:Nat)(x:X)(a b:Option ρ):Option ρ:=X.rec (motive:=λ_=>Option ρ) b (λi=>aQ (Nat.beq i id) a b) b x
def aqM{ρ:Type}(x:X)(a:Option ρ):Option ρ:=X.rec (motive:=λ_=>Option ρ) a (λ_=>none) a x
def bg{ρ:Type}(v:ae)(a b:Option ρ):Option ρ:=match v with|.bool c=>aQ c a b|_=>none
abbrev CT:=∀ρ:Type,ak.Fr->AW->KT ρ->Option ρ
def nB:KT LT:=λx R W=>some (x,R,W)
def adI:CT:=λ_ R W K=>K .normal R W
def Du(P:aj)(call:Callee)(id:Nat)(ops:Array ao)(zL:Bool):CT:=λ_ R W K=>match zL with
 |false=>KD P call ops (K .normal) ops.toList R W
 |true=>match ak.D id ops with
  |none=>KD P call ops (K .normal) ops.toList R W
  |some pl=>KB P call ops (K .normal) pl R W
def aib(_ _:bG)(ia ib:CT):CT:=λρ R W K=>ia ρ R W λx R' W'=>X.rec (motive:=λ_=>Option ρ) (ib ρ R' W' K) (λ_=>K x R' W') (K x R' W') x
def abJ(c:aq)(_ _:bG)(ia ib:CT):CT:=λρ R W K=>bg (aC R c) (ia ρ R W K) (ib ρ R W K)
def YQ(id:Nat)(_:bG)(ib:CT):CT:=λρ R W K=>ib ρ R W λx R' W'=>X.rec (motive:=λ_=>Option ρ) (K x R' W') (λi=>Bool.rec (motive:=λ_=>Option ρ) (K x R' W') (K .normal R' W') (Nat.beq i id)) (K x R' W') x
def aho(i:Nat):List Nat->List Nat:=List.rec [i] λx l ih=>Bool.rec (x::ih) (x::l) (Nat.beq x i)
def Mq(a b:List Nat):List Nat:=List.rec b (λx _ ih=>aho x ih) a
def aiN(i:Nat)(a:List Nat):List Nat:=List.rec [] (λx _ ih=>Bool.rec (x::ih) ih (Nat.beq x i)) a
def St:bG->List Nat×Bool:=
 Code.rec (motive:=λ_=>List Nat×Bool) ([],false) (λ_ _ _=>([],false)) (λ_ _ a b=>(Mq a.1 b.1,a.2||b.2)) (λ_ _ _ a b=>(Mq a.1 b.1,a.2||b.2)) (λi _ b=>(aiN i b.1,b.2)) (λ_ b=>b)
  (λ_ _ _ _ a b=>(Mq a.1 b.1,a.2||b.2)) (λi=>([i],false)) (λ_ b=>b) (λ_=>([],false)) (λ_=>([],false)) ([],true) (λ_=>([],false))
def iq{ρ:Type}(x:X)(a:Option ρ):Option ρ:=X.rec (motive:=λ_=>Option ρ) none (λ_=>none) a x
def uE{ρ:Type}(x:X)(k:X->Option ρ)(ret:Bool)(l:List Nat):Option ρ:=
 List.rec (motive:=λ_=>Option ρ) (aQ ret (iq x (k .ret)) none) (λi _ ih=>di i x (k (.exit i)) ih) l
def lS{ρ:Type}{x:X}{k:X->Option ρ}{ret:Bool}{r:ρ}:∀{l:List Nat},uE x k ret l=some r->k x=some r
 |[],h=>by
  cases ret with
  |false=>cases h
  |true=>cases x<;>first|exact h|cases h
 |i::l,h=>by
  cases x with
  |normal=>exact lS (l:=l) h
  |ret=>exact lS (l:=l) h
  |exit j=>
   have h':aQ (Nat.beq j i) (k (.exit i)) (uE (.exit j) k ret l)=some r:=h;cases hb:Nat.beq j i with
   |true=>rw[hb]at h';have:=uN hb;subst this;exact h'
   |false=>rw[hb]at h';exact lS (l:=l) h'
def ZW:∃f:(ak.Fr->AW->Option LT)->Nat->ak.Fr->AW->Option LT,f=jo:=⟨jo,rfl⟩
def cW:(ak.Fr->AW->Option LT)->ak.Fr->AW->Option LT:=λf=>Classical.choose ZW f 1000000
def Iz(f:ak.Fr->AW->Option LT):cW f=jo f 1000000:=by unfold cW;rw[vo ZW]
def acn(b:bG)(ib:CT):CT:=λ_ R W K=>ah (cW (λR W=>ib LT R W nB) R W) λr=>uE r.1 (λx=>K x r.2.1 r.2.2) (St b).2 (St b).1
def jP(call:Callee)(f:ae)(obj:eF)(W:AW):Option (X×AW):=match f with
 |.func (.func i) fs cs=>match call (.func (.func i) fs cs) [.func (.yield W.next) #[] #[]] (W.add obj)with
  |some (_,W2)=>match W2.get W.next with
   |some (.loop st mJ _ _ _ _ _)=>(match st with
    |.busy=>none
    |_=>match mJ with
     |none=>some (.normal,W2.kill W.next)
     |some (.exit i)=>some (.exit i,W2.kill W.next)
     |some .ret=>some (.ret,W2.kill W.next)
     |_=>none)
   |_=>none
  |none=>none
 |_=>none
def HL(call:Callee)(top:Bool)(nt:Nat)(f:aq)(ps:Array Tmp)(asC bd:bG)(_ _:CT):CT:=λ_ R W K=>match top with
 |false=>none
 |true=>ah (jP call (aC R f) (.loop .ready none R nt ps asC bd) W) λr=>sU r.1 (K .normal R r.2) (uE r.1 (λx=>K x R r.2) (St bd).2 (St bd).1)
def aaS(id:Nat):CT:=λ_ R W K=>K (.exit id) R W
def af6:CT:=λ_ R W K=>K .ret R W
def Zc(_:Nat):CT:=λ_ R W K=>K .normal R W
def adv(_:Nat):CT:=λ_ _ _ _=>none
def YP(_:bG)(_:CT):CT:=λ_ _ _ _=>none
def Uv(_:String):CT:=λ_ _ _ _=>none
def gH(P:aj)(call:Callee)(top:Bool)(nt:Nat):bG->CT:=
 Code.rec (motive:=λ_=>CT) adI (Du P call) aib abJ YQ acn (HL call top nt) aaS YP Zc adv af6 Uv
section
variable {P:aj} {call:Callee}
def Cx{ops:Array ao}{o:ao}{R:ak.Fr}{W:AW}{r:ae×AW}(h:sY P call ops o R W=some r):jY P call ops o R W=some (eP R o.dst r.1,r.2):=by
 unfold sY at h;unfold jY;rw[I6]at h;cases hw:g8 ops R o with
 |true=>rw[hw]at h;rw[ax rfl];have h':Yn P call o R W=some r:=h;rw[Nh h']
 |false=>rw[hw]at h;rw[ay (by simp)];have h':some (ag,W)=some r:=h;injection h' with h';subst h';rfl
def SC{op:Op}{x:aq}(h:mvO op=some x):op=.move x\/op=.assign x:=by cases op<;>first|(injection h with h;subst h;first|exact .inl rfl|exact .inr rfl)|cases h
def O5{ops:Array ao}{o:ao}{R:ak.Fr}{W:AW}{x:aq}(h:ZL o=some x):jY P call ops o R W=some (eP R o.dst (aC R x),W):=by
 have hk:sY P call ops o R W=some (aC R x,W):=by
  obtain⟨dst,op,type,pos,after,guard⟩:=o;cases guard with
  |some g=>cases h
  |none=>rcases SC h with rfl|rfl<;>rfl
 rw[Cx hk]
def NV{ops:Array ao}{ρ:Type}{K:ak.Fr->AW->Option ρ}{r:ρ}:∀(l:List ao) (R:ak.Fr) (W:AW),KD P call ops K l R W=some r->(oX P call ops l R W).bind (λq=>K q.1 q.2)=some r:=by
 intro l;induction l with
 |nil=>intro R W h;exact h
 |cons o l ih=>
  intro R W h;cases hm:ZL o with
  |some x=>have h':Option.rec (motive:=λ_=>Option ρ) (ah (sY P call ops o R W) λr=>KD P call ops K l (eP R o.dst r.1) r.2) (λx=>KD P call ops K l (eP R o.dst (aC R x)) W) (ZL o)=some r:=h;rw[hm]at h';rw[oX,O5 hm];exact ih _ _ h'
  |none=>
  have h0:Option.rec (motive:=λ_=>Option ρ) (ah (sY P call ops o R W) λr=>KD P call ops K l (eP R o.dst r.1) r.2) (λx=>KD P call ops K l (eP R o.dst (aC R x)) W) (ZL o)=some r:=h;rw[hm]at h0;have h':ah (sY P call ops o R W) (λr=>KD P call ops K l (eP R o.dst r.1) r.2)=some r:=h0;rw[Db]at h';cases hk:sY P call ops o R W with
  |none=>rw[hk]at h';cases h'
  |some q=>rw[hk]at h';rw[oX,Cx hk];exact ih _ _ h'
def QE{ops:Array ao}{R:ak.Fr}{W:AW}(j:Nat)(h:Ae P call ops R W j=true):pC P call ops R W j=true:=by
 unfold Ae at h;unfold pC;cases ho:ops[j]? with
 |none=>rw[ho]at h;cases h
 |some o=>
  rw[ho]at h;simp only at h|-;rw[I6]at h;cases hd:o.dst with
  |none=>
   rw[hd]at h;simp only[agN]at h;simp only;cases hw:g8 ops R o with
   |false=>rfl
   |true=>rw[hw]at h;have h':(Yn P call o R W).isSome=true:=h;obtain⟨q,hq⟩:=Hl.1 h';rw[Nh hq];rfl
  |some t=>
   rw[hd]at h;simp only[rE]at h;simp only;cases hw:g8 ops R o with
   |false=>rfl
   |true=>
    rw[hw]at h;have h':(match Yn P call o R W with|some (u,_)=>fK u (dg R t)|none=>false)=true:=h;cases hq:Yn P call o R W with
    |none=>rw[hq]at h';cases h'
    |some q=>rw[hq]at h';rw[Nh hq];exact h'
def Wu{ops:Array ao}{ρ:Type}{K:ak.Fr->AW->Option ρ}{r:ρ}:∀(l:List (Nat×List Nat)) (R:ak.Fr) (W:AW),KB P call ops K l R W=some r->(jv P call ops l R W).bind (λq=>K q.1 q.2)=some r:=by
 intro l;induction l with
 |nil=>intro R W h;exact h
 |cons p l ih=>
  intro R W h;obtain⟨i,re⟩:=p
  have h0:(match ops[i]? with
   |none=>none
   |some o=>Option.rec (motive:=λ_=>Option ρ) (ah (sY P call ops o R W) λr=>aQ (re.all (Ae P call ops (eP R o.dst r.1) r.2)) (KB P call ops K l (eP R o.dst r.1) r.2) none) (λx=>KB P call ops K l (eP R o.dst (aC R x)) W) (List.rec (motive:=λ_=>Option aq) (ZL o) (λ_ _ _=>none) re))=some r:=h;rw[jv];cases ho:ops[i]? with
  |none=>rw[ho]at h0;cases h0
  |some o=>
   rw[ho]at h0;simp only at h0|-;cases hm:(List.rec (motive:=λ_=>Option aq) (ZL o) (λ_ _ _=>none) re:Option aq)with
   |some x=>
    rw[hm]at h0;cases re with
    |cons _ _=>cases hm
    |nil=>rw[O5 hm];exact ih _ _ h0
   |none=>
   rw[hm]at h0;have h':ah (sY P call ops o R W) (λr=>aQ (re.all (Ae P call ops (eP R o.dst r.1) r.2)) (KB P call ops K l (eP R o.dst r.1) r.2) none)=some r:=h0;rw[Db]at h';cases hk:sY P call ops o R W with
   |none=>rw[hk]at h';cases h'
   |some q=>
    rw[hk]at h';rw[Cx hk];simp only[bp]at h'|-;cases ha:re.all (Ae P call ops (eP R o.dst q.1) q.2)with
    |false=>rw[ha]at h';cases h'
    |true=>
     rw[ha]at h';have:re.all (pC P call ops (eP R o.dst q.1) q.2)=true:=by rw[cM]at ha|-;exactλj hj=>QE j (ha j hj)
     rw[ax this];exact ih _ _ h'
def D0{f g:ak.Fr->AW->Option LT}(h:∀R W r,f R W=some r->g R W=some r):∀(n:Nat) (R:ak.Fr) (W:AW) (r:LT),jo f n R W=some r->jo g n R W=some r:=by
 intro n;induction n with
 |zero=>intro R W r hr;cases hr
 |succ n ih=>
  intro R W r hr;unfold jo at hr|-;cases hf:f R W with
  |none=>rw[hf]at hr;cases hr
  |some q=>
   rw[h _ _ _ hf];rw[hf]at hr;obtain⟨x,R',W'⟩:=q;cases x with
   |normal=>exact ih _ _ _ hr
   |exit i=>exact hr
   |ret=>exact hr
def Ju{top:Bool}{nt:Nat}:∀(c:bG) (ρ:Type) (R:ak.Fr) (W:AW) (K:KT ρ) (r:ρ),gH P call top nt c ρ R W K=some r->(cu P call top nt c R W).bind (λr=>K r.1 r.2.1 r.2.2)=some r:=by
 intro c;induction c with
 |skip=>intro ρ R W K r h;exact h
 |label l=>intro ρ R W K r h;exact h
 |exit id=>intro ρ R W K r h;exact h
 |ret=>intro ρ R W K r h;exact h
 |goto l=>intro ρ R W K r h;exact h
 |scope b _=>intro ρ R W K r h;cases h
 |refuse s=>intro ρ R W K r h;cases h
 |region id ops zL=>
  intro ρ R W K r h;have h:Du P call id ops zL ρ R W K=some r:=h;unfold Du at h;unfold cu;cases zL with
  |false=>
   simp only at h|-;have:=NV _ _ _ h;cases ha:oX P call ops ops.toList R W with
   |none=>rw[ha]at this;cases this
   |some q=>rw[ha]at this;exact this
  |true=>
   simp only at h|-;cases hd:ak.D id ops with
   |none=>
    rw[hd]at h;simp only at h|-;have:=NV _ _ _ h;cases ha:oX P call ops ops.toList R W with
    |none=>rw[ha]at this;cases this
    |some q=>rw[ha]at this;exact this
   |some pl=>
    rw[hd]at h;simp only at h|-;have:=Wu _ _ _ h;cases ha:jv P call ops pl R W with
    |none=>rw[ha]at this;cases this
    |some q=>rw[ha]at this;exact this
 |seq a b WB La=>
  intro ρ R W K r h;have h1:=WB ρ R W _ r h;rw[cu];cases ha:cu P call top nt a R W with
  |none=>rw[ha]at h1;cases h1
  |some q=>
   rw[ha]at h1;obtain⟨x,R',W'⟩:=q;cases x with
   |normal=>exact La _ _ _ _ _ h1
   |exit i=>exact h1
   |ret=>exact h1
 |cond c a b WB La=>
  intro ρ R W K r h;have h':bg (aC R c) (gH P call top nt a ρ R W K) (gH P call top nt b ρ R W K)=some r:=h;rw[cu];cases hc:aC R c with
  |bool d=>
   rw[hc]at h';cases d with
   |true=>exact WB _ _ _ _ _ h'
   |false=>exact La _ _ _ _ _ h'
  |_=>rw[hc]at h';cases h'
 |block id b ih=>
  intro ρ R W K r h;have h1:=ih ρ R W _ r h;rw[cu];cases ha:cu P call top nt b R W with
  |none=>rw[ha]at h1;cases h1
  |some q=>
   rw[ha]at h1;obtain⟨x,R',W'⟩:=q;cases x with
   |normal=>exact h1
   |ret=>exact h1
   |exit i=>
    have h2:aQ (Nat.beq i id) (K .normal R' W') (K (.exit i) R' W')=some r:=h1;by_cases hi:i=id
    ·subst hi;rw[pX]at h2;simp only[bh,bp];exact h2
    ·have:Nat.beq i id=false:=by
      cases hb:Nat.beq i id with
      |true=>exact absurd (uN hb) hi
      |false=>rfl
     rw[this]at h2;simp only[ay hi,bp];exact h2
 |loop b ih=>
  intro ρ R W K r h;have h':ah (cW (λR W=>gH P call top nt b LT R W nB) R W) (λq=>uE q.1 (λx=>K x q.2.1 q.2.2) (St b).2 (St b).1)=some r:=h;rw[Db,Iz]at h';cases hl:jo (λR W=>gH P call top nt b LT R W nB) 1000000 R W with
  |none=>rw[hl]at h';cases h'
  |some q=>
   rw[hl]at h';have:=D0 (g:=cu P call top nt b) (λR W q hq=>by
    have:=ih LT R W nB q hq;cases ha:cu P call top nt b R W with
    |none=>rw[ha]at this;cases this
    |some q'=>rw[ha]at this;exact this) _ _ _ _ hl;rw[cu,this];exact lS (show uE q.1 (λx=>K x q.2.1 q.2.2) (St b).2 (St b).1=some r from h')
 |rangeFunc f ps asC bd _ _=>
  intro ρ R W K r h;have h':HL call top nt f ps asC bd (gH P call top nt asC) (gH P call top nt bd) ρ R W K=some r:=h;unfold HL at h';cases top with
  |false=>cases h'
  |true=>
   simp only[Db]at h';have h2:(jP call (aC R f) (.loop .ready none R nt ps asC bd) W).bind (λq=>K q.1 R q.2)=some r:=by
    cases ho:jP call (aC R f) (.loop .ready none R nt ps asC bd) W with
    |none=>rw[ho]at h';cases h'
    |some q=>
     rw[ho]at h';obtain⟨x,W'⟩:=q;cases x with
     |normal=>exact h'
     |exit i=>exact lS (show uE (.exit i) (λx=>K x R W') (St bd).2 (St bd).1=some r from h')
     |ret=>exact lS (show uE .ret (λx=>K x R W') (St bd).2 (St bd).1=some r from h')
   rw[<-h2];unfold cu jP;simp only;cases aC R f with
   |func fn fs cs=>
    cases fn with
    |func i=>
     simp only[AW.dG];cases call (.func (.func i) fs cs) [.func (.yield W.next) #[] #[]] (W.add (.loop .ready none R nt ps asC bd))with
     |none=>rfl
     |some r=>
      obtain⟨v,W2⟩:=r;simp only;cases W2.get W.next with
      |none=>rfl
      |some obj=>
       cases obj with
       |loop st mJ tm n p a b=>
        cases st<;>simp only<;>(cases mJ with
         |none=>rfl
         |some c=>cases c<;>rfl)
       |_=>rfl
    |_=>rfl
   |_=>rfl
def FC{top:Bool}{nt:Nat}{c:bG}{R:ak.Fr}{W:AW}{r:LT}(h:gH P call top nt c LT R W nB=some r):cu P call top nt c R W=some r:=by
 have:=Ju c LT R W nB r h;cases ha:cu P call top nt c R W with
 |none=>rw[ha]at this;cases this
 |some q=>rw[ha]at this;exact this
end
def qU(P:aj)(W:AW):List (ae×Option ai)->Option (List ae)
 |[]=>some []
 |(v,none)::l=>match qU P W l with
  |some vs=>some (v::vs)
  |none=>none
 |(a,some t)::l=>match ja P W t a with
  |some v=>match qU P W l with
   |some vs=>some (v::vs)
   |none=>none
  |none=>none
def aF(P:aj)(l:List (ae×Option ai))(W:AW):Option (ae×AW):=match qU P W l with
 |some [v]=>some (v,W)
 |some vs=>some (.tuple vs.toArray,W)
 |none=>none
def rv(R:ak.Fr):ResultVar->ae×Option ai:=ResultVar.rec (λt=>(dg R t,none)) (λa t=>(dg R a,some t))
def Ds(P:aj)(W:AW)(R:ak.Fr):∀l:List ResultVar,E7 P W R l=qU P W (l.map (rv R))
 |[]=>rfl
 |.tmp t::l=>by show(match E7 P W R l with|some vs=>some (dg R t::vs)|none=>none)=(match qU P W (l.map (rv R))with|some vs=>some (dg R t::vs)|none=>none);rw[Ds P W R l]
 |.cell a t::l=>by show(match ja P W t (dg R a)with|some v=>(match E7 P W R l with|some vs=>some (v::vs)|none=>none)|none=>none)=(match ja P W t (dg R a)with|some v=>(match qU P W (l.map (rv R))with|some vs=>some (v::vs)|none=>none)|none=>none);rw[Ds P W R l]
def Xo(P:aj)(call:Callee)(nt:Nat)(c:bG)(rs:Array ResultVar)(amV:List ae)(W:AW):Option (ae×AW):=
 gH P call true nt c (ae×AW) (dp 0 amV ak.blank) W λx R W'=>X.rec (motive:=λ_=>Option (ae×AW)) (aF P (rs.toList.map (rv R)) W') (λ_=>none) (aF P (rs.toList.map (rv R)) W') x
def Qu{P:aj}{bad:List Nat}{spec call:Callee}{i:Nat}{fn:fD}{c:bG}(hb:Jh i bad=false)(hf:P.funcs[i]? =some fn)(hc:fn.body=some c){fs cs:Array ae}{args:List ae}
 (hn:Nat.ble (fs.toList.length+(args.length+cs.toList.length)) fn.ntmps=true){W:AW}{r:ae×AW}(h:Xo P call fn.ntmps c fn.results (fs.toList++(args++cs.toList)) W=some r):
 jS P bad spec call (.func (.func i) fs cs) args W=some r:=by
 unfold Xo at h;have h1:=Ju _ _ _ _ _ _ h;unfold jS;simp only[hb,hf,hc,hn];cases ha:cu P call true fn.ntmps c (dp 0 (fs.toList++(args++cs.toList)) ak.blank) W with
 |none=>rw[ha]at h1;cases h1
 |some q=>
  rw[ha]at h1;obtain⟨x,R,W'⟩:=q;simp only[bp]at h1;rw[<-h1];unfold qL aF;simp only[Ds];cases x with
  |exit id=>rfl
  |normal=>simp only[];rcases qU P W' (fn.results.toList.map (rv R))with _|_|⟨v,_|⟨u,l⟩⟩<;>rfl
  |ret=>simp only[];rcases qU P W' (fn.results.toList.map (rv R))with _|_|⟨v,_|⟨u,l⟩⟩<;>rfl
def Gn(P:aj)(call:Callee)(l:Nat)(nt:Nat)(asC bd:bG)(R:ak.Fr)(W:AW):Option (ae×AW):=
 (gH P call false nt asC LT R W nB).bind λr1=>sU r1.1 (match r1.2.2.get l with
  |some (.loop .ready SI R9 O2 O9 NQ NI)=>(gH P call false nt bd LT r1.2.1 (r1.2.2.put l (.loop .busy SI R9 O2 O9 NQ NI)) nB).bind λr2=>(match r2.2.2.get l with
   |some (.loop _ _ R8 XL Yk X3 XX)=>(match r2.1 with
    |.normal=>some (.bool true,r2.2.2.put l (.loop .ready none R8 XL Yk X3 XX))
    |x=>some (.bool false,r2.2.2.put l (.loop .done x.jump R8 XL Yk X3 XX)))
   |_=>none)
  |_=>none) none
def I8{P:aj}{bad:List Nat}{spec call:Callee}{l nt:Nat}{R:ak.Fr}{ps:Array Tmp}{asC bd:bG}{W:AW}(hl:W.get l=some (.loop .ready none R nt ps asC bd)){fs cs:Array ae}{args:List ae}(hn:fs.toList.length+args.length=ps.size)
 {r:ae×AW}(h:Gn P call l nt asC bd (nl ps.toList (fs.toList++args) R) W=some r):
 jS P bad spec call (.func (.yield l) fs cs) args W=some r:=by
 unfold Gn at h;have hb:Nat.beq (fs.toList.length+args.length) ps.size=true:=by rw[hn];exact pX _
 unfold jS;simp only[hl,hb];cases h1:gH P call false nt asC LT (nl ps.toList (fs.toList++args) R) W nB with
 |none=>rw[h1]at h;cases h
 |some q=>
  rw[h1]at h;rw[FC h1];obtain⟨x,R1,W1⟩:=q;simp only[bp]at h;cases x with
  |exit id=>cases h
  |ret=>cases h
  |normal=>
   simp only[sU]at h|-;cases hg:W1.get l with
   |none=>rw[hg]at h;cases h
   |some obj=>
    rw[hg]at h;cases obj with
    |loop st SI R9 O2 O9 NQ NI=>
     cases st with
     |ready=>
      simp only at h|-;cases h2:gH P call false nt bd LT R1 (W1.put l (.loop .busy SI R9 O2 O9 NQ NI)) nB with
      |none=>rw[h2]at h;cases h
      |some q2=>
       rw[h2]at h;rw[FC h2];obtain⟨x2,R2,W2⟩:=q2;simp only[bp]at h|-;cases K1:W2.get l with
       |none=>rw[K1]at h;cases h
       |some akB=>
        rw[K1]at h;cases akB with
        |loop st8 pd8 R8 XL Yk X3 XX=>cases x2<;>exact h
        |_=>cases h
     |_=>cases h
    |_=>cases h
end
def VH(R:Nat->ae)(t:Nat)(v:ae):Nat->ae:=λu=>Bool.rec (motive:=λ_=>ae) (R u) v (Nat.beq u t)
def aa8:Nat->ae:=λ_=>ag
def Rb(R:Nat->ae)(t:Nat)(v:ae):VH R t v t=v:=by unfold VH;rw[pX]
def Zb(R:Nat->ae)(t u:Nat)(v:ae)(h:t≠u):VH R t v u=R u:=by
 unfold VH;have:Nat.beq u t=false:=by
  cases hb:Nat.beq u t with
  |true=>exact absurd (uN hb).symm h
  |false=>rfl
 rw[this]
@[reducible] noncomputable def aaV (D:Nat->Array ao->Option (List (Nat×List Nat))) (ng:List Nat) (ex:ai->Bool:=λ_=>false):ak where
 D:=D
 ex:=ex
 ng:=ng
 Fr:=Nat->ae
 MO:=λR t=>R t
 Vl:=VH
 blank:=aa8
 kn:=Rb
 gi:=Zb
 zB:=λ_=>rfl
def ajy(g:Nat):ae:=.pointer (some ⟨g,0,none⟩)
def cO(f:hZ):ae:=.func (.func f) #[] #[]
def adL(l:List Nat):ByteArray:=⟨(l.map UInt8.ofNat).toArray⟩
def C7(l:List Nat):ae:=.string (adL l)
def MS(P:aj)(i:Nat):bG:=match P.funcs[i]? with
 |some fn=>(match fn.body with
  |some c=>c
  |none=>.skip)
 |none=>.skip
def ZC(P:aj)(i:Nat):Array ResultVar:=match P.funcs[i]? with
 |some fn=>fn.results
 |none=>#[]
def Ih:List Nat->bG->bG
 |[],c=>c
 |n::p,c=>match c with
  |.seq a b=>Ih p (if n=0 then a else b)
  |.cond _ a b=>Ih p (if n=0 then a else b)
  |.rangeFunc _ _ a b=>Ih p (if n=0 then a else b)
  |.block _ b=>Ih p b
  |.loop b=>Ih p b
  |.scope b=>Ih p b
  |_=>.skip
section
variable [ak]
def K4(c d:Callee):Prop:=∀f a W r,c f a W=some r->d f a W=some r
def K4.refl(c:Callee):K4 c c:=λ_ _ _ _ h=>h
def K4.trans{a b c:Callee}(h:K4 a b)(k:K4 b c):K4 a c:=λf x W r e=>k _ _ _ _ (h _ _ _ _ e)
section
variable {P:aj}
def JS(P:aj)(o:ao)(R:ak.Fr)(W:AW):(∀c d:Callee,qr P c o R W=qr P d o R W)\/∃f a,∀c:Callee,qr P c o R W=c f a W:=by
 simp only[vh];obtain⟨dst,op,type,pos,after,guard⟩:=o;cases op with
 |call k=>
  obtain⟨callee,args,ts⟩:=k;cases callee with
  |builtin b=>exact .inl λ_ _=>rfl
  |value f=>exact .inr ⟨_,_,λ_=>rfl⟩
  |invoke r name=>
   simp only[gW];cases aC R r with
   |iface t v=>
    simp only;cases qI P t name with
    |none=>exact .inl λ_ _=>rfl
    |some f=>exact .inr ⟨_,_,λ_=>rfl⟩
   |_=>exact .inl λ_ _=>rfl
 |_=>exact .inl λ_ _=>rfl
def NW{c d:Callee}(h:K4 c d){o:ao}{R:ak.Fr}{W:AW}{r:ae×AW}(e:qr P c o R W=some r):qr P d o R W=some r:=by
 rcases JS P o R W with hd|⟨f,a,hd⟩
 ·rw[<-e];exact hd _ _
 ·rw[hd]at e|-;exact h _ _ _ _ e
def yk{c d:Callee}(h:K4 c d){ops:Array ao}{o:ao}{R:ak.Fr}{W:AW}{r:ak.Fr×AW}(e:jY P c ops o R W=some r):jY P d ops o R W=some r:=by
 unfold jY at e|-;split
 ·rename_i hw;rw[ax hw]at e;cases ho:qr P c o R W with
  |none=>rw[ho]at e;cases e
  |some q=>rw[ho]at e;rw[NW h ho];exact e
 ·rename_i hw;rw[ay hw]at e;exact e
def GQ{c d:Callee}(h:K4 c d){ops:Array ao}:∀{l:List ao} {R:ak.Fr} {W:AW} {r:ak.Fr×AW},oX P c ops l R W=some r->oX P d ops l R W=some r:=by
 intro l;induction l with
 |nil=>intro R W r e;exact e
 |cons o l ih=>
  intro R W r e;rw[oX]at e|-;cases hs:jY P c ops o R W with
  |none=>rw[hs]at e;cases e
  |some q=>rw[hs]at e;rw[yk h hs];exact ih e
def w9{c d:Callee}(h:K4 c d){ops:Array ao}{R:ak.Fr}{W:AW}{j:Nat}(e:pC P c ops R W j=true):pC P d ops R W j=true:=by
 unfold pC at e|-;cases hj:ops[j]? with
 |none=>rw[hj]at e;cases e
 |some o=>
  rw[hj]at e;simp only at e|-;split
  ·rename_i hw;rw[ax hw]at e;cases ho:qr P c o R W with
   |none=>rw[ho]at e;cases e
   |some q=>rw[ho]at e;rw[NW h ho];exact e
  ·rfl
def JE{c d:Callee}(h:K4 c d){ops:Array ao}:∀{l:List (Nat×List Nat)} {R:ak.Fr} {W:AW} {r:ak.Fr×AW},jv P c ops l R W=some r->jv P d ops l R W=some r:=by
 intro l;induction l with
 |nil=>intro R W r e;exact e
 |cons p l ih=>
  intro R W r e;obtain⟨i,re⟩:=p;rw[jv]at e|-;cases hi:ops[i]? with
  |none=>rw[hi]at e;cases e
  |some o=>
   rw[hi]at e;simp only at e|-;cases hs:jY P c ops o R W with
   |none=>rw[hs]at e;cases e
   |some q=>
    rw[hs]at e;rw[yk h hs];simp only at e|-;split at e
    ·rename_i hr;rw[ax (cM.2 λj hj=>w9 h (cM.1 hr j hj))];exact ih e
    ·cases e
def kF{c d:Callee}(h:K4 c d){top:Bool}{nt:Nat}:∀(k:bG) {R:ak.Fr} {W:AW} {r:LT},cu P c top nt k R W=some r->cu P d top nt k R W=some r:=by
 intro k;induction k with
 |skip=>intro R W r e;exact e
 |label l=>intro R W r e;exact e
 |exit id=>intro R W r e;exact e
 |ret=>intro R W r e;exact e
 |goto l=>intro R W r e;exact e
 |scope b _=>intro R W r e;exact e
 |refuse s=>intro R W r e;exact e
 |region id ops zL=>
  intro R W r e;unfold cu at e|-;cases zL with
  |false=>
   simp only at e|-;cases hs:oX P c ops ops.toList R W with
   |none=>rw[hs]at e;cases e
   |some q=>rw[hs]at e;rw[GQ h hs];exact e
  |true=>
   simp only at e|-;cases hD:ak.D id ops with
   |none=>
    rw[hD]at e;simp only at e|-;cases hs:oX P c ops ops.toList R W with
    |none=>rw[hs]at e;cases e
    |some q=>rw[hs]at e;rw[GQ h hs];exact e
   |some pl=>
    rw[hD]at e;simp only at e|-;cases hs:jv P c ops pl R W with
    |none=>rw[hs]at e;cases e
    |some q=>rw[hs]at e;rw[JE h hs];exact e
 |seq a b WB La=>
  intro R W r e;rw[cu]at e|-;cases ha:cu P c top nt a R W with
  |none=>rw[ha]at e;cases e
  |some q=>
   rw[ha]at e;rw[WB ha];obtain⟨x,R',W'⟩:=q;cases x with
   |normal=>exact La e
   |exit i=>exact e
   |ret=>exact e
 |cond o a b WB La=>
  intro R W r e;rw[cu]at e|-;cases ho:aC R o with
  |bool t=>rw[ho]at e;cases t with
   |true=>exact WB e
   |false=>exact La e
  |_=>rw[ho]at e;cases e
 |block id b ih=>
  intro R W r e;rw[cu]at e|-;cases hb:cu P c top nt b R W with
  |none=>rw[hb]at e;cases e
  |some q=>rw[hb]at e;rw[ih hb];exact e
 |loop b ih=>intro R W r e;rw[cu]at e|-;exact D0 (λR W q hq=>ih hq) _ _ _ _ e
 |rangeFunc f ps asC bd _ _=>
  intro R W r e;unfold cu at e|-;cases top with
  |false=>cases e
  |true=>
   simp only at e|-;cases hf:aC R f with
   |func fn fs cs=>
    rw[hf]at e;cases fn with
    |func i=>
     simp only[AW.dG]at e|-;cases hc:c (.func (.func i) fs cs) [.func (.yield W.next) #[] #[]] (W.add (.loop .ready none R nt ps asC bd))with
     |none=>rw[hc]at e;cases e
     |some q=>rw[hc]at e;rw[h _ _ _ _ hc];exact e
    |_=>cases e
   |_=>rw[hf]at e;cases e
def TY{bad:List Nat}{spec c d:Callee}(h:K4 c d):K4 (jS P bad spec c) (jS P bad spec d):=by
 intro f a W r e;unfold jS at e|-;cases f with
 |func fn fs cs=>
  cases fn with
  |func i=>
   simp only at e|-;cases hb:Jh i bad with
   |true=>rw[hb]at e;exact e
   |false=>
    rw[hb]at e;simp only at e|-;cases hf:P.funcs[i]? with
    |none=>rw[hf]at e;cases e
    |some fn=>
     rw[hf]at e;simp only at e|-;cases hc:fn.body with
     |none=>rw[hc]at e;cases e
     |some k=>
      rw[hc]at e;simp only at e|-;cases hl:Nat.ble (fs.toList.length+(a.length+cs.toList.length)) fn.ntmps with
      |false=>rw[hl]at e;cases e
      |true=>
       rw[hl]at e;simp only at e|-;cases hk:cu P c true fn.ntmps k (dp 0 (fs.toList++(a++cs.toList)) ak.blank) W with
       |none=>rw[hk]at e;cases e
       |some q=>rw[hk]at e;rw[kF h k hk];exact e
  |yield l=>
   simp only at e|-;split at e;case h_2=>cases e
   rename_i R nt ps asC bd hl;cases hn:Nat.beq (fs.toList.length+a.length) ps.size with
   |false=>rw[hn]at e;cases e
   |true=>
    rw[hn]at e;simp only at e|-;cases h1:cu P c false nt asC (nl ps.toList (fs.toList++a) R) W with
    |none=>rw[h1]at e;cases e
    |some q=>
     rw[h1]at e;rw[kF h asC h1];obtain⟨x,R1,W1⟩:=q;cases x with
     |normal=>
      simp only at e|-;split at e;case h_2=>cases e
      rename_i SI R9 O2 O9 NQ NI hg;cases h2:cu P c false nt bd R1 (W1.put l (.loop .busy SI R9 O2 O9 NQ NI))with
      |none=>rw[h2]at e;cases e
      |some q2=>rw[h2]at e;rw[kF h bd h2];exact e
     |exit i=>cases e
     |ret=>cases e
  |_=>cases e
 |_=>cases e
section
variable {c:Nat->Callee} {o:Callee}
structure Sr (c:Nat->Callee) (o:Callee):Prop where
 up:∀n,K4 (c n) (c (n+1))
 of:∀f a W r,o f a W=some r->∃n,c n f a W=some r
def Sr.le(h:Sr c o){m n:Nat}(hmn:m<=n):K4 (c m) (c n):=by
 induction hmn with
 |refl=>exact .refl _
 |step _ ih=>exact ih.trans (h.up _)
def Kg(h:Sr c o){op:ao}{R:ak.Fr}{W:AW}{r:ae×AW}(e:qr P o op R W=some r):∃n,qr P (c n) op R W=some r:=by
 rcases JS P op R W with hd|⟨f,a,hd⟩
 ·exact⟨0,by rw[<-e];exact hd _ _⟩
 ·rw[hd]at e;obtain⟨n,hn⟩:=h.of _ _ _ _ e;exact⟨n,by rw[hd];exact hn⟩
def Fy(h:Sr c o){ops:Array ao}{op:ao}{R:ak.Fr}{W:AW}{r:ak.Fr×AW}(e:jY P o ops op R W=some r):∃n,jY P (c n) ops op R W=some r:=by
 unfold jY at e|-;split at e
 ·rename_i hw;cases ho:qr P o op R W with
  |none=>rw[ho]at e;cases e
  |some q=>rw[ho]at e;obtain⟨n,hn⟩:=Kg h ho;exact⟨n,by rw[ax hw,hn];exact e⟩
 ·rename_i hw;exact⟨0,by rw[ay hw];exact e⟩
def KJ(h:Sr c o){ops:Array ao}:∀{l:List ao} {R:ak.Fr} {W:AW} {r:ak.Fr×AW},oX P o ops l R W=some r->∃n,oX P (c n) ops l R W=some r:=by
 intro l;induction l with
 |nil=>intro R W r e;exact⟨0,e⟩
 |cons op l ih=>
  intro R W r e;rw[oX]at e;cases hs:jY P o ops op R W with
  |none=>rw[hs]at e;cases e
  |some q=>rw[hs]at e;obtain⟨n,hn⟩:=Fy h hs;obtain⟨m,hm⟩:=ih e;refine⟨max n m,?_⟩;rw[oX,yk (h.le (rP n m)) hn];exact GQ (h.le (vq n m)) hm
def PJ(h:Sr c o){ops:Array ao}{R:ak.Fr}{W:AW}{j:Nat}(e:pC P o ops R W j=true):∃n,pC P (c n) ops R W j=true:=by
 unfold pC at e|-;cases hj:ops[j]? with
 |none=>rw[hj]at e;cases e
 |some op=>
  rw[hj]at e;simp only at e|-;split at e
  ·rename_i hw;cases ho:qr P o op R W with
   |none=>rw[ho]at e;cases e
   |some q=>rw[ho]at e;obtain⟨n,hn⟩:=Kg h ho;exact⟨n,by rw[ax hw,hn];exact e⟩
  ·rename_i hw;exact⟨0,by rw[ay hw]⟩
def Fe(h:Sr c o){ops:Array ao}{R:ak.Fr}{W:AW}:∀{l:List Nat},l.all (pC P o ops R W)=true->∃n,l.all (pC P (c n) ops R W)=true:=by
 intro l;induction l with
 |nil=>intro _;exact⟨0,rfl⟩
 |cons j l ih=>intro e;simp only[fa,bK]at e;obtain⟨n,hn⟩:=PJ h e.1;obtain⟨m,hm⟩:=ih e.2;refine⟨max n m,?_⟩;simp only[fa,bK];exact⟨w9 (h.le (rP n m)) hn,cM.2 λj hj=>w9 (h.le (vq n m)) (cM.1 hm j hj)⟩
def QL(h:Sr c o){ops:Array ao}:∀{l:List (Nat×List Nat)} {R:ak.Fr} {W:AW} {r:ak.Fr×AW},jv P o ops l R W=some r->∃n,jv P (c n) ops l R W=some r:=by
 intro l;induction l with
 |nil=>intro R W r e;exact⟨0,e⟩
 |cons p l ih=>
  intro R W r e;obtain⟨i,re⟩:=p;rw[jv]at e;cases hi:ops[i]? with
  |none=>rw[hi]at e;cases e
  |some op=>
   rw[hi]at e;simp only at e;cases hs:jY P o ops op R W with
   |none=>rw[hs]at e;cases e
   |some q=>
    rw[hs]at e;simp only at e;split at e
    ·rename_i hr;obtain⟨n,hn⟩:=Fy h hs;obtain⟨m,hm⟩:=Fe h hr;obtain⟨k,hk⟩:=ih e;refine⟨max n (max m k),?_⟩;rw[jv,hi];simp only;rw[yk (h.le (rP n _)) hn];simp only;rw[ax (cM.2 λj hj=>w9 (h.le (by omega)) (cM.1 hm j hj))];exact JE (h.le (by omega)) hk
    ·cases e
def Rx(h:Sr c o){top:Bool}{nt:Nat}{k:bG}(ih:∀{R:ak.Fr} {W:AW} {r:LT},cu P o top nt k R W=some r->∃n,cu P (c n) top nt k R W=some r):
 ∀(m:Nat) {R:ak.Fr} {W:AW} {r:LT},jo (cu P o top nt k) m R W=some r->∃n,jo (cu P (c n) top nt k) m R W=some r:=by
 intro m;induction m with
 |zero=>intro R W r e;cases e
 |succ m ihm=>
  intro R W r e;unfold jo at e;cases hb:cu P o top nt k R W with
  |none=>rw[hb]at e;cases e
  |some q=>
   rw[hb]at e;obtain⟨n,hn⟩:=ih hb;obtain⟨x,R',W'⟩:=q;cases x with
   |normal=>obtain⟨j,hj⟩:=ihm e;refine⟨max n j,?_⟩;unfold jo;rw[kF (h.le (rP n j)) k hn];exact D0 (λR W q hq=>kF (h.le (vq n j)) k hq) _ _ _ _ hj
   |exit i=>exact⟨n,by unfold jo;rw[hn];exact e⟩
   |ret=>exact⟨n,by unfold jo;rw[hn];exact e⟩
def yX(h:Sr c o){top:Bool}{nt:Nat}:∀(k:bG) {R:ak.Fr} {W:AW} {r:LT},cu P o top nt k R W=some r->∃n,cu P (c n) top nt k R W=some r:=by
 intro k;induction k with
 |skip=>intro R W r e;exact⟨0,e⟩
 |label l=>intro R W r e;exact⟨0,e⟩
 |exit id=>intro R W r e;exact⟨0,e⟩
 |ret=>intro R W r e;exact⟨0,e⟩
 |goto l=>intro R W r e;exact⟨0,e⟩
 |scope b _=>intro R W r e;exact⟨0,e⟩
 |refuse s=>intro R W r e;exact⟨0,e⟩
 |region id ops zL=>
  intro R W r e;unfold cu at e|-;cases zL with
  |false=>
   simp only at e|-;cases hs:oX P o ops ops.toList R W with
   |none=>rw[hs]at e;cases e
   |some q=>rw[hs]at e;obtain⟨n,hn⟩:=KJ h hs;exact⟨n,by rw[hn];exact e⟩
  |true=>
   simp only at e|-;cases hD:ak.D id ops with
   |none=>
    rw[hD]at e;simp only at e|-;cases hs:oX P o ops ops.toList R W with
    |none=>rw[hs]at e;cases e
    |some q=>rw[hs]at e;obtain⟨n,hn⟩:=KJ h hs;exact⟨n,by rw[hn];exact e⟩
   |some pl=>
    rw[hD]at e;simp only at e|-;cases hs:jv P o ops pl R W with
    |none=>rw[hs]at e;cases e
    |some q=>rw[hs]at e;obtain⟨n,hn⟩:=QL h hs;exact⟨n,by rw[hn];exact e⟩
 |seq a b WB La=>
  intro R W r e;rw[cu]at e;cases ha:cu P o top nt a R W with
  |none=>rw[ha]at e;cases e
  |some q=>
   rw[ha]at e;obtain⟨n,hn⟩:=WB ha;obtain⟨x,R',W'⟩:=q;cases x with
   |normal=>obtain⟨m,hm⟩:=La e;refine⟨max n m,?_⟩;rw[cu,kF (h.le (rP n m)) a hn];exact kF (h.le (vq n m)) b hm
   |exit i=>exact⟨n,by rw[cu,hn];exact e⟩
   |ret=>exact⟨n,by rw[cu,hn];exact e⟩
 |cond q a b WB La=>
  intro R W r e;rw[cu]at e;cases ho:aC R q with
  |bool t=>rw[ho]at e;cases t with
   |true=>obtain⟨n,hn⟩:=WB e;exact⟨n,by rw[cu,ho];exact hn⟩
   |false=>obtain⟨n,hn⟩:=La e;exact⟨n,by rw[cu,ho];exact hn⟩
  |_=>rw[ho]at e;cases e
 |block id b ih=>
  intro R W r e;rw[cu]at e;cases hb:cu P o top nt b R W with
  |none=>rw[hb]at e;cases e
  |some q=>rw[hb]at e;obtain⟨n,hn⟩:=ih hb;exact⟨n,by rw[cu,hn];exact e⟩
 |loop b ih=>intro R W r e;rw[cu]at e;obtain⟨n,hn⟩:=Rx h (λe=>ih e) _ e;exact⟨n,by rw[cu];exact hn⟩
 |rangeFunc f ps asC bd _ _=>
  intro R W r e;unfold cu at e|-;cases top with
  |false=>cases e
  |true=>
   simp only at e|-;cases hf:aC R f with
   |func fn fs cs=>
    rw[hf]at e;cases fn with
    |func i=>
     simp only[AW.dG]at e|-;cases hc:o (.func (.func i) fs cs) [.func (.yield W.next) #[] #[]] (W.add (.loop .ready none R nt ps asC bd))with
     |none=>rw[hc]at e;cases e
     |some q=>rw[hc]at e;obtain⟨n,hn⟩:=h.of _ _ _ _ hc;exact⟨n,by rw[hn];exact e⟩
    |_=>cases e
   |_=>rw[hf]at e;cases e
def P9(h:Sr c o){bad:List Nat}{spec:Callee}{f:ae}{a:List ae}{W:AW}{r:ae×AW}(e:jS P bad spec o f a W=some r):∃n,jS P bad spec (c n) f a W=some r:=by
 unfold jS at e|-;cases f with
 |func fn fs cs=>
  cases fn with
  |func i=>
   simp only at e|-;cases hb:Jh i bad with
   |true=>rw[hb]at e;exact⟨0,e⟩
   |false=>
    rw[hb]at e;simp only at e|-;cases hf:P.funcs[i]? with
    |none=>rw[hf]at e;cases e
    |some fn=>
     rw[hf]at e;simp only at e|-;cases hc:fn.body with
     |none=>rw[hc]at e;cases e
     |some k=>
      rw[hc]at e;simp only at e|-;cases hl:Nat.ble (fs.toList.length+(a.length+cs.toList.length)) fn.ntmps with
      |false=>rw[hl]at e;cases e
      |true=>
       rw[hl]at e;simp only at e|-;cases hk:cu P o true fn.ntmps k (dp 0 (fs.toList++(a++cs.toList)) ak.blank) W with
       |none=>rw[hk]at e;cases e
       |some q=>rw[hk]at e;obtain⟨n,hn⟩:=yX h k hk;exact⟨n,by rw[hn];exact e⟩
  |yield l=>
   simp only at e|-;split at e;case h_2=>cases e
   rename_i R nt ps asC bd hl;cases hn:Nat.beq (fs.toList.length+a.length) ps.size with
   |false=>rw[hn]at e;cases e
   |true=>
    rw[hn]at e;simp only at e|-;cases h1:cu P o false nt asC (nl ps.toList (fs.toList++a) R) W with
    |none=>rw[h1]at e;cases e
    |some q=>
     rw[h1]at e;obtain⟨n,hn1⟩:=yX h asC h1;obtain⟨x,R1,W1⟩:=q;cases x with
     |normal=>
      simp only at e;split at e;case h_2=>cases e
      rename_i SI R9 O2 O9 NQ NI hg;cases h2:cu P o false nt bd R1 (W1.put l (.loop .busy SI R9 O2 O9 NQ NI))with
      |none=>rw[h2]at e;cases e
      |some q2=>rw[h2]at e;obtain⟨m,hm⟩:=yX h bd h2;refine⟨max n m,?_⟩;rw[kF (h.le (rP n m)) asC hn1];simp only;rw[hg];simp only;rw[kF (h.le (vq n m)) bd hm];exact e
     |exit i=>cases e
     |ret=>cases e
  |_=>cases e
 |_=>cases e
end
end
end
section
variable [ak]
def VU.back{σ σ':dj}(hs:Sub σ σ'){f u u':Fn}(h:VU σ f u)(k:VU σ' f u'):VU σ f u':=by
 cases h with
 |func f=>cases k;exact .func f
 |yield l g hg=>
  cases k with
  |yield _ g' DX=>have:=(hs _ _ hg).symm.trans DX;injection this with this;subst this;exact .yield l g hg
def VR.back{σ σ':dj}(hs:Sub σ σ'){v u:ae}(h:VR σ v u):∀{u':ae},VR σ' v u'->VR σ v u':=by
 induction h with
 |bool b=>intro u' k;cases k;exact .bool b
 |int k n=>intro u' k;cases k;exact .int _ _
 |float k n=>intro u' k;cases k;exact .float _ _
 |string s=>intro u' k;cases k;exact .string s
 |JC=>intro u' k;cases k;exact .JC
 |ptr a g hg pf=>
  intro u' k;cases k with
  |ptr _ g' DX hs'=>have:=(hs _ _ hg).symm.trans DX;injection this with this;subst this;exact .ptr a g hg pf
 |DE l c=>intro u' k;cases k;exact .DE _ _
 |slice a l c c' g hg pf hc=>
  intro u' k;cases k with
  |slice _ _ _ c2 g' DX hs' sX=>have:=(hs _ _ hg).symm.trans DX;injection this with this;subst this;exact .slice a l c c2 g hg pf sX
  |dH _ a' _ g' DX sX=>have:=(hs _ _ hg).symm.trans DX;injection this with this;subst this;exact .dH a a' c g hg sX
 |dH a a' c g hg hc=>
  intro u' k;cases k with
  |slice _ _ _ c2 g' DX hs' sX=>have:=(hs _ _ hg).symm.trans DX;injection this with this;subst this;exact .slice a 0 c c2 g hg hs' sX
  |dH _ a2 _ g' DX sX=>exact .dH a a2 c g hg sX
 |LY=>intro u' k;cases k;exact .LY
 |map r g hg=>
  intro u' k;cases k with
  |map _ g' DX=>have:=(hs _ _ hg).symm.trans DX;injection this with this;subst this;exact .map r g hg
 |nilFunc=>intro u' k;cases k;exact .nilFunc
 |func fn Fa fs tW cs cP hf h1 _ h3 _ ih1 ih2=>
  intro u' k;cases k with
  |func _ fn2 _ fs2 _ E3 kf k1 k2 k3 k4=>
   refine .func _ _ _ _ _ _ (hf.back hs kf) k1 (λi v v' a b=>?_) k3 (λi v v' a b=>?_)
   ·have hi:i<tW.size:=by rw[<-h1];exact(dW.1 a).1
    exact ih1 i v _ a (g9 hi) (k2 i v v' a b)
   ·have hi:i<cP.size:=by rw[<-h3];exact(dW.1 a).1
    exact ih2 i v _ a (g9 hi) (k4 i v v' a b)
 |nilIface=>intro u' k;cases k;exact .nilIface
 |iface t v v' _ ih=>
  intro u' k;cases k with
  |iface _ _ v2 k=>exact .iface t v v2 (ih k)
 |agg cs cP h1 _ ih=>
  intro u' k;cases k with
  |agg _ E3 k1 k2=>
   refine .agg _ _ k1 λi v v' a b=>?_
   have hi:i<cP.size:=by rw[<-h1];exact(dW.1 a).1
   exact ih i v _ a (g9 hi) (k2 i v v' a b)
 |tuple cs cP h1 _ ih=>
  intro u' k;cases k with
  |tuple _ E3 k1 k2=>
   refine .tuple _ _ k1 λi v v' a b=>?_
   have hi:i<cP.size:=by rw[<-h1];exact(dW.1 a).1
   exact ih i v _ a (g9 hi) (k2 i v v' a b)
def lO.back{σ σ':dj}(hs:Sub σ σ'){h h':Array Obj}{g:tu}{o:eF}(a:lO σ h g o)(b:lO σ' h' g o):lO σ h' g o:=by
 cases o with
 |cells cs=>obtain⟨c1,t1,_,_,_,_,_,e4⟩:=a;obtain⟨c2,t2,fr2,f1,f0,f2,f3,f4⟩:=b;refine⟨c2,t2,fr2,f1,f0,f2,f3,λi v hv=>?_⟩;obtain⟨v1,_,x⟩:=e4 i v hv;obtain⟨v2,y1,y2⟩:=f4 i v hv;exact⟨v2,y1,x.back hs y2⟩
 |ro cs=>obtain⟨c1,t1,fr1,_,_,e4⟩:=a;obtain⟨c2,t2,fr2,f1,f2,f4⟩:=b;refine⟨c2,t2,fr2,f1,f2,λi v hv=>?_⟩;obtain⟨v1,_,x⟩:=e4 i v hv;obtain⟨v2,y1,y2⟩:=f4 i v hv;exact⟨v2,y1,x.back hs y2⟩
 |map es j5=>
  obtain⟨e1,e2,es1,_,⟨e3,e4⟩⟩:=a;obtain⟨f1,f2,Zm,f3,⟨f4,f5⟩⟩:=b;refine⟨f1,f2,Zm,f3,f4,λi e e' x y=>?_⟩;have hi:i<es1.toList.length:=by rw[<-e3];exact(du.1 x).1
  obtain⟨p1,p2,_⟩:=e4 i e _ x (cL hi);obtain⟨q1,q2,q3⟩:=f5 i e e' x y;exact⟨p1.back hs q1,p2.back hs q2,q3⟩
 |loop st mJ R nt ps asC bd=>obtain⟨_,_,r1,_,_,_,⟨_,e4⟩,_,_,_,e8,e9,e10⟩:=a;obtain⟨f1,f2,r2,f3,f4,f5,⟨f6,f7⟩,f8,f9,xV,_,_,_⟩:=b;exact⟨f1,f2,r2,f3,f4,f5,⟨f6,λt ht=>(e4 t ht).back hs (f7 t ht)⟩,f8,f9,xV,e8,e9,e10⟩
 |mF s pos=>exact b
 |tc t cs=>obtain⟨_,_,_,c1,_,_,_,e4⟩:=a;obtain⟨b1,b2,b3,c2,f1,f2,f3,f4⟩:=b;refine⟨b1,b2,b3,c2,f1,f2,f3,λi v hv=>?_⟩;obtain⟨v1,_,x⟩:=e4 i v hv;obtain⟨v2,y1,y2⟩:=f4 i v hv;exact⟨v2,y1,x.back hs y2⟩
structure Le (W W':AW):Prop where
 next:W.next<=W'.next
 get:∀b,b<W.next->W'.get b=W.get b
def Le.refl(W:AW):Le W W:=⟨aP _,λ_ _=>rfl⟩
def Le.trans{A B C:AW}(h:Le A B)(k:Le B C):Le A C:=⟨gQ h.next k.next,λb hb=>(k.get b (fM hb h.next)).trans (h.get b hb)⟩
def Le.add{W W':AW}(h:Le W W')(o:eF):Le W (W'.add o):=
 ⟨gQ h.next (by rw[AW.aG];omega),λb hb=>by rw[AW.br _ _ (by have:=h.next;omega)];exact h.get b hb⟩
def Le.put{W W':AW}(h:Le W W'){b:Nat}(hb:W.next<=b)(o:eF):Le W (W'.put b o):=
 ⟨h.next,λc hc=>by rw[AW.aE _ _ (by omega)];exact h.get c hc⟩
def Le.kill{W W':AW}(h:Le W W'){b:Nat}(hb:W.next<=b):Le W (W'.kill b):=
 ⟨h.next,λc hc=>by rw[AW.eD _ (by omega)];exact h.get c hc⟩
def Zr{σ σ':dj}{W W':AW}{w w':au}(hW:bt σ W w.heap)(a8:Le W W')(h1:bt σ' W' w'.heap)(he:eW σ W w σ' W' w'):bt σ W w'.heap/\eW σ W w σ W w':=by
 have gZ:∀b o,W.get b=some o->b<W.next:=λb o hb=>by
  rcases vj b W.next with h|h
  ·exact h
  ·rw[hW.free b h]at hb;cases hb
 refine⟨⟨hW.free,λb g hg=>⟨(hW.pd b g hg).1,fM (hW.pd b g hg).2 he.size⟩,λb o g hb hg=>?_,λb1 b2 o1 o2 g1 g2 fk a1 a2 k1 k2 hr=>?_⟩,
  ⟨.refl _,λ_ _ h=>h,he.size,he.os,he.tape,he.output,he.dq,λ_ _ h k=>⟨h,k⟩,λb g hg _=>.inl hg⟩⟩
 ·exact(hW.obj b o g hb hg).back he.sub (h1.obj b o g (by rw[a8.get b (gZ b o hb)];exact hb) (he.sub _ _ hg))
 ·exact hW.pn b1 b2 o1 o2 g1 g2 fk a1 a2 k1 k2 hr
def isU:ae->Bool
 |.tuple vs=>vs.isEmpty
 |_=>false
def gc(W:AW)(r:ae×AW):ae×AW:=
 open Classical in if(bC r.1&& !isU r.1)=true/\Le W r.2 then(r.1,W)else r
def tQ{W W':AW}{v:ae}(hv:(bC v&& !isU v)=true)(h:Le W W'):gc W (v,W')=(v,W):=by unfold gc;rw[ax ⟨hv,h⟩]
def wH{W W':AW}{v:ae}(hv:(bC v&& !isU v)=false):gc W (v,W')=(v,W'):=by unfold gc;rw[ay (by simp only[hv];simp)]
def gcF(f:ae)(W:AW)(r:ae×AW):ae×AW:=match f with
 |.func (.func _) _ _=>gc W r
 |_=>r
def aez{P:aj}{ng:List Nat}{c:Callee}(hc:cw P ng c):cw P ng λf a W=>(c f a W).map (gcF f W):=by
 intro f args W v W' h σ w f' dw hW hG hf db;simp only at h;cases hr:c f args W with
 |none=>rw[hr]at h;cases h
 |some q=>
  rw[hr]at h;obtain⟨v1,W1⟩:=q;have hk:=hc f args W v1 W1 hr σ w f' dw hW hG hf db;simp only[cS,gJ]at h;unfold gcF at h;split at h;case h_2=>injection h with e1 e2;subst e1;subst e2;exact hk
  unfold gc at h;split at h
  ·rename_i hp;injection h with e1 e2;subst e1;subst e2;have oa:bC v1=true:=(bK _ _▸hp.1).1;have key:∀(R R':ae->au->Prop),(∀v' w',R v' w'->R' v' w')->vM P f' dw w R->vM P f' dw w R':=by
    intro R R' hRR hC;unfold vM at hC|-;split at hC
    ·exact⟨hC.1,nK hC.2 λe w' ⟨u,hu,hr⟩=>⟨u,hu,hRR _ _ hr⟩⟩
    ·obtain⟨f,tmps,asC,bd,k1,k2⟩:=hC;exact⟨f,tmps,asC,bd,k1,RoundIn.mono k2 λe w' ⟨u,hu,hr⟩=>⟨u,hu,hRR _ _ hr⟩⟩
    ·exact hC.elim
   refine key _ _ (λv' w' ⟨σ',k1,k2,k3⟩=>?_) hk;obtain⟨d1,d2⟩:=Zr hW hp.2 k2 k3;have:v'=v1:=fC oa k1;subst this;exact⟨σ,iO oa,d1,d2⟩
  ·injection h with e1 e2;subst e1;subst e2;exact hk
section
variable (P:aj) (bad:List Nat) (spec:Callee)
def gC:Nat->Callee
 |0=>λ_ _ _=>none
 |n+1=>λf a W=>(jS P bad spec (gC n) f a W).map (gcF f W)
def ae4:∀n,K4 (gC P bad spec n) (gC P bad spec (n+1)):=by
 intro n;induction n with
 |zero=>intro f a W r h;cases h
 |succ n ih=>
  intro f a W r h;have h':(jS P bad spec (gC P bad spec n) f a W).map (gcF f W)=some r:=h;show(jS P bad spec (gC P bad spec (n+1)) f a W).map (gcF f W)=some r;cases hb:jS P bad spec (gC P bad spec n) f a W with
  |none=>rw[hb]at h';cases h'
  |some q=>rw[hb]at h';rw[TY ih _ _ _ _ hb];exact h'
def om:Callee:=λf a W=>open Classical in if h:∃r n,gC P bad spec n f a W=some r then some (Classical.choose h)else none
def H4:Sr (gC P bad spec) (om P bad spec):=by
 refine⟨ae4 P bad spec,λf a W r h=>?_⟩;unfold om at h;split at h
 ·rename_i hx;injection h with h;subst h;exact vo hx
 ·cases h
def aeL{n:Nat}{f:ae}{a:List ae}{W:AW}{r:ae×AW}(h:gC P bad spec n f a W=some r):om P bad spec f a W=some r:=by have hx:∃r n,gC P bad spec n f a W=some r:=⟨r,n,h⟩;unfold om;rw[dif_pos hx];obtain⟨m,hm⟩:=vo hx;have h1:=(H4 P bad spec).le (rP n m) _ _ _ _ h;have h2:=(H4 P bad spec).le (vq n m) _ _ _ _ hm;rw[h1]at h2;exact h2.symm
def Gq{f:ae}{a:List ae}{W:AW}{r:ae×AW}(h:jS P bad spec (om P bad spec) f a W=some r):om P bad spec f a W=some (gcF f W r):=by obtain⟨n,hn⟩:=P9 (H4 P bad spec) h;refine aeL P bad spec (n:=n+1) ?_;show(jS P bad spec (gC P bad spec n) f a W).map (gcF f W)=_;rw[hn];rfl
variable {P bad spec}
def ZZ(hm:P.follows .mixedOrders=true)(hP:lG ak.ng bad 0 P.funcs.toList=true)(hs:cw P ak.ng spec):∀n,cw P ak.ng (gC P bad spec n)
 |0=>λf args W v W' h=>by cases h
 |n+1=>aez (Ay hm rfl hP hs (ZZ hm hP hs n))
def ah3(hm:P.follows .mixedOrders=true)(hP:lG ak.ng bad 0 P.funcs.toList=true)(hs:cw P ak.ng spec):cw P ak.ng (om P bad spec):=by intro f args W v W' h;obtain⟨n,hn⟩:=(H4 P bad spec).of _ _ _ _ h;exact ZZ hm hP hs n f args W v W' hn
def aaO{i:Nat}{fn:fD}{c:bG}(hb:Jh i bad=false)(hf:P.funcs[i]? =some fn)(hc:fn.body=some c){fs cs:Array ae}{args:List ae}
 (hn:Nat.ble (fs.toList.length+(args.length+cs.toList.length)) fn.ntmps=true){W:AW}{r:ae×AW}(h:Xo P (om P bad spec) fn.ntmps c fn.results (fs.toList++(args++cs.toList)) W=some r):
 om P bad spec (.func (.func i) fs cs) args W=some (gc W r):=Gq P bad spec (Qu hb hf hc hn h)
def VV{l nt:Nat}{R:ak.Fr}{ps:Array Tmp}{asC bd:bG}{W:AW}(hl:W.get l=some (.loop .ready none R nt ps asC bd)){fs cs:Array ae}{args:List ae}(hn:fs.toList.length+args.length=ps.size)
 {r:ae×AW}(h:Gn P (om P bad spec) l nt asC bd (nl ps.toList (fs.toList++args) R) W=some r):om P bad spec (.func (.yield l) fs cs) args W=some r:=Gq P bad spec (I8 hl hn h)
def G8{i:Nat}(hb:Jh i bad=true){fs cs:Array ae}{args:List ae}{W:AW}{r:ae×AW}(h:spec (.func (.func i) fs cs) args W=some r):
 om P bad spec (.func (.func i) fs cs) args W=some (gc W r):=by
 refine Gq P bad spec ?_;unfold jS;simp only[hb];exact h
end
end
section
variable [ak]
def wX{α ρ:Type}(a:α)(g:α->Option ρ):ah (some a) g=g a:=by rw[Db];rfl
section
variable {P:aj} {W:AW}
def adk(v:ae):iT v W=some (v,W):=aJ rfl rfl
def gD(cs:Array ae):cD (.agg cs) W=some (.pointer (some ⟨W.next,0,none⟩),W.add (.cells cs.toList)):=aJ rfl rfl
def Jv(k:aV)(n:Int):cD (.int k n) W=some (.pointer (some ⟨W.next,0,none⟩),W.add (.cells [.int k n])):=aJ rfl rfl
def QX(b:Bool):cD (.bool b) W=some (.pointer (some ⟨W.next,0,none⟩),W.add (.cells [.bool b])):=aJ rfl rfl
def KA(s:ByteArray):cD (.string s) W=some (.pointer (some ⟨W.next,0,none⟩),W.add (.cells [.string s])):=aJ rfl rfl
def Cb(a:Option aW)(l c:Nat):cD (.slice a l c) W=some (.pointer (some ⟨W.next,0,none⟩),W.add (.cells [.slice a l c])):=aJ rfl rfl
def QY(f:Fn)(a b:Array ae):cD (.func f a b) W=some (.pointer (some ⟨W.next,0,none⟩),W.add (.cells [.func f a b])):=aJ rfl rfl
def Lo(f:hZ)(a b:Array ae):xN (.func f) a b W=some (.func (.func f) a b,W):=aJ rfl rfl
def HZ(a b:ae):ap (.tuple #[a,b]) 0 W=some (a,W):=aJ rfl rfl
def Gy(a b:ae):ap (.tuple #[a,b]) 1 W=some (b,W):=aJ rfl rfl
def GX(a b c:ae):ap (.tuple #[a,b,c]) 0 W=some (a,W):=aJ rfl rfl
def H8(a b c:ae):ap (.tuple #[a,b,c]) 1 W=some (b,W):=aJ rfl rfl
def GZ(a b c:ae):ap (.tuple #[a,b,c]) 2 W=some (c,W):=aJ rfl rfl
def Va(b:Bool):aU (.bool b) true=b:=by cases b<;>exact aJ rfl rfl
def PD(b:Bool):aU (.bool b) false= !b:=by cases b<;>exact aJ rfl rfl
def Tj{ρ:Type}(a b:ρ):aQ true a b=a:=aJ rfl rfl
def QN{ρ:Type}(a b:ρ):aQ false a b=b:=aJ rfl rfl
def SD{ρ:Type}(c:Bool)(a b:Option ρ):bg (.bool c) a b=aQ c a b:=aJ rfl rfl
def MB(c:Bool)(a b:ae):bu (.bool c) a b W=some (aQ c a b,W):=by cases c<;>exact aJ rfl rfl
def HN{ρ:Type}(a b:Option ρ):sU X.normal a b=a:=aJ rfl rfl
def Nt{ρ:Type}(i:Nat)(a b:Option ρ):sU (X.exit i) a b=b:=aJ rfl rfl
def Rk{ρ:Type}(a b:Option ρ):sU X.ret a b=b:=aJ rfl rfl
def LB{ρ:Type}(i:Nat)(a b:Option ρ):di i (X.exit i) a b=a:=by show Bool.rec b a (Nat.beq i i)=a;rw[pX]
def PH{ρ:Type}(i:Nat)(a b:Option ρ):di i X.ret a b=b:=aJ rfl rfl
def Hc{ρ:Type}(i:Nat)(a b:Option ρ):di i X.normal a b=b:=aJ rfl rfl
def Qg{ρ:Type}(a:Option ρ):iq X.ret a=a:=aJ rfl rfl
def XP(b:Bool):BS P .not (.bool b) W=some (.bool (!b),W):=aJ rfl rfl
def ac7(f:hZ):cO f=.func (.func f) #[] #[]:=aJ rfl rfl
def j9{op:BinOp}{t:ai}{c d:Bool}{k:aV}{a b:Int}{v:ae}(h:Fc op k a b=some v):aw P op t c d (.int k a) (.int k b) W=some (v,W):=by unfold aw ot;simp only[ax,h]
def Cy{n:Int}(h1: -9223372036854775808<=n)(h2:n<9223372036854775808):IntKind.i64.wrap n=n:=by unfold IntKind.wrap;simp only[IntKind.bits,IntKind.signed,jK];split<;>rename_i h<;>simp at h<;>omega
def da{t:ai}{c d:Bool}{a b:Int}(h1: -9223372036854775808<=a+b)(h2:a+b<9223372036854775808):aw P .add t c d (.af a) (.af b) W=some (.af (a+b),W):=
 j9 (by simp only[Fc,rl,ym,Cy h1 h2])
def mC{t:ai}{c d:Bool}{a b:Int}(h1: -9223372036854775808<=a-b)(h2:a-b<9223372036854775808):aw P .sub t c d (.af a) (.af b) W=some (.af (a-b),W):=
 j9 (by simp only[Fc,rl,ym,Cy h1 h2])
def JQ{t:ai}{c d:Bool}{a b:Int}(h1: -9223372036854775808<=a*b)(h2:a*b<9223372036854775808):aw P .mul t c d (.af a) (.af b) W=some (.af (a*b),W):=
 j9 (by simp only[Fc,rl,ym,Cy h1 h2])
def Vu{t:ai}{c d:Bool}{k:aV}{a b:Int}:aw P .lss t c d (.int k a) (.int k b) W=some (.bool (decide (a<b)),W):=j9 rfl
def Vc{t:ai}{c d:Bool}{k:aV}{a b:Int}:aw P .leq t c d (.int k a) (.int k b) W=some (.bool (decide (a<=b)),W):=j9 rfl
def UP{t:ai}{c d:Bool}{k:aV}{a b:Int}:aw P .gtr t c d (.int k a) (.int k b) W=some (.bool (decide (b<a)),W):=j9 rfl
def VM{t:ai}{c d:Bool}{k:aV}{a b:Int}:aw P .geq t c d (.int k a) (.int k b) W=some (.bool (decide (b<=a)),W):=j9 rfl
def T2{t:ai}{c d:Bool}{k:aV}{a b:Int}:aw P .eql t c d (.int k a) (.int k b) W=some (.bool (decide (a=b)),W):=j9 rfl
def TS{t:ai}{c d:Bool}{k:aV}{a b:Int}:aw P .neq t c d (.int k a) (.int k b) W=some (.bool (!decide (a=b)),W):=j9 rfl
def KX{s:Sem ae}{v:ae}(h:cI P s=some v):yv (cI P (do pure (.value (<-s))))=some v:=by
 induction s with
 |pure a=>simp only[cI]at h;injection h with h;subst h;rfl
 |program k ih=>exact ih P h
 |_=>simp[cI]at h
def uF{op:BinOp}{t:ai}{c d:Bool}{x y v:ae}(h0:ot P W op t x y=none)(hx:bC x=true)(hy:bC y=true)(hv:bC v=true)
 (hp:cI P (do eqGuard op t (opd c) (opd d) x y;binOp op t x y:Sem ae)=some v):aw P op t c d x y W=some (v,W):=by
 unfold aw;rw[h0];simp only[j8,hx,hy,uV,bh,KX hp,hv,cS]
def xU{t:ai}{c d:Bool}{k:aV}{a b:Int}(hb:b≠0):aw P .rem t c d (.int k a) (.int k b) W=some (.int k (a.tmod b),W):=by refine uF (by simp[ot,Fc]) rfl rfl rfl ?_;simp[eqGuard,binOp,Op.intDiv,hb];rfl
def Qb{op:BinOp}(ho:op=.and\/op=.or\/op=.xor\/op=.andNot){t:ai}{c d:Bool}{k:aV}{a b n:Int}(h:cI P (Op.intBits op k a b)=some (.int k n)):aw P op t c d (.int k a) (.int k b) W=some (.int k n,W):=by refine uF (by rcases ho with rfl|rfl|rfl|rfl<;>simp[ot,Fc]) rfl rfl rfl ?_;rcases ho with rfl|rfl|rfl|rfl<;>simpa[eqGuard,binOp]using h
def UD{t:ai}{c d:Bool}{k:aV}{a b:Int}:aw P .and t c d (.int k a) (.int k b) W=some (.int k (k.wrap (BitVec.ofInt k.bits a&&&BitVec.ofInt k.bits b).toNat),W):=Qb (.inl rfl) rfl
def fq{α β:Type}(s:Sem α)(f:α->Sem β):cI P (s>>=f)=(cI P s).bind λa=>cI P (f a):=by
 induction s with
 |pure a=>rfl
 |program k ih=>exact ih P
 |_=>rfl
def fW{α:Type}(a:α):cI P (pure a:Sem α)=some a:=aJ rfl rfl
def By:cI P (program:Sem aj)=some P:=aJ rfl rfl
def fF{t:ai}{d:TypeDesc}(h:P.underlying t=some d):cI P (underlying t)=some d:=by unfold underlying;simp only[fq,By,bp,h,fW]
def zr{t:ai}{c d:Bool}{a b:ByteArray}:aw P .eql t c d (.string a) (.string b) W=some (.bool (a.toList==b.toList),W):=by
 refine uF ?_ rfl rfl rfl ?_
 ·simp only[ot];have h1:lm P W t (.string a) (.string b)=none:=by unfold lm;split<;>first|rfl|simp_all
  rw[h1];rfl
 ·rfl
def zz{t:ai}{c d:Bool}{a b:ByteArray}:aw P .neq t c d (.string a) (.string b) W=some (.bool (!(a.toList==b.toList)),W):=by
 refine uF ?_ rfl rfl rfl ?_
 ·simp only[ot];have h1:lm P W t (.string a) (.string b)=none:=by unfold lm;split<;>first|rfl|simp_all
  rw[h1];rfl
 ·rfl
def Pv{ts:Array ai}{ty:ai}{cf:Array Bool}{e:ai}(h:(ts[0]?).bind P.underlying=some (.slice e))(a:Option aW)(n c:Nat):aB P .len ts ty cf [.slice a n c] W=some (.af n,W):=by unfold aB;simp only[h];rfl
def MR(v:ae):aF P [(v,none)] W=some (v,W):=aJ rfl rfl
def Nj(v u:ae):aF P [(v,none),(u,none)] W=some (.tuple #[v,u],W):=aJ rfl rfl
def Mv(v u x:ae):aF P [(v,none),(u,none),(x,none)] W=some (.tuple #[v,u,x],W):=aJ rfl rfl
def Te:aF P [] W=some (.tuple #[],W):=aJ rfl rfl
def df{b o:Nat}{cs:List ae}{v:ae}(h:aL W b=some cs)(hv:cs[o]? =some v):aK (.pointer (some ⟨b,o,none⟩)) W=some (v,W):=by unfold aK;simp only[h,G0,hv,cS]
def eh{n b o:Nat}{cs:List ae}(h:aL W b=some cs)(hv:((cs.drop o).take n).length=n):bA n (.pointer (some ⟨b,o,none⟩)) W=some (.agg ((cs.drop o).take n).toArray,W):=by unfold bA;simp only[iu,h,hv,bh,cS]
def bk{b:Nat}{cs:List ae}(h:W.get b=some (.cells cs)):aL W b=some cs:=by unfold aL;rw[h]
def CR{b:Nat}{cs:List ae}(h:W.get b=some (.ro cs)):aL W b=some cs:=by unfold aL;rw[h]
def bE{cs:List ae}:aL (W.add (.cells cs)) W.next=some cs:=bk (W.aT _)
def tR{b:Nat}(o:eF)(h:b<W.next):aL (W.add o) b=aL W b:=by unfold aL;rw[W.br o (by omega)]
def pU{b:Nat}(cs:List ae):aL (W.put b (.cells cs)) b=some cs:=bk (W.bz _ _)
def t6{b c:Nat}(o:eF)(h:b≠c):aL (W.put b o) c=aL W c:=by unfold aL;rw[W.aE o h]
def Le.aL{W W':AW}(h:Le W W'){b:Nat}(hb:b<W.next):aL W' b=aL W b:=by unfold Eng.aL;rw[h.get b hb]
def tO{n b o:Nat}{cs:List ae}{v:ae}(h:W.get b=some (.cells cs))(hn:v.cells.size=n)(hl:o+v.cells.toList.length<=cs.length)(h1:v.cells.toList.all one=true):
 bP n (.pointer (some ⟨b,o,none⟩)) v W=some (ag,W.put b (.cells (gI cs o v.cells.toList))):=by
 unfold bP;simp only[hn,bh,CZ,h,ax (show o+v.cells.toList.length<=cs.length/\v.cells.toList.all one=true from⟨hl,h1⟩),cS]
def abO{b o off:Nat}:aO off (.pointer (some ⟨b,o,none⟩)) W=some (.pointer (some ⟨b,o+off,none⟩),W):=by unfold aO;simp only[dV]
def sf{z b o l c i:Nat}{k:aV}(h:i<l):gn z (.slice (some ⟨b,o,none⟩) l c) (.int k (i:Int)) W=some (.pointer (some ⟨b,o+i*z,none⟩),W):=by unfold gn;simp only[lD,ax h,dV]
def sJ{len z b o i:Nat}{k:aV}(h:i<len):Gt len z (.pointer (some ⟨b,o,none⟩)) (.int k (i:Int)) W=some (.pointer (some ⟨b,o+i*z,none⟩),W):=by unfold Gt;simp only[lD,ax h,dV]
end
section
variable {P:aj} {W:AW}
def VL{b o:Nat}:aK (.pointer (some ⟨b,o,none⟩)) W=(aL W b).bind λcs=>(cs[o]?).map λv=>(v,W):=by
 unfold aK;simp only;cases aL W b with
 |none=>rfl
 |some cs=>simp only[bp,G0]
def zJ{n b o:Nat}:bA n (.pointer (some ⟨b,o,none⟩)) W=(aL W b).bind λcs=>if((cs.drop o).take n).length=n then some (.agg ((cs.drop o).take n).toArray,W)else none:=by
 unfold bA;simp only[iu];cases aL W b with
 |none=>rfl
 |some cs=>
  simp only[bp];by_cases h:((cs.drop o).take n).length=n
  ·rw[ax h,ax h];rfl
  ·rw[ay h,ay h];rfl
def aH(W:AW)(b:Nat):Option (List ae):=match W.get b with|some (.cells cs)=>some cs|_=>none
def fR{b:Nat}{cs:List ae}(h:aH W b=some cs):aL W b=some cs:=by
 unfold aH at h;split at h
 ·rename_i cP hg;injection h with h;subst h;exact bk hg
 ·cases h
def iU{b:Nat}{cs:List ae}(h:W.get b=some (.cells cs)):aH W b=some cs:=by unfold aH;rw[h]
def cg{cs:List ae}:aH (W.add (.cells cs)) W.next=some cs:=iU (W.aT _)
def fT{b:Nat}(o:eF)(h:b<W.next):aH (W.add o) b=aH W b:=by unfold aH;rw[W.br o (by omega)]
def bF{b:Nat}(cs:List ae):aH (W.put b (.cells cs)) b=some cs:=iU (W.bz _ _)
def bs{b c:Nat}(o:eF)(h:b≠c):aH (W.put b o) c=aH W c:=by unfold aH;rw[W.aE o h]
def Le.aH{W W':AW}(h:Le W W'){b:Nat}(hb:b<W.next):aH W' b=aH W b:=by unfold Eng.aH;rw[h.get b hb]
def Nf{n b o:Nat}{v:ae}:bP n (.pointer (some ⟨b,o,none⟩)) v W=(aH W b).bind λcs=>if v.cells.size=n/\o+v.cells.toList.length<=cs.length/\v.cells.toList.all one=true then some (ag,W.put b (.cells (gI cs o v.cells.toList)))else none:=by
 unfold bP aH;simp only[CZ];by_cases h:v.cells.size=n
 ·rw[ax h];cases hg:W.get b with
  |none=>rfl
  |some obj=>
   cases obj with
   |cells cs=>
    simp only[bp];by_cases h2:o+v.cells.toList.length<=cs.length/\v.cells.toList.all one=true
    ·rw[ax h2,ax ⟨h,h2⟩];rfl
    ·rw[ay h2,ay (λx=>h2 x.2)];rfl
   |_=>rfl
 ·rw[ay h];cases hg:W.get b with
  |none=>rfl
  |some obj=>
   cases obj with
   |cells cs=>simp only[bp];rw[ay (λx=>h x.1)];rfl
   |_=>rfl
def wz(P:aj)(t:ai):Option Nat:=match P.underlying t with
 |some (.slice e)=>lX P e
 |_=>none
def wg{t:ai}{z:Nat}(h:wz P t=some z):∃e,P.underlying t=some (.slice e)/\lX P e=some z:=by
 unfold wz at h;split at h
 ·rename_i e hu;exact⟨e,hu,h⟩
 ·cases h
def FI{t:ai}{z:Nat}(hz:wz P t=some z){b o l c h:Nat}{k:aV}(h1:h<=c)(h2:c<gU):
 fh P t (.slice (some ⟨b,o,none⟩) l c) none (some (.int k (h:Int))) none W=some (.slice (some ⟨b,o,none⟩) h c,W):=by
 obtain⟨e,he,hz⟩:=wg hz;have hb:¬(c=gU+z/\0<z):=λx=>by omega
 have h0:((⟨b,o,none⟩:aW).add (0*z))=⟨b,o,none⟩:=by rw[dV];simp
 unfold fh mS;simp only[he,hz,gu,lD,Nat.zero_le,bh,ay hb,ax (aR h2 h1),Nat.sub_zero,h0,ite_self]
def iR(P:aj)(ts:Array ai)(z bytes:Nat):Bool:=match ts.toList with
 |[t0,t1]=>Nat.beq t0 t1&&(match jU P t0 with
  |some e=>(match lX P e,(P.info? e).map (λi=>(i.zero,i.bytes))with
   |some z',some (some zv,ad0)=>Nat.beq z' z&&Nat.beq ad0 bytes&&Nat.blt 0 z&&Nat.beq zv.cells.size z
   |_,_=>false)
  |none=>false)
 |_=>false
def lI{ts:Array ai}{z bytes:Nat}(h:iR P ts z bytes=true):∃t e zv,ts.toList=[t,t]/\jU P t=some e/\lX P e=some z/\(P.info? e).map (λi=>(i.zero,i.bytes))=some (some zv,bytes)/\0<z/\zv.cells.size=z:=by
 unfold iR at h;split at h;case h_2=>cases h
 rename_i t0 t1 hl;simp only[bK,eM]at h;obtain⟨h0,h⟩:=h;subst h0;split at h;case h_2=>cases h
 rename_i e he;split at h;case h_2=>cases h
 rename_i z' zv b' h1 h2;simp only[bK,eM,jM]at h;obtain⟨⟨⟨h3,h4⟩,h5⟩,h6⟩:=h;subst h3;subst h4;exact⟨t0,e,zv,hl,he,h1,h2,h5,h6⟩
def B7{ts:Array ai}{z bytes:Nat}(hk:iR P ts z bytes=true){b o n c:Nat}{cs new:List ae}(hc:aL W b=some cs)(hn:new=(cs.drop o).take (n*z))(hl:new.length=n*z)(h0:0<n)(h1:new.all one=true)
 (hb:n<1099511627776)(iW:(2*n+192)*bytes<=281474976710656):
 aN P W ts (.slice none 0 0) (.slice (some ⟨b,o,none⟩) n c)=some (.slice (some ⟨W.next,0,none⟩) n (gU+z),W.add (.cells new)):=by
 obtain⟨t,e,zv,k1,k2,k3,k4,k5,k6⟩:=lI hk;have hr:lu W b o (n*z)=some new:=by rw[iu,hc];simp only;rw[ax (by rw[<-hn];exact hl),hn]
 have hB:(0:Nat)<gU:=by unfold gU;omega
 have Pe:¬(0:Nat)=gU+z:=by unfold gU;omega
 have ZX:cy W (.slice (some ⟨b,o,none⟩) n c) (n*z)=some new:=by unfold cy;simp only;rw[ay (by have:=my h0 k5;omega),b8];exact hr
 have WU:cy W (.slice none 0 0) (0*z)=some []:=by unfold cy;simp
 unfold aN;simp only[k1,k2,k3,k4,bh,aI,ax (aR k5 (aR k6 (aR hb iW))),ay (show¬n=0 by omega),ZX,WU,h1,ay Pe,ax hB,nJ,kg,AW.dG]
def LA{ts:Array ai}{z bytes:Nat}(hk:iR P ts z bytes=true){b o n c:Nat}{cs new:List ae}(hc:aL W b=some cs)(hn:new=(cs.drop o).take (n*z))(hl:new.length=n*z)(h0:0<n)(h1:new.all one=true)
 {B m:Nat}{pg:List ae}(ho:W.get B=some (.cells pg))(Sl:pg.length=m*z)
 (hb:m+n<1099511627776)(iW:(2*(m+n)+192)*bytes<=281474976710656)(hm:0<m):
 aN P W ts (.slice (some ⟨B,0,none⟩) m (gU+z)) (.slice (some ⟨b,o,none⟩) n c)=some (.slice (some ⟨W.next,0,none⟩) (m+n) (gU+z),(W.kill B).add (.cells (pg++new))):=by
 obtain⟨t,e,zv,k1,k2,k3,k4,k5,k6⟩:=lI hk;have hr:lu W b o (n*z)=some new:=by rw[iu,hc];simp only;rw[ax (by rw[<-hn];exact hl),hn]
 have ZX:cy W (.slice (some ⟨b,o,none⟩) n c) (n*z)=some new:=by unfold cy;simp only;rw[ay (by have:=my h0 k5;omega),b8];exact hr
 have pM:lu W B 0 (m*z)=some pg:=by rw[iu,bk ho];simp only[kN];rw[mX (by omega),ax Sl]
 have WU:cy W (.slice (some ⟨B,0,none⟩) m (gU+z)) (m*z)=some pg:=by unfold cy;simp only;rw[ay (by have:=my hm k5;omega),b8];exact pM
 unfold aN;simp only[k1,k2,k3,k4,bh,ax (aR k5 (aR k6 (aR hb iW))),ay (show¬n=0 by omega),ZX,WU,h1,ho,AW.dG,AW.eK]
end
def LK{body:ak.Fr->AW->Option LT}:∀(n m:Nat) (I:Nat->ak.Fr->AW->Prop) (Q:LT->Prop) (R:ak.Fr) (W:AW),n<m->I 0 R W->
 (∀k R W,k<n->I k R W->∃r,body R W=some r/\((r.1=.normal/\I (k+1) r.2.1 r.2.2)\/(r.1≠ .normal/\Q r)))->
 (∀R W,I n R W->∃r,body R W=some r/\r.1≠ .normal/\Q r)->∃r,jo body m R W=some r/\r.1≠ .normal/\Q r:=by
 intro n;induction n with
 |zero=>
  intro m I Q R W hm h0 _ he;obtain⟨m,rfl⟩:∃k,m=k+1:=⟨m-1,by omega⟩;obtain⟨⟨x,R',W'⟩,h1,h2,h3⟩:=he R W h0;refine⟨_,?_,h2,h3⟩;unfold jo;rw[h1];cases x with
  |normal=>exact absurd rfl h2
  |exit i=>rfl
  |ret=>rfl
 |succ n ih=>
  intro m I Q R W hm h0 hs he;obtain⟨m,rfl⟩:∃k,m=k+1:=⟨m-1,by omega⟩;obtain⟨⟨x,R',W'⟩,h1,h2⟩:=hs 0 R W (by omega) h0;rcases h2 with⟨h2,h3⟩|⟨h2,h3⟩
  ·simp only at h2 h3;subst h2;obtain⟨r,k1,k2,k3⟩:=ih m (λk=>I (k+1)) Q R' W' (by omega) h3 (λk R W hk hI=>hs (k+1) R W (by omega) hI) he;refine⟨r,?_,k2,k3⟩;unfold jo;rw[h1];exact k1
  ·refine⟨_,?_,h2,h3⟩;unfold jo;rw[h1];cases x with
   |normal=>exact absurd rfl h2
   |exit i=>rfl
   |ret=>rfl
def Pm{body:ak.Fr->AW->Option LT}(n:Nat)(hn:n<1000000)(I:Nat->ak.Fr->AW->Prop)(Q:LT->Prop){R:ak.Fr}{W:AW}(h0:I 0 R W)
 (hs:∀k R W,k<n->I k R W->∃r,body R W=some r/\((r.1=.normal/\I (k+1) r.2.1 r.2.2)\/(r.1≠ .normal/\Q r)))
 (he:∀R W,I n R W->∃r,body R W=some r/\r.1≠ .normal/\Q r):∃r,cW body R W=some r/\Q r:=by
 rw[Iz];obtain⟨r,h1,_,h2⟩:=LK n 1000000 I Q R W hn h0 hs he;exact⟨r,h1,h2⟩
end
section
variable [ak]
def ajx(P:aj)(i nt n:Nat):Bool:=match P.funcs[i]? with
 |some fn=>fn.body.isSome&&(Nat.beq fn.ntmps nt&&Nat.ble n nt)
 |none=>false
def bH{P:aj}{bad:List Nat}{spec:Callee}{i nt n:Nat}(hb:Jh i bad=false)(hk:ajx P i nt n=true){fs cs:Array ae}{args:List ae}(hn:fs.toList.length+(args.length+cs.toList.length)=n){W:AW}{r:ae×AW}
 (h:Xo P (om P bad spec) nt (MS P i) (ZC P i) (fs.toList++(args++cs.toList)) W=some r):om P bad spec (.func (.func i) fs cs) args W=some (gc W r):=by
 unfold ajx at hk;unfold MS ZC at h;cases hf:P.funcs[i]? with
 |none=>rw[hf]at hk;cases hk
 |some fn=>
  rw[hf]at hk h;simp only[bK,eM]at hk h;obtain⟨h1,h2,h3⟩:=hk;cases hc:fn.body with
  |none=>rw[hc]at h1;cases h1
  |some c=>rw[hc]at h;simp only at h;subst h2;exact aaO hb hf hc (by rw[hn];exact h3) h
end
section
variable [ak]
@[congr] theorem aeh {α ρ:Type} {x y:Option α} {g:α->Option ρ} (h:x=y):ah x g=ah y g:=by rw[h]
@[congr] theorem ad6 {ρ:Type} {c d:Bool} {a b:ρ} (h:c=d):aQ c a b=aQ d a b:=by rw[h]
@[congr] theorem aer {ρ:Type} {c d:ae} {a b:Option ρ} (h:c=d):bg c a b=bg d a b:=by rw[h]
@[congr] theorem aaw {ρ:Type} {i:Nat} {x y:X} {a b:Option ρ} (h:x=y):di i x a b=di i y a b:=by rw[h]
@[congr] theorem ZU {ρ:Type} {x y:X} {a b:Option ρ} (h:x=y):sU x a b=sU y a b:=by rw[h]
@[congr] theorem Z5 {ρ:Type} {x y:X} {a:Option ρ} (h:x=y):iq x a=iq y a:=by rw[h]
theorem adh{W W':AW}{k:aV}{n:Int}(h:Le W W'):gc W (.int k n,W')=(.int k n,W):=tQ rfl h
def wS{W W':AW}{b:Bool}(h:Le W W'):gc W (.bool b,W')=(.bool b,W):=tQ rfl h
section
variable {P:aj} {W:AW}
def Pj{k:aV}{n:Int}(h:0<=n):lD (.int k n)=some n.toNat:=by obtain⟨m,rfl⟩:∃m:Nat,n=(m:Int):=⟨n.toNat,by omega⟩;exact aJ rfl rfl
def OQ{len z b o:Nat}{k:aV}{n:Int}(h0:0<=n)(h:n.toNat<len):Gt len z (.pointer (some ⟨b,o,none⟩)) (.int k n) W=some (.pointer (some ⟨b,o+n.toNat*z,none⟩),W):=by unfold Gt;simp only[Pj h0,ax h,dV]
def XW(g:Nat):ajy g=.pointer (some ⟨g,0,none⟩):=aJ rfl rfl
def gt(W:AW)(o o':eF):(W.add o).put W.next o'=W.add o':=by unfold AW.add AW.put;simp only[T.set_set]
def Xu(W:AW)(b:Nat)(o o':eF):(W.put b o).put b o'=W.put b o':=by unfold AW.put;simp only[T.set_set]
def Rz(cs:Array ae):(Value.agg cs).cells=cs:=aJ rfl rfl
def TD(cs:List ae)(o:Nat)(v:ae)(h:o<cs.length):gI cs o [v]=cs.set o v:=by unfold gI;rw[He];simp[h]
def gx{b o:Nat}{v:ae}(h:v.cells=#[v])(h1:one v=true):bP 1 (.pointer (some ⟨b,o,none⟩)) v W=(aH W b).bind λcs=>if o<cs.length then some (ag,W.put b (.cells (cs.set o v)))else none:=by
 rw[Nf,h];congr 1;funext cs;by_cases hl:o<cs.length
 ·rw[ax hl,ax ⟨rfl,by simp;omega,by simp[h1]⟩,TD _ _ _ hl]
 ·rw[ay hl,ay (λx=>hl (by have:=x.2.1;simp at this;omega))]
def pP{b o:Nat}{k:aV}{n:Int}:bP 1 (.pointer (some ⟨b,o,none⟩)) (.int k n) W=(aH W b).bind λcs=>if o<cs.length then some (ag,W.put b (.cells (cs.set o (.int k n))))else none:=gx rfl rfl
def Jn{b o:Nat}{x:Bool}:bP 1 (.pointer (some ⟨b,o,none⟩)) (.bool x) W=(aH W b).bind λcs=>if o<cs.length then some (ag,W.put b (.cells (cs.set o (.bool x))))else none:=gx rfl rfl
def Nc{b o:Nat}{x:ByteArray}:bP 1 (.pointer (some ⟨b,o,none⟩)) (.string x) W=(aH W b).bind λcs=>if o<cs.length then some (ag,W.put b (.cells (cs.set o (.string x))))else none:=gx rfl rfl
def QH{b o:Nat}{x:Option aW}{l c:Nat}:bP 1 (.pointer (some ⟨b,o,none⟩)) (.slice x l c) W=(aH W b).bind λcs=>if o<cs.length then some (ag,W.put b (.cells (cs.set o (.slice x l c))))else none:=gx rfl rfl
def vf{n b o:Nat}{vs:Array ae}:bP n (.pointer (some ⟨b,o,none⟩)) (.agg vs) W=(aH W b).bind λcs=>if vs.size=n/\o+vs.toList.length<=cs.length/\vs.toList.all one=true then some (ag,W.put b (.cells (gI cs o vs.toList)))else none:=Nf
def kA(k:aV)(n:Int):one (.int k n)=true:=aJ rfl rfl
def jH(s:ByteArray):one (.string s)=true:=aJ rfl rfl
def SW(s:Bool):one (.bool s)=true:=aJ rfl rfl
def Qz(a:Option aW)(l c:Nat):one (.slice a l c)=true:=aJ rfl rfl
def T6{r:Option (ae×AW)}{u v:ae}{W':AW}(h:r=some (u,W'))(h2:fK u v=true):rE true r v=true:=by subst h;exact h2
def Gg(k:aV)(n:Int):fK (.int k n) (.int k n)=true:=by simp[fK,tr]
def NA(b:Bool):fK (.bool b) (.bool b)=true:=by simp[fK,tr]
def GH(s:ByteArray):fK (.string s) (.string s)=true:=by simp[fK,tr,xF]
def hX{t:ai}{c d:Bool}{x y:Array ae}{r:Bool}(hg:P.eqGuardType P.depth t=false)(h:Ba P 8 t (.agg x) (.agg y)=some r):aw P .neq t c d (.agg x) (.agg y) W=some (.bool (!r),W):=by
 have h0:lm P W t (.agg x) (.agg y)=none:=by unfold lm;split<;>first|rfl|simp_all
 unfold aw ot;simp only[h0,Ei,hg,gO,bR,h,cS]
def lB:List (Int×Int)->Option Bool
 |[]=>some true
 |p::l=>match some (p.1==p.2)with
  |some true=>lB l
  |some false=>some false
  |none=>none
def kh:∀l:List (Int×Int),lB l=some (l.all λp=>p.1==p.2)
 |[]=>rfl
 |p::l=>by
  unfold lB;cases h:p.1==p.2 with
  |true=>simp only[fa,h,jK];exact kh l
  |false=>simp only[fa,h,kP]
def NZ(k:aV)(n:Int):tr (.int k n) (.int k n)=true:=by simp[tr]
def DO(s:ByteArray):tr (.string s) (.string s)=true:=by simp[tr,xF]
def TG(s:Bool):tr (.bool s) (.bool s)=true:=by simp[tr]
def lH(b o l c:Nat):tr (.slice (some ⟨b,o,none⟩) l c) (.slice (some ⟨b,o,none⟩) l c)=true:=by simp[tr,wJ]
def yD(l c:Nat):tr (.slice none l c) (.slice none l c)=true:=by simp[tr]
def OG(b o:Nat):tr (.pointer (some ⟨b,o,none⟩)) (.pointer (some ⟨b,o,none⟩))=true:=by simp[tr,wJ]
def nW{cs:Array ae}(h:Sv cs.toList cs.toList=true):fK (.agg cs) (.agg cs)=true:=h
def NB(a b c d:ae)(h1:tr a a=true)(h2:tr b b=true)(h3:tr c c=true)(h4:tr d d=true):fK (.agg #[a,b,c,d]) (.agg #[a,b,c,d])=true:=nW (by simp[Sv,h1,h2,h3,h4])
def mH(b o l c:Nat):fK (.slice (some ⟨b,o,none⟩) l c) (.slice (some ⟨b,o,none⟩) l c)=true:=lH b o l c
def wG(l c:Nat):fK (.slice none l c) (.slice none l c)=true:=yD l c
def QM(b o:Nat):fK (.pointer (some ⟨b,o,none⟩)) (.pointer (some ⟨b,o,none⟩))=true:=OG b o
def kE{u v:ae}{W':AW}:rE true (some (u,W')) v=fK u v:=aJ rfl rfl
end
def Ok{ρ:Type}(t:Option ρ)(G:ρ->Prop):Prop:=∃x,t=some x/\G x
def am{ρ:Type}{x:ρ}{G:ρ->Prop}:Ok (some x) G<->G x:=⟨λ⟨y,h,g⟩=>by injection h with h;subst h;exact g,λg=>⟨x,rfl,g⟩⟩
def Ok.mono{ρ:Type}{t:Option ρ}{G H:ρ->Prop}(h:Ok t G)(hg:∀x,G x->H x):Ok t H:=let⟨x,a,b⟩:=h;⟨x,a,hg x b⟩
def bY{ρ:Type}{body:ak.Fr->AW->Option LT}{R:ak.Fr}{W:AW}{K:LT->Option ρ}{G:ρ->Prop}(n:Nat)(hn:n<1000000)(I:Nat->ak.Fr->AW->Prop)(Q:LT->Prop)(h0:I 0 R W)
 (hs:∀k R W,k<n->I k R W->Ok (body R W) λr=>(r.1=.normal/\I (k+1) r.2.1 r.2.2)\/(r.1≠ .normal/\Q r))
 (he:∀R W,I n R W->Ok (body R W) λr=>r.1≠ .normal/\Q r)(hk:∀r,Q r->Ok (K r) G):Ok (ah (cW body R W) K) G:=by
 obtain⟨r,h1,h2⟩:=Pm n hn I Q h0 hs he;rw[h1,wX];exact hk r h2
def bT{o t:Option (ae×AW)}{v:ae}{W:AW}(hv:(bC v&& !isU v)=true)(h:Ok t λr=>r.1=v/\Le W r.2)(Li:∀{r},t=some r->o=some (gc W r)):o=some (v,W):=by obtain⟨⟨u,W'⟩,h1,h2,h3⟩:=h;simp only at h2;subst h2;rw[Li h1,tQ hv h3]
def Row{α:Type}(W:AW)(z:Nat)(at_:List ae->Nat->α->Prop)(v:ae)(l:List α):Prop:=
 ∃a c,v=.slice a l.length c/\(l=[]\/∃b o cs,a=some ⟨b,o,none⟩/\b<W.next/\aL W b=some cs/\∀i (h:i<l.length),at_ cs (o+i*z) l[i])
def xv(k:aV)(cs:List ae)(p:Nat)(n:Int):Prop:=cs[p]? =some (.int k n)
abbrev kr(W:AW)(v:ae)(l:List Int):Prop:=Row W 1 (xv .i64) v l
def Row.mono{α:Type}{W W':AW}{z:Nat}{at_:List ae->Nat->α->Prop}{v:ae}{l:List α}(h:Row W z at_ v l)(a8:Le W W'):Row W' z at_ v l:=by
 obtain⟨a,c,rfl,h⟩:=h;refine⟨a,c,rfl,?_⟩;rcases h with h|⟨b,o,cs,h1,h2,h3,h4⟩
 ·exact .inl h
 ·exact .inr ⟨b,o,cs,h1,fM h2 a8.next,by rw[a8.aL h2];exact h3,h4⟩
def Row.len{α:Type}{W:AW}{z:Nat}{at_:List ae->Nat->α->Prop}{v:ae}{l:List α}(h:Row W z at_ v l){P:aj}{ts:Array ai}{e:ai}(ht:(ts[0]?).bind P.underlying=some (.slice e))(W':AW)(ty:ai)(cf:Array Bool):
 aB P .len ts ty cf [v] W'=some (.af l.length,W'):=by
 obtain⟨a,c,rfl,_⟩:=h;exact Pv ht _ _ _
def Row.elem{α:Type}{W:AW}{z:Nat}{at_:List ae->Nat->α->Prop}{v:ae}{l:List α}(h:Row W z at_ v l){i:Nat}(hi:i<l.length):
 ∃b o cs,(∀W' k,gn z v (.int k (i:Int)) W'=some (.pointer (some ⟨b,o,none⟩),W'))/\b<W.next/\aL W b=some cs/\at_ cs o l[i]:=by
 obtain⟨a,c,rfl,h⟩:=h;rcases h with rfl|⟨b,o,cs,rfl,h2,h3,h4⟩
 ·simp at hi
 ·exact⟨b,o+i*z,cs,λW' k=>sf hi,h2,h3,h4 i hi⟩
def kr.get{W:AW}{v:ae}{l:List Int}(h:kr W v l){i:Nat}(hi:i<l.length):
 ∃p,(∀W' k,gn 1 v (.int k (i:Int)) W'=some (p,W'))/\∀W',Le W W'->aK p W'=some (.af l[i],W'):=by
 obtain⟨b,o,cs,h1,h2,h3,h4⟩:=h.elem hi;exact⟨_,h1,λW' a8=>df (by rw[a8.aL h2];exact h3) h4⟩
end
end Go.Eng
namespace Go.Eng
open Go Go.RowKit
section
variable [ak]
def LU:Option (ae×AW)->Bool
 |some (v,_)=>match v with
  |.bool b=>b
  |_=>false
 |none=>false
def Qf{r:Option (ae×AW)}(h:LU r=true):∃W,r=some (.bool true,W):=by
 unfold LU at h;split at h
 ·rename_i v W;split at h
  ·subst h;exact⟨W,rfl⟩
  ·cases h
 ·cases h
def adG{P:aj}{ng:List Nat}:cw P ng (λ_ _ _=>none):=λf args W v W' h=>by cases h
def Nn(W w':au):Prop:=W.keptBut w' (λ_=>False)/\(∀a:aW,a.block<W.heap.size->w'.frozen? a=W.frozen? a)/\W.heap.size<=w'.heap.size
def Nn.frame{W w':au}(h:Nn W w')(may:dO->Prop):W.keptBut w' may:=World.keptBut_mono (λ_ f=>f.elim) h.1
def Lu{σ:dj}:∀{args:List ae},args.all bC=true->LR σ args args:=by intro args h;exact LR.mz (λv=>iO) h
end
section
variable [ak]
def σG(gs:List (Nat×List ae)):dj:=λb=>(gs.find? (λx=>x.1==b)).map λx=>⟨x.1,0,x.2.length⟩
def C4(gs:List (Nat×List ae)):T eF:=gs.foldr (λx t=>T.set (some (.ro x.2)) (path x.1) t) .lf
def WG(gs:List (Nat×List ae))(N:Nat):AW:=⟨C4 gs,N⟩
def vm(b:Nat):∀gs:List (Nat×List ae),T.get (path b) (C4 gs)=(gs.find? (λx=>x.1==b)).map λx=>eF.ro x.2
 |[]=>T.zc _
 |x::gs=>by
  show T.get (path b) (T.set (some (.ro x.2)) (path x.1) (C4 gs))=_;by_cases h:x.1=b
  ·subst h;rw[T.kn];simp
  ·rw[T.gi _ _ _ _ (vi h),vm b gs];have hb:(x.1==b)=false:=by simpa using h
   rw[List.find?_cons,hb]
def vI(gs:List (Nat×List ae))(h:Array Obj):Prop:=
 ∀x∈gs,∃c t fr,h[x.1]? =some (.cells c t fr)/\∀(i:Nat) (v:ae),x.2[i]? =some v->c[i]? =some v/\cG v=true
def qJ{gs:List (Nat×List ae)}{b:Nat}{g:tu}(h:σG gs b=some g):∃x∈gs,x.1=b/\g=⟨b,0,x.2.length⟩/\T.get (path b) (C4 gs)=some (eF.ro x.2):=by
 unfold σG at h;cases hf:gs.find? (λx=>x.1==b)with
 |none=>rw[hf]at h;cases h
 |some x=>
  rw[hf]at h;have hb:x.1=b:=by simpa using List.find?_some hf
  refine⟨x,HV hf,hb,?_,?_⟩
  ·cases h;subst hb;rfl
  ·show T.get (path b) (C4 gs)=_;rw[vm,hf];rfl
def ZT{gs:List (Nat×List ae)}{N:Nat}(hN:gs.all (λx=>Nat.blt x.1 N)=true){h:Array Obj}(hl:vI gs h):bt (σG gs) (WG gs N) h where
 free b hb:=by
  show T.get (path b) (C4 gs)=none;rw[vm];cases hf:gs.find? (λx=>x.1==b)with
  |none=>rfl
  |some x=>
   have SA:x.1=b:=by simpa using List.find?_some hf
   have:=cM.1 hN x (HV hf);have:x.1<N:=by simpa[jM]using this
   exact absurd hb (by show¬N<=b;omega)
 pd b g hb:=by
  obtain⟨x,hx,rfl,rfl,_⟩:=qJ hb;obtain⟨c,t,fr,h1,_⟩:=hl x hx;have:=cM.1 hN x hx;have h3:x.1<N:=by simpa[jM]using this
  exact⟨h3,(dW.1 h1).1⟩
 obj b o g hb hg:=by obtain⟨x,hx,rfl,rfl,ht⟩:=qJ hg;obtain⟨c,t,fr,h1,h2⟩:=hl x hx;obtain rfl:o=.ro x.2:=wU (hb.symm.trans ht);exact⟨c,t,fr,h1,by simp,λi v hv=>⟨v,by simpa using(h2 i v hv).1,eS (h2 i v hv).2⟩⟩
 pn b1 b2 o1 o2 g1 g2 fk _ _ h1 h2 _:=by obtain⟨x1,_,rfl,rfl,_⟩:=qJ h1;obtain⟨x2,_,rfl,rfl,_⟩:=qJ h2;exact .inl fk
def Ur{gs:List (Nat×List ae)}{ng:List Nat}(h:ng.all (λg=>(gs.find? (λx=>x.1==g)).isSome)=true):vH (σG gs) ng:=by
 intro g hg;have:=cM.1 h g hg;cases hf:gs.find? (λx=>x.1==g)with
 |none=>rw[hf]at this;cases this
 |some x=>
  have SA:x.1=g:=by simpa using List.find?_some hf
  exact⟨x.2.length,by unfold σG;rw[hf];subst SA;rfl⟩
def afR{gs:List (Nat×List ae)}{N:Nat}{B:Nat}:¬Mut (σG gs) (WG gs N) B:=by rintro⟨b,g,hg,_,pM⟩;obtain⟨x,_,_,_,ht⟩:=qJ hg;exact pM x.2 ht
end
end Go.Eng
namespace Go.Eng
open Go Go.RowKit Go.ChangeShapes
section
variable {H:Type} {enc:ai×ae->H} {P:aj} {w:au} {base:Nat} {WM:Nat->Bool} {held:Bool}
end
end Go.Eng
namespace Go.Eng
open Go Go.RowKit
open Go.Maps (Keyed)
section
variable [ak]
section
variable {H:Type}
def YD(j:Nat)(g b:Bool):List (Lit×ce H):=match g with|true=>[(.af ((2^ j:Nat):Int),.lit (.bool b))]|false=>[]
def Hy(g0 g1 g2 g3 g4 g5 g6 g7 b0 b1 b2 b3 b4 b5 b6 b7:Bool):ce H:=
 .map (YD 0 g0 b0++(YD 1 g1 b1++(YD 2 g2 b2++(YD 3 g3 b3++(YD 4 g4 b4++(YD 5 g5 b5++(YD 6 g6 b6++YD 7 g7 b7)))))))
variable (g0 g1 g2 g3 g4 g5 g6 g7 b0 b1 b2 b3 b4 b5 b6 b7:Bool)
def ano:(Hy (H:=H) g0 g1 g2 g3 g4 g5 g6 g7 b0 b1 b2 b3 b4 b5 b6 b7).put (.af 1) (.lit (.bool b0))=Hy true g1 g2 g3 g4 g5 g6 g7 b0 b1 b2 b3 b4 b5 b6 b7:=by cases g0<;>cases g1<;>cases g2<;>cases g3<;>cases g4<;>cases g5<;>cases g6<;>cases g7<;>rfl
def akU:(Hy (H:=H) g0 g1 g2 g3 g4 g5 g6 g7 b0 b1 b2 b3 b4 b5 b6 b7).put (.af 2) (.lit (.bool b1))=Hy g0 true g2 g3 g4 g5 g6 g7 b0 b1 b2 b3 b4 b5 b6 b7:=by cases g0<;>cases g1<;>cases g2<;>cases g3<;>cases g4<;>cases g5<;>cases g6<;>cases g7<;>rfl
def akN:(Hy (H:=H) g0 g1 g2 g3 g4 g5 g6 g7 b0 b1 b2 b3 b4 b5 b6 b7).put (.af 4) (.lit (.bool b2))=Hy g0 g1 true g3 g4 g5 g6 g7 b0 b1 b2 b3 b4 b5 b6 b7:=by cases g0<;>cases g1<;>cases g2<;>cases g3<;>cases g4<;>cases g5<;>cases g6<;>cases g7<;>rfl
def amn:(Hy (H:=H) g0 g1 g2 g3 g4 g5 g6 g7 b0 b1 b2 b3 b4 b5 b6 b7).put (.af 8) (.lit (.bool b3))=Hy g0 g1 g2 true g4 g5 g6 g7 b0 b1 b2 b3 b4 b5 b6 b7:=by cases g0<;>cases g1<;>cases g2<;>cases g3<;>cases g4<;>cases g5<;>cases g6<;>cases g7<;>rfl
def amC:(Hy (H:=H) g0 g1 g2 g3 g4 g5 g6 g7 b0 b1 b2 b3 b4 b5 b6 b7).put (.af 16) (.lit (.bool b4))=Hy g0 g1 g2 g3 true g5 g6 g7 b0 b1 b2 b3 b4 b5 b6 b7:=by cases g0<;>cases g1<;>cases g2<;>cases g3<;>cases g4<;>cases g5<;>cases g6<;>cases g7<;>rfl
def al8:(Hy (H:=H) g0 g1 g2 g3 g4 g5 g6 g7 b0 b1 b2 b3 b4 b5 b6 b7).put (.af 32) (.lit (.bool b5))=Hy g0 g1 g2 g3 g4 true g6 g7 b0 b1 b2 b3 b4 b5 b6 b7:=by cases g0<;>cases g1<;>cases g2<;>cases g3<;>cases g4<;>cases g5<;>cases g6<;>cases g7<;>rfl
def anu:(Hy (H:=H) g0 g1 g2 g3 g4 g5 g6 g7 b0 b1 b2 b3 b4 b5 b6 b7).put (.af 64) (.lit (.bool b6))=Hy g0 g1 g2 g3 g4 g5 true g7 b0 b1 b2 b3 b4 b5 b6 b7:=by cases g0<;>cases g1<;>cases g2<;>cases g3<;>cases g4<;>cases g5<;>cases g6<;>cases g7<;>rfl
def Xt:(Hy (H:=H) g0 g1 g2 g3 g4 g5 g6 g7 b0 b1 b2 b3 b4 b5 b6 b7).put (.af 128) (.lit (.bool b7))=Hy g0 g1 g2 g3 g4 g5 g6 true b0 b1 b2 b3 b4 b5 b6 b7:=by cases g0<;>cases g1<;>cases g2<;>cases g3<;>cases g4<;>cases g5<;>cases g6<;>cases g7<;>rfl
end
def Me{H:Type}{P:aj}{k e t:ai}{w:au}{R:ae->Option (ce H×List dO)}{b n:Nat}{D:ce H}(h:w.ownsMap P k R b n D)(K:Keyed P k)(ht:P.underlying t=some (.map k e))(hn:n<maxLen){key val:ae}{kl:Lit}{d:ce H}{ps:List dO}
 (KV:keyOf P k key=some kl)(hv:R val=some (d,ps)):∃w',(Instr.mapUpdate t (.map (some b)) key val).run P w=.ok () w'/\w'.ownsMap P k R b (n+1) (D.put kl d)/\w.grownBy w' (some b)/\w'.heap.size=w.heap.size:=by
 obtain⟨w',h1,h2,h3⟩:=h.update K ht hn KV hv;obtain⟨es,j5,hb,F,hs,rfl⟩:=h;obtain⟨gj,anv,eE,_⟩:=Maps.fit_store (R':=R) K ht hb F (Nat.lt_of_le_of_lt hs hn) (λ_ _ _ _ hz=>hz) KV hv;refine⟨w',h1,h2,h3,?_⟩;rw[eE]at h1;injection h1 with _ h1;rw[<-h1];simp[Go.ChangeMaps.setBlock]
def Ji{H:Type}{P:aj}{k:ai}{w:au}{R:ae->Option (ce H×List dO)}{b n:Nat}{D:ce H}(h:w.ownsMap P k R b n D){a:aW}(ha:a.block=b):w.frozen? a=false:=by obtain⟨es,j5,hb,_⟩:=h;unfold World.frozen?;rw[ha,hb]
def nQ{w:au}{a:aW}(h:w.heap.size<=a.block):w.frozen? a=false:=by unfold World.frozen?;rw[uA h]
def yR{σ0 σ:dj}{W0 W:AW}{w0 w w':au}(h:eW σ0 W0 w0 σ W w){m:Nat}(hm:w0.heap.size<=m)(hg:w.grownBy w' (some m))(Eu:∀a,w'.frozen? a=w.frozen? a):eW σ0 W0 w0 σ W w':=
 ⟨h.sub,h.ro,gQ h.size hg.size,hg.os.trans h.os,hg.tape.trans h.tape,hg.output.trans h.output,
  λB hB hn=>(hg.block B (fM hB h.size) (λe=>by injection e with e;omega)).trans (h.dq B hB hn),h.ghost,h.grow⟩
def zx{σ:dj}{W:AW}{w w':au}(h:bt σ W w.heap){m:Nat}(hm:∀b g,σ b=some g->g.B≠m)(hg:w.grownBy w' (some m)):bt σ W w'.heap where
 free:=h.free
 pd b g hb:=⟨(h.pd b g hb).1,fM (h.pd b g hb).2 hg.size⟩
 obj b o g hb hσ:=(h.obj b o g hb hσ).same (hg.block _ (h.pd b g hσ).2 (λe=>by injection e with e;exact hm b g hσ e))
 pn:=h.pn
def wx(e:Nat)(o:ao):Bool:=o.after.any λx=>Region.binds .any x&&Nat.beq x.on e
def fZ{e:Nat}{o:ao}{listed:Array Bool}(h:wx e o=true)(hr:∀x∈o.after,Region.binds .any x=true->listed.getD x.on false=true):listed.getD e false=true:=by unfold wx at h;rw[Array.any_eq_true']at h;obtain⟨x,hx,hb⟩:=h;rw[bK,eM]at hb;obtain⟨hb,rfl⟩:=hb;exact hr x hx hb
def Tr(ops:Array ao)(o:ao)(x:aq):Bool:=match x with
 |.const v=>bC v
 |.tmp t=>Nat.beq t 1||o.after.any λe=>Region.binds .any e&&(match ops[e.on]? with|some o'=>(match o'.dst with|some d=>Nat.beq d t&&(Nat.blt 14 d&&Nat.blt d 40)|none=>false)|none=>false)
 |_=>false
def My(ops:Array ao)(o:ao):Bool:=o.guard.isNone&&(match o.dst with|some d=>Nat.blt 14 d&&Nat.blt d 40|none=>false)&&o.op.operands.toList.all (Tr ops o)
def pV(ops:Array ao)(TM key s k:Nat)(o:ao):Bool:=o.guard.isNone&&o.dst.isNone&&wx 0 o&&wx k o&&
 (match o.op with|.insert t (.tmp m) (.const (.int .i64 (.ofNat n))) (.tmp v)=>Nat.beq t TM&&Nat.beq m 14&&Nat.beq n key&&Nat.beq v s&&Nat.blt 14 s&&Nat.blt s 40|_=>false)&&
 (match ops[k]? with|some o'=>(match o'.dst with|some d=>Nat.beq d s|none=>false)|none=>false)
def iX(ops:Array ao)(TM:Nat)(i:Nat)(o:ao):Bool:=match i with
 |0=>o.guard.isNone&&(match o.op,o.dst with|.makeMap t none,some d=>Nat.beq t TM&&Nat.beq d 14|_,_=>false)
 |4=>pV ops TM 1 17 3 o
 |8=>pV ops TM 2 20 7 o
 |12=>pV ops TM 4 23 11 o
 |16=>pV ops TM 8 26 15 o
 |20=>pV ops TM 16 29 19 o
 |24=>pV ops TM 32 32 23 o
 |29=>pV ops TM 64 36 28 o
 |33=>pV ops TM 128 39 32 o
 |34=>o.guard.isNone&&(match o.op,o.dst with|.move (.tmp x),some d=>Nat.beq x 14&&Nat.beq d 40|_,_=>false)&&(List.range 34).all λe=>wx e o
 |35=>o.guard.isNone&&(match o.op,o.dst with|.range t (.tmp x),some d=>Nat.beq t TM&&Nat.beq x 40&&Nat.beq d 41|_,_=>false)&&wx 34 o
 |_=>My ops o
def iB(i:Nat):Bool:=match i with|0|4|8|12|16|20|24|29|33|34|35=>false|_=>true
def Hx(i:Nat)(o:ao):Bool:=o.after.all λe=>Nat.blt e.on i
def Hj(ops:Array ao)(TM:Nat):Bool:=Nat.beq ops.size 36&&(List.range 36).all λi=>match ops[i]? with|some o=>iX ops TM i o&&Hx i o|none=>false
def sN{P:aj}{ops:Array ao}{Q:dh->ba->au->Prop}{i:Nat}{K:ba->au->Prop}{a:ba}{w w':au}{o:ao}{v:ae}(ho:ops[i]? =some o)(hg:o.guard=none)
 (h:(execOp a.eval o).run P w=.ok (.value v) w')(hk:K (a.put o.dst v) w'):wpOp P ops Q i K a w:=by
 unfold wpOp;rw[ho];have:Region.wanted o (yielded ops a.tmps)=true:=by unfold Region.wanted;rw[hg]
 simp only[this,bh];refine .inl ?_;unfold Oper.wp;rw[h];exact hk
def Fq{P:aj}{ops:Array ao}{Q:dh->ba->au->Prop}{i:Nat}{K:ba->au->Prop}{a:ba}{w w':au}{o:ao}(ho:ops[i]? =some o)(hg:o.guard=none)
 (h:(execOp a.eval o).run P w=.ok .skip w')(hk:K (a.put o.dst ag) w'):wpOp P ops Q i K a w:=by
 unfold wpOp;rw[ho];have:Region.wanted o (yielded ops a.tmps)=true:=by unfold Region.wanted;rw[hg]
 simp only[this,bh];refine .inl ?_;unfold Oper.wp;rw[h];exact hk
section
variable {P:aj} {ops:Array ao} {nt TM TK TE:Nat} {σ0:dj} {W:AW} {R:ak.Fr} {w0:au} {mQ:Array ae} {ds:List dM} {b0 b1 b2 b3 b4 b5 b6 b7:Bool} {l:Array Bool} {a:ba} {w:au}
def Dl(l:Array Bool)(b0 b1 b2 b3 b4 b5 b6 b7:Bool):ce Unit:=
 Hy (l.getD 4 false) (l.getD 8 false) (l.getD 12 false) (l.getD 16 false) (l.getD 20 false) (l.getD 24 false) (l.getD 29 false) (l.getD 33 false) b0 b1 b2 b3 b4 b5 b6 b7
structure RB (ops:Array ao) (nt:Nat) (mQ:Array ae) (ds:List dM) (l:Array Bool) (a:ba):Prop where
 vU:l.size=36
 Lc:a.tmps.size=nt
 Xe:a.defers=ds
 down:∀i,l.getD i false=true->∀o,ops[i]? =some o->∀e∈o.after,Region.binds .any e=true->l.getD e.on false=true
 pg:∀t,(t<14\/41<t)->a.tmps[t]? =mQ[t]?
def RM(P:aj)(TK TE:Nat)(w0:au)(b0 b1 b2 b3 b4 b5 b6 b7:Bool)(l:Array Bool)(a:ba)(w:au)(σ:dj)(m n:Nat):Prop:=
 (∀b g,σ b=some g->g.B≠m)/\w0.heap.size<=m/\a.tmps.getD 14 ag=.map (some m)/\n<=(List.range 36).countP (λi=>l.getD i false)/\(l.getD 34 false=true->a.tmps.getD 40 ag=.map (some m))/\
  (l.getD 35 false=false->w.ownsMap P TK (plainElem P TE) m n (Dl l b0 b1 b2 b3 b4 b5 b6 b7))/\
  (l.getD 35 false=true->∃r,a.tmps.getD 41 ag=.pointer (some ⟨r,0,none⟩)/\(∀b g,σ b=some g->g.B≠r)/\w0.heap.size<=r/\
    w.ranges P TK (plainElem P TE) m r n (Dl l b0 b1 b2 b3 b4 b5 b6 b7) (Maps.has (Dl l b0 b1 b2 b3 b4 b5 b6 b7)) (Maps.size (Dl l b0 b1 b2 b3 b4 b5 b6 b7)))
structure RI (P:aj) (ops:Array ao) (nt TK TE:Nat) (σ0:dj) (W:AW) (R:ak.Fr) (w0:au) (mQ:Array ae) (ds:List dM) (b0 b1 b2 b3 b4 b5 b6 b7:Bool)
 (l:Array Bool) (a:ba) (w:au):Prop where
 base:RB ops nt mQ ds l a
 aod:∃σ,bt σ W w.heap/\eW σ0 W w0 σ W w/\(∀i o d,ops[i]? =some o->iB i=true->l.getD i false=true->o.dst=some d->VR σ (dg R d) (a.tmps.getD d ag))/\
  (l.getD 0 false=true->∃m n,RM P TK TE w0 b0 b1 b2 b3 b4 b5 b6 b7 l a w σ m n)
structure RF (P:aj) (ops:Array ao) (nt TM TK TE:Nat) (σ0:dj) (W:AW) (R:ak.Fr) (mQ:Array ae) (b0 b1 b2 b3 b4 b5 b6 b7:Bool):Prop where
 size:ops.size=36
 shape:∀i o,ops[i]? =some o->iX ops TM i o=true
 back:∀i o,ops[i]? =some o->Hx i o=true
 anE:∀i o d,ops[i]? =some o->iB i=true->o.dst=some d->∀(σ:dj) (w:au) (ρ:aq->ae),bt σ W w.heap->(∀x∈o.op.operands,VR σ (aC R x) (ρ x))->vB P σ W w (execOp ρ o) (dg R d) W
 v0:dg R 17=.bool b0
 v1:dg R 20=.bool b1
 v2:dg R 23=.bool b2
 v3:dg R 26=.bool b3
 v4:dg R 29=.bool b4
 v5:dg R 32=.bool b5
 v6:dg R 36=.bool b6
 v7:dg R 39=.bool b7
 ptr:VR σ0 (dg R 1) (mQ.getD 1 ag)
 nt:42<=nt
 TM:P.underlying TM=some (.map TK TE)
 TK:P.underlying TK=some (.int .i64)
 TE:P.underlying TE=some .bool
def uZ{l:Array Bool}{i:Nat}(hi:i<36)(hs:l.size=36)(h:l.getD i false=false):(List.range 36).countP (λk=>l.getD k false)+1<=(List.range 36).countP (λk=>(l.setIfInBounds i true).getD k false):=by
 refine F4 (x:=i) (by simpa using hi) (dx (by omega) false) h λy hy=>?_
 by_cases e:i=y
 ·subst e;exact dx (by omega) false
 ·rw[aX e];exact hy
def T5{l:Array Bool}:(List.range 36).countP (λk=>l.getD k false)<=36:=by have:=List.countP_le_length (p:=λk=>l.getD k false) (l:=List.range 36);simpa using this
def lF{l:Array Bool}{i:Nat}(h:l.getD i true=false)(hi:i<l.size):l.getD i false=false:=by simp only[uo]at h|-;rw[g9 hi]at h|-;exact h
def zR(hF:RF P ops nt TM TK TE σ0 W R mQ b0 b1 b2 b3 b4 b5 b6 b7){i:Nat}{o:ao}(ho:ops[i]? =some o):o.guard=none/\(iB i=true->(∃d,o.dst=some d/\14<d/\d<40)/\o.op.operands.toList.all (Tr ops o)=true)/\
 (∀d,o.dst=some d->14<=d/\d<=41)/\(∀d,o.dst=some d->14<d->d<40->iB i=true):=by
 have hs:=hF.shape i o ho;by_cases hp:iB i=true
 ·have hq:My ops o=true:=by unfold iX at hs;unfold iB at hp;split at hs<;>first|exact hs|(simp at hp;done)
  unfold My at hq;simp only[bK,C8]at hq;obtain⟨⟨h1,h2⟩,h3⟩:=hq;cases hd:o.dst with
  |none=>rw[hd]at h2;cases h2
  |some d=>rw[hd]at h2;simp only[bK,jM]at h2;refine⟨h1,λ_=>⟨⟨d,rfl,h2⟩,h3⟩,λd' e=>?_,λ_ _ _ _=>hp⟩;injection e with e;subst e;exact⟨Nat.le_of_lt h2.1,Nat.le_of_lt (Nat.lt_trans h2.2 (by decide))⟩
 ·refine⟨?_,λh=>absurd h hp,?_,?_⟩
  ·unfold iX at hs;unfold iB at hp;split at hs<;>simp_all[pV]
  ·intro d hd;unfold iX at hs;unfold iB at hp;split at hs<;>simp_all[pV];all_goals(first|(split at hs<;>simp_all)|skip)
   all_goals omega
  ·intro d hd h1 h2;exfalso;unfold iX at hs;unfold iB at hp;split at hs<;>simp_all[pV];all_goals(first|(split at hs<;>simp_all)|skip)
   all_goals omega
def RB.step(hB:RB ops nt mQ ds l a)(hF:RF P ops nt TM TK TE σ0 W R mQ b0 b1 b2 b3 b4 b5 b6 b7){i:Nat}{o:ao}(ho:ops[i]? =some o)
 (hr:∀e∈o.after,Region.binds .any e=true->l.getD e.on false=true)(v:ae):RB ops nt mQ ds (l.setIfInBounds i true) (a.put o.dst v):=by
 obtain⟨_,_,hd,_⟩:=zR hF ho;have hi:i<l.size:=by rw[hB.vU,<-hF.size];exact(dW.1 ho).1
 have vL:∀k,l.getD k false=true->(l.setIfInBounds i true).getD k false=true:=λk hk=>by
  by_cases e:i=k
  ·subst e;exact dx hi _
  ·rw[aX e];exact hk
 refine⟨by simp[hB.vU],by rw[Ct];exact hB.Lc,by rw[oy];exact hB.Xe,?_,?_⟩
 ·intro k hk o' im e he hb;by_cases e1:i=k
  ·subst e1;rw[ho]at im;injection im with im;subst im;exact vL _ (hr e he hb)
  ·rw[aX e1]at hk;exact vL _ (hB.down k hk o' im e he hb)
 ·intro t ht;rw[<-hB.pg t ht];cases hq:o.dst with
  |none=>rfl
  |some d=>
   have:=hd d hq;show(a.tmps.setIfInBounds d v)[t]? =a.tmps[t]?;rw[Dm];rintro rfl;rcases ht with h|h
   ·exact absurd (fM h this.1) (Nat.lt_irrefl _)
   ·exact absurd (fM h this.2) (Nat.lt_irrefl _)
def O7{σ σ':dj}{W W':AW}{w w':au}(he:eW σ W w σ' W' w'){m:Nat}(hm:m<w.heap.size)(hn:∀b g,σ b=some g->g.B≠m):(∀b g,σ' b=some g->g.B≠m)/\w'.heap[m]? =w.heap[m]? :=by
 have hnm:¬Mut σ W m:=by rintro⟨b,g,h1,h2,_⟩;exact hn b g h1 h2
 refine⟨λb g hb e=>?_,he.dq m hm hnm⟩;subst e;rcases he.grow b g hb hm with h1|h1
 ·exact hn b g h1 rfl
 ·exact hnm h1
def UW{H:Type}{k:ai}{w w':au}{Re:ae->Option (ce H×List dO)}{b n:Nat}{D:ce H}(h:w.ownsMap P k Re b n D)(e:w'.heap[b]? =w.heap[b]?):w'.ownsMap P k Re b n D:=by obtain⟨es,j5,hb,r⟩:=h;exact⟨es,j5,e.trans hb,r⟩
def Qi(hF:RF P ops nt TM TK TE σ0 W R mQ b0 b1 b2 b3 b4 b5 b6 b7)(hI:RI P ops nt TK TE σ0 W R w0 mQ ds b0 b1 b2 b3 b4 b5 b6 b7 l a w){i:Nat}{o:ao}(ho:ops[i]? =some o)(hl:l.getD i true=false)
 (hr:∀e∈o.after,Region.binds .any e=true->l.getD e.on false=true)(hp:iB i=true){Q:dh->ba->au->Prop}{K:ba->au->Prop}
 (hK:∀a' w',RI P ops nt TK TE σ0 W R w0 mQ ds b0 b1 b2 b3 b4 b5 b6 b7 (l.setIfInBounds i true) a' w'->K a' w'):wpOp P ops Q i K a w:=by
 obtain⟨hg,hpd,_,Am⟩:=zR hF ho;obtain⟨⟨d,hd,hd1,hd2⟩,db⟩:=hpd hp;obtain⟨hB,σ,hW,hE,sT,hO⟩:=hI;have hi:i<l.size:=by rw[hB.vU,<-hF.size];exact(dW.1 ho).1
 have G6:=lF hl hi;have hρ:∀x∈o.op.operands,VR σ (aC R x) (a.eval x):=by
  intro x hx;have hx1:=cM.1 db x (by simpa using hx);unfold Tr at hx1;split at hx1
  ·exact iO hx1
  ·rename_i t;rw[mV]at hx1;show VR σ (dg R t) (a.tmps.getD t ag);rcases hx1 with h1|h1
   ·obtain rfl:t=1:=by simpa using h1
    have:a.tmps.getD 1 ag=mQ.getD 1 ag:=by simp only[uo];rw[hB.pg 1 (.inl (by decide))]
    rw[this];exact hF.ptr.mono hE.sub
   ·rw[Array.any_eq_true']at h1;obtain⟨e,he,hb⟩:=h1;rw[bK]at hb;obtain⟨MH,iW⟩:=hb;split at iW
    ·rename_i o' im;split at iW
     ·rename_i d' ie;simp only[bK,eM,jM]at iW;obtain⟨rfl,h3,h4⟩:=iW;exact sT e.on o' d' im ((zR hF im).2.2.2 d' ie h3 h4) (hr e he MH) ie
     ·cases iW
    ·cases iW
  ·cases hx1
 obtain⟨σ',nx,v',w',eE,WW,hv,hW',Sq⟩:=hF.anE i o d ho hp hd σ w a.eval hW hρ;have fin:RI P ops nt TK TE σ0 W R w0 mQ ds b0 b1 b2 b3 b4 b5 b6 b7 (l.setIfInBounds i true) (a.put o.dst v') w':=by
  refine⟨hB.step hF ho hr v',σ',hW',hE.trans Sq,?_,?_⟩
  ·intro k o' d' im PQ It ie;by_cases e:i=k
   ·subst e;rw[ho]at im;injection im with im;subst im;rw[hd]at ie;injection ie with ie;subst ie;rw[oi hd (by rw[hB.Lc];exact fM hd2 (gQ (by decide) hF.nt))];exact hv
   ·rw[aX e]at It;by_cases e2:d'=d
    ·subst e2;rw[oi hd (by rw[hB.Lc];exact fM hd2 (gQ (by decide) hF.nt))];exact hv
    ·rw[gY (by rw[hd];intro e3;injection e3 with e3;exact e2 e3.symm)];exact(sT k o' d' im PQ It ie).mono Sq.sub
  ·intro h0;have fk:∀k,iB k=false->(l.setIfInBounds i true).getD k false=l.getD k false:=λk hk=>aX (λe=>by subst e;rw[hp]at hk;cases hk) _
   have fj:∀t,(t=14\/39<t)->(a.put o.dst v').tmps.getD t ag=a.tmps.getD t ag:=λt ht=>gY (by
    rw[hd];intro e3;injection e3 with e3;subst e3;rcases ht with h|h
    ·subst h;exact absurd hd1 (by decide)
    ·exact absurd hd2 (by intro h5;exact absurd (fM h5 h) (Nat.lt_irrefl _)));rw[fk 0 rfl]at h0;obtain⟨m,n,k1,k2,k3,k4,k5,k6,k7⟩:=hO h0;have hD:Dl (l.setIfInBounds i true) b0 b1 b2 b3 b4 b5 b6 b7=Dl l b0 b1 b2 b3 b4 b5 b6 b7:=by
    unfold Dl;rw[fk 4 rfl,fk 8 rfl,fk 12 rfl,fk 16 rfl,fk 20 rfl,fk 24 rfl,fk 29 rfl,fk 33 rfl]
   have gZ:m<w.heap.size:=by
    cases hq:l.getD 35 false with
    |false=>exact(k6 hq).lt
    |true=>obtain⟨r,_,_,_,Il⟩:=k7 hq;exact Il.owns.lt
   obtain⟨q1,q2⟩:=O7 Sq gZ k1;refine⟨m,n,q1,k2,by rw[fj 14 (.inl rfl)];exact k3,gQ k4 (gQ (Nat.le_succ _) (uZ (by rw[<-hB.vU];exact hi) hB.vU G6)),λh=>?_,λh=>?_,λh=>?_⟩
   ·rw[fk 34 rfl]at h;rw[fj 40 (.inr (by decide))];exact k5 h
   ·rw[fk 35 rfl]at h;rw[hD];exact UW (k6 h) q2
   ·rw[fk 35 rfl]at h;obtain⟨r,p1,p2,p3,p4⟩:=k7 h;have amI:r<w.heap.size:=by obtain⟨es,j5,since,seen,c0,_,_,_,_,hr,_⟩:=p4;exact(dW.1 hr).1
    obtain⟨q3,q4⟩:=O7 Sq amI p2;refine⟨r,by rw[fj 41 (.inr (by decide))];exact p1,q3,p3,?_⟩;rw[hD];obtain⟨es,j5,since,seen,c0,z1,z2,z3,z4,z5,z6⟩:=p4;exact⟨es,j5,since,seen,c0,q2.trans z1,z2,z3,z4,q4.trans z5,z6⟩
 rcases WW with rfl|⟨rfl,rfl⟩
 ·exact sN ho hg eE (hK _ _ fin)
 ·exact Fq ho hg eE (hK _ _ fin)
def N4(hF:RF P ops nt TM TK TE σ0 W R mQ b0 b1 b2 b3 b4 b5 b6 b7)(hB:RB ops nt mQ ds l a):
 (l.getD 35 false=true->l.getD 34 false=true)/\(l.getD 34 false=true->∀e,e<34->l.getD e false=true)/\(∀i,(i=4\/i=8\/i=12\/i=16\/i=20\/i=24\/i=29\/i=33)->l.getD i false=true->l.getD 0 false=true):=by
 have at_:∀i,i<36->∃o,ops[i]? =some o:=λi hi=>⟨ops[i]'(by rw[hF.size];exact hi),g9 _⟩
 refine⟨λh=>?_,λh e he=>?_,λi hi h=>?_⟩
 ·obtain⟨o,ho⟩:=at_ 35 (by decide);have hs:=hF.shape 35 o ho;simp only[iX,bK]at hs;exact fZ hs.2 (hB.down 35 h o ho)
 ·obtain⟨o,ho⟩:=at_ 34 (by decide);have hs:=hF.shape 34 o ho;simp only[iX,bK,cM]at hs;exact fZ (hs.2 e (by simpa using he)) (hB.down 34 h o ho)
 ·obtain⟨o,ho⟩:=at_ i (by omega);have hs:=hF.shape i o ho;have:wx 0 o=true:=by rcases hi with rfl|rfl|rfl|rfl|rfl|rfl|rfl|rfl<;>(simp only[iX,pV,bK]at hs;exact hs.1.1.1.2)
  exact fZ this (hB.down i h o ho)
def rU{σ:dj}(hF:RF P ops nt TM TK TE σ0 W R mQ b0 b1 b2 b3 b4 b5 b6 b7){i:Nat}{o:ao}(ho:ops[i]? =some o)(hp:iB i=false)
 (h:∀i o d,ops[i]? =some o->iB i=true->l.getD i false=true->o.dst=some d->VR σ (dg R d) (a.tmps.getD d ag))(v:ae):
 ∀k o' d,ops[k]? =some o'->iB k=true->(l.setIfInBounds i true).getD k false=true->o'.dst=some d->VR σ (dg R d) ((a.put o.dst v).tmps.getD d ag):=by
 intro k o' d im PQ hl hd;have e:i≠k:=λe=>by subst e;rw[hp]at PQ;cases PQ
 rw[aX e]at hl;obtain⟨_,hpd,_,_⟩:=zR hF im;obtain⟨⟨d',ie,h1,h2⟩,_⟩:=hpd PQ;rw[hd]at ie;injection ie with ie;subst ie;rw[gY]
 ·exact h k o' d im PQ hl hd
 ·intro e2;have:=(zR hF ho).2.2.2 d e2 h1 h2;rw[hp]at this;cases this
def Gx{w:au}{o:Obj}(ho:∀c t f,o≠ .cells c t f)(x:aW):(w.alloc o).frozen? x=w.frozen? x:=by
 by_cases h:x.block<w.heap.size
 ·exact World.frozen?_of_block ((xH w o none).block _ h (by simp))
 ·rw[nQ (w:=w) (by omega)];by_cases e:x.block=w.heap.size
  ·unfold World.frozen?;rw[e];have:(w.alloc o).heap[w.heap.size]? =some o:=(MapKept.heap_alloc w o).1;rw[this];cases o<;>first|rfl|exact absurd rfl (ho _ _ _)
  ·refine nQ ?_;have:(w.alloc o).heap.size=w.heap.size+1:=by simp
   omega
def QP(hF:RF P ops nt TM TK TE σ0 W R mQ b0 b1 b2 b3 b4 b5 b6 b7)(hI:RI P ops nt TK TE σ0 W R w0 mQ ds b0 b1 b2 b3 b4 b5 b6 b7 l a w){o:ao}(ho:ops[0]? =some o)(hl:l.getD 0 true=false)
 (hr:∀e∈o.after,Region.binds .any e=true->l.getD e.on false=true){Q:dh->ba->au->Prop}{K:ba->au->Prop}
 (hK:∀a' w',RI P ops nt TK TE σ0 W R w0 mQ ds b0 b1 b2 b3 b4 b5 b6 b7 (l.setIfInBounds 0 true) a' w'->K a' w'):wpOp P ops Q 0 K a w:=by
 obtain⟨hB,σ,hW,hE,sT,hO⟩:=hI;have hi:0<l.size:=by rw[hB.vU];decide
 have G6:=lF hl hi;obtain⟨n1,n2,n3⟩:=N4 hF hB;have hs:=hF.shape 0 o ho;simp only[iX,bK,C8]at hs;obtain⟨hg,hs⟩:=hs;split at hs;case h_2=>cases hs
 rename_i t d sV hd;simp only[bK,eM]at hs;obtain⟨rfl,rfl⟩:=hs;have eE:(execOp a.eval o).run P w=.ok (.value (.map (some w.heap.size))) (w.alloc (.map #[] 0)):=by simp[execOp,sV,run_makeMap]
 refine sN ho hg eE (hK _ _ ⟨hB.step hF ho hr _,σ,?_,?_,rU hF ho rfl sT _,λ_=>⟨w.heap.size,0,?_,hE.size,?_,Nat.zero_le _,?_,?_,?_⟩⟩)
 ·exact zx (m:=w.heap.size) hW (λb g hb=>Nat.ne_of_lt (hW.pd b g hb).2) ((xH w _ none).but _)
 ·exact yR (m:=w.heap.size) hE hE.size ((xH w _ none).but _) (Gx (λ_ _ _ h=>by cases h))
 ·exactλb g hb=>Nat.ne_of_lt (hW.pd b g hb).2
 ·exact oi hd (by rw[hB.Lc];exact fM (by decide) hF.nt)
 ·intro h;rw[aX (by decide)]at h;rw[n2 h 0 (by decide)]at G6;cases G6
 ·intro _;have vN:∀i,(i=4\/i=8\/i=12\/i=16\/i=20\/i=24\/i=29\/i=33)->(l.setIfInBounds 0 true).getD i false=false:=λi hi=>by
   rw[aX (by omega)];cases hq:l.getD i false with
   |false=>rfl
   |true=>rw[n3 i hi hq]at G6;cases G6
  have hD:Dl (l.setIfInBounds 0 true) b0 b1 b2 b3 b4 b5 b6 b7=.map []:=by unfold Dl;rw[vN 4 (by simp),vN 8 (by simp),vN 12 (by simp),vN 16 (by simp),vN 20 (by simp),vN 24 (by simp),vN 29 (by simp),vN 33 (by simp)];rfl
  rw[hD];exact World.ownsMap_made _ _ _ _
 ·intro h;rw[aX (by decide)]at h;rw[n2 (n1 h) 0 (by decide)]at G6;cases G6
def mD(hF:RF P ops nt TM TK TE σ0 W R mQ b0 b1 b2 b3 b4 b5 b6 b7)(hI:RI P ops nt TK TE σ0 W R w0 mQ ds b0 b1 b2 b3 b4 b5 b6 b7 l a w){i key s k:Nat}{bj:Bool}{o:ao}(ho:ops[i]? =some o)(hl:l.getD i true=false)
 (hr:∀e∈o.after,Region.binds .any e=true->l.getD e.on false=true)(hs:pV ops TM key s k o=true)(hp:iB i=false)(ane:i<34)(VW:i≠0)(hv:dg R s=.bool bj)(hwf:(Lit.int .i64 key).wf=true)
 (amb:(Dl l b0 b1 b2 b3 b4 b5 b6 b7).put (.af key) (.lit (.bool bj))=Dl (l.setIfInBounds i true) b0 b1 b2 b3 b4 b5 b6 b7){Q:dh->ba->au->Prop}{K:ba->au->Prop}
 (hK:∀a' w',RI P ops nt TK TE σ0 W R w0 mQ ds b0 b1 b2 b3 b4 b5 b6 b7 (l.setIfInBounds i true) a' w'->K a' w'):wpOp P ops Q i K a w:=by
 obtain⟨hB,σ,hW,hE,sT,hO⟩:=hI;have hi:i<l.size:=by rw[hB.vU];omega
 have G6:=lF hl hi;obtain⟨n1,n2,n3⟩:=N4 hF hB;unfold pV at hs;simp only[bK,C8]at hs;obtain⟨⟨⟨⟨⟨hg,hd⟩,e0⟩,ek⟩,sV⟩,hk⟩:=hs;split at sV;case h_2=>cases sV
 rename_i t m' n' v' amT;simp only[bK,eM,jM]at sV;obtain⟨⟨⟨⟨⟨rfl,rfl⟩,rfl⟩,rfl⟩,Bl⟩,nI⟩:=sV;split at hk;case h_2=>cases hk
 rename_i ok jq;split at hk;case h_2=>cases hk
 rename_i dk hdk;obtain rfl:dk=v':=by simpa using hk
 have Jd:a.tmps.getD dk ag=.bool bj:=by have:=sT k ok dk jq ((zR hF jq).2.2.2 dk hdk Bl nI) (fZ ek hr) hdk;rw[hv]at this;exact this.io
 obtain⟨m,n,k1,k2,k3,k4,k5,k6,k7⟩:=hO (fZ e0 hr);have h34:l.getD 34 false=false:=by
  cases hq:l.getD 34 false with
  |false=>rfl
  |true=>rw[n2 hq i ane]at G6;cases G6
 have Jz:l.getD 35 false=false:=by
  cases hq:l.getD 35 false with
  |false=>rfl
  |true=>rw[n1 hq]at h34;cases h34
 have KV:keyOf P TK (.af (n':Int))=some (.af (n':Int)):=by simp[keyOf,mapKey,hF.TK,hwf]
 obtain⟨w',eE,Zz,Ro,qD⟩:=Me (k6 Jz) (Go.Maps.int_keyed hF.TK) hF.TM (Nat.lt_of_le_of_lt (gQ k4 T5) (by decide)) KV (plainElem_bool hF.TE bj);have KN:(execOp a.eval o).run P w=.ok .skip w':=by have e1:a.eval (.tmp 14)=.map (some m):=k3;have e2:a.eval (.tmp dk)=.bool bj:=Jd;have e3:a.eval (.const (.af (Int.ofNat n')))=.af (n':Int):=rfl;simp only[execOp,amT,e1,e2,e3];simp[eE]
 refine Fq ho hg KN (hK _ _ ⟨hB.step hF ho hr _,σ,?_,?_,rU hF ho hp sT _,λ_=>⟨m,n+1,k1,k2,?_,?_,?_,?_,?_⟩⟩)
 ·exact zx hW k1 Ro
 ·refine yR hE k2 Ro λx=>?_
  by_cases e:x.block=m
  ·rw[Ji (k6 Jz) e,Ji Zz e]
  ·by_cases h:x.block<w.heap.size
   ·exact World.frozen?_of_block (Ro.block _ h (λe2=>by injection e2 with e2;exact e e2))
   ·rw[nQ (w:=w) (by omega),nQ (w:=w') (by omega)]
 ·rw[hd];exact k3
 ·exact gQ (Nat.succ_le_succ k4) (uZ (by rw[<-hB.vU];exact hi) hB.vU G6)
 ·intro h;rw[aX (by omega),h34]at h;cases h
 ·intro _;rw[<-amb];exact Zz
 ·intro h;rw[aX (by omega),Jz]at h;cases h
def Rg(hF:RF P ops nt TM TK TE σ0 W R mQ b0 b1 b2 b3 b4 b5 b6 b7)(hI:RI P ops nt TK TE σ0 W R w0 mQ ds b0 b1 b2 b3 b4 b5 b6 b7 l a w){o:ao}(ho:ops[34]? =some o)(hl:l.getD 34 true=false)
 (hr:∀e∈o.after,Region.binds .any e=true->l.getD e.on false=true){Q:dh->ba->au->Prop}{K:ba->au->Prop}
 (hK:∀a' w',RI P ops nt TK TE σ0 W R w0 mQ ds b0 b1 b2 b3 b4 b5 b6 b7 (l.setIfInBounds 34 true) a' w'->K a' w'):wpOp P ops Q 34 K a w:=by
 obtain⟨hB,σ,hW,hE,sT,hO⟩:=hI;have hi:34<l.size:=by rw[hB.vU];decide
 have G6:=lF hl hi;obtain⟨n1,n2,n3⟩:=N4 hF hB;have hs:=hF.shape 34 o ho;simp only[iX,bK,C8,cM]at hs;obtain⟨⟨hg,hs⟩,Yx⟩:=hs;split at hs;case h_2=>cases hs
 rename_i x d sV hd;simp only[bK,eM]at hs;obtain⟨rfl,rfl⟩:=hs;have h0:l.getD 0 false=true:=fZ (Yx 0 (by simp)) hr;obtain⟨m,n,k1,k2,k3,k4,k5,k6,k7⟩:=hO h0;have Jz:l.getD 35 false=false:=by
  cases hq:l.getD 35 false with
  |false=>rfl
  |true=>rw[n1 hq]at G6;cases G6
 have eE:(execOp a.eval o).run P w=.ok (.value (.map (some m))) w:=by have e1:a.eval (.tmp 14)=.map (some m):=k3;simp only[execOp,sV,e1];rfl
 have hD:Dl (l.setIfInBounds 34 true) b0 b1 b2 b3 b4 b5 b6 b7=Dl l b0 b1 b2 b3 b4 b5 b6 b7:=by unfold Dl;rw[aX (by decide),aX (by decide),aX (by decide),aX (by decide),aX (by decide),aX (by decide),aX (by decide),aX (by decide)]
 refine sN ho hg eE (hK _ _ ⟨hB.step hF ho hr _,σ,hW,hE,rU hF ho rfl sT _,λ_=>⟨m,n,k1,k2,?_,?_,?_,?_,?_⟩⟩)
 ·rw[gY (by rw[hd];intro e;injection e with e;cases e)];exact k3
 ·exact gQ k4 (gQ (Nat.le_succ _) (uZ (by decide) hB.vU G6))
 ·intro _;exact oi hd (by rw[hB.Lc];exact fM (by decide) hF.nt)
 ·intro _;rw[hD];exact k6 Jz
 ·intro h;rw[aX (by decide),Jz]at h;cases h
def MM(hF:RF P ops nt TM TK TE σ0 W R mQ b0 b1 b2 b3 b4 b5 b6 b7)(hI:RI P ops nt TK TE σ0 W R w0 mQ ds b0 b1 b2 b3 b4 b5 b6 b7 l a w){o:ao}(ho:ops[35]? =some o)(hl:l.getD 35 true=false)
 (hr:∀e∈o.after,Region.binds .any e=true->l.getD e.on false=true){Q:dh->ba->au->Prop}{K:ba->au->Prop}
 (hK:∀a' w',RI P ops nt TK TE σ0 W R w0 mQ ds b0 b1 b2 b3 b4 b5 b6 b7 (l.setIfInBounds 35 true) a' w'->K a' w'):wpOp P ops Q 35 K a w:=by
 obtain⟨hB,σ,hW,hE,sT,hO⟩:=hI;have hi:35<l.size:=by rw[hB.vU];decide
 have G6:=lF hl hi;obtain⟨n1,n2,n3⟩:=N4 hF hB;have hs:=hF.shape 35 o ho;simp only[iX,bK,C8]at hs;obtain⟨⟨hg,hs⟩,Yx⟩:=hs;split at hs;case h_2=>cases hs
 rename_i t x d sV hd;simp only[bK,eM]at hs;obtain⟨⟨rfl,rfl⟩,rfl⟩:=hs;have h34:l.getD 34 false=true:=fZ Yx hr;obtain⟨m,n,k1,k2,k3,k4,k5,k6,k7⟩:=hO (n2 h34 0 (by decide));obtain⟨w',eE,Il,Ro,qD⟩:=(k6 G6).range (Go.Maps.int_keyed hF.TK) hF.TM;have KN:(execOp a.eval o).run P w=.ok (.value (.pointer (some ⟨w.heap.size,0,none⟩))) w':=by have e1:a.eval (.tmp 40)=.map (some m):=k5 h34;simp only[execOp,sV,e1];simp[eE]
 have aeA:∀x:aW,x.block=w.heap.size->w'.frozen? x=false:=λx e=>by obtain⟨es,j5,since,seen,c0,_,_,_,_,hr,_⟩:=Il;unfold World.frozen?;rw[e,hr]
 have hD:Dl (l.setIfInBounds 35 true) b0 b1 b2 b3 b4 b5 b6 b7=Dl l b0 b1 b2 b3 b4 b5 b6 b7:=by unfold Dl;rw[aX (by decide),aX (by decide),aX (by decide),aX (by decide),aX (by decide),aX (by decide),aX (by decide),aX (by decide)]
 refine sN ho hg KN (hK _ _ ⟨hB.step hF ho hr _,σ,?_,?_,rU hF ho rfl sT _,λ_=>⟨m,n,k1,k2,?_,?_,?_,?_,?_⟩⟩)
 ·exact zx (m:=w.heap.size) hW (λb g hb=>Nat.ne_of_lt (hW.pd b g hb).2) (Ro.but _)
 ·refine yR (m:=w.heap.size) hE hE.size (Ro.but _) λx=>?_
  by_cases h:x.block<w.heap.size
  ·exact World.frozen?_of_block (Ro.block _ h (by simp))
  ·rw[nQ (w:=w) (by omega)];by_cases e:x.block=w.heap.size
   ·exact aeA x e
   ·exact nQ (by omega)
 ·rw[gY (by rw[hd];intro e;injection e with e;cases e)];exact k3
 ·exact gQ k4 (gQ (Nat.le_succ _) (uZ (by decide) hB.vU G6))
 ·intro _;rw[gY (by rw[hd];intro e;injection e with e;cases e)];exact k5 h34
 ·intro h;rw[dx hi]at h;cases h
 ·intro _;refine⟨w.heap.size,oi hd (by rw[hB.Lc];exact fM (by decide) hF.nt),λb g hb=>Nat.ne_of_lt (hW.pd b g hb).2,hE.size,?_⟩;rw[hD];exact Il
def QD(hF:RF P ops nt TM TK TE σ0 W R mQ b0 b1 b2 b3 b4 b5 b6 b7)(hB:RB ops nt mQ ds l a)(h:Region.ready .any ops l=[]):∀i,i<36->l.getD i false=true:=by
 have key:∀n i,i<n->i<36->l.getD i false=true:=by
  intro n;induction n with
  |zero=>intro i h;exact absurd h (Nat.not_lt_zero _)
  |succ n ih=>
   intro i hi Hz;by_cases gZ:i<n
   ·exact ih i gZ Hz
   ·have kX:i<ops.size:=by rw[hF.size];exact Hz
    have ho:ops[i]? =some ops[i]:=g9 kX;cases hq:l.getD i false with
    |true=>rfl
    |false=>
     exfalso;have hb:=hF.back i _ ho;unfold Hx at hb;have hil:i<l.size:=by rw[hB.vU];exact Hz
     have:i∈Region.ready .any ops l:=nF.2 ⟨by
      simp only[uo]at hq|-;rw[g9 hil]at hq|-;exact hq,_,ho,λe he hbd=>by
      rw[Array.all_eq_true']at hb;have h1:=hb e he;rw[jM]at h1;exact ih e.on (by omega) (by omega)⟩;rw[h]at this;cases this
 exactλi hi=>key (i+1) i (Nat.lt_succ_self i) hi
def Wt(hF:RF P ops nt TM TK TE σ0 W R mQ b0 b1 b2 b3 b4 b5 b6 b7)(hI:RI P ops nt TK TE σ0 W R w0 mQ ds b0 b1 b2 b3 b4 b5 b6 b7 l a w){i:Nat}(hi:i∈Region.ready .any ops l){Q:dh->ba->au->Prop}{K:ba->au->Prop}
 (hK:∀a' w',RI P ops nt TK TE σ0 W R w0 mQ ds b0 b1 b2 b3 b4 b5 b6 b7 (l.setIfInBounds i true) a' w'->K a' w'):wpOp P ops Q i K a w:=by
 obtain⟨hl,o,ho,hr⟩:=nF.1 hi;have qD:l.size=36:=hI.base.vU;cases hp:iB i with
 |true=>exact Qi hF hI ho hl hr hp hK
 |false=>
  have hs:=hF.shape i o ho;have hc:i=0\/i=4\/i=8\/i=12\/i=16\/i=20\/i=24\/i=29\/i=33\/i=34\/i=35:=by unfold iB at hp;split at hp<;>first|simp|cases hp
  rcases hc with rfl|rfl|rfl|rfl|rfl|rfl|rfl|rfl|rfl|rfl|rfl
  ·exact QP hF hI ho hl hr hK
  ·exact mD hF hI ho hl hr hs rfl (by decide) (by decide) hF.v0 rfl (by unfold Dl;rw[dx (by omega),aX (show(4:Nat)≠8 by decide),aX (show(4:Nat)≠12 by decide),aX (show(4:Nat)≠16 by decide),aX (show(4:Nat)≠20 by decide),aX (show(4:Nat)≠24 by decide),aX (show(4:Nat)≠29 by decide),aX (show(4:Nat)≠33 by decide)];exact ano ..) hK
  ·exact mD hF hI ho hl hr hs rfl (by decide) (by decide) hF.v1 rfl (by unfold Dl;rw[dx (by omega),aX (show(8:Nat)≠4 by decide),aX (show(8:Nat)≠12 by decide),aX (show(8:Nat)≠16 by decide),aX (show(8:Nat)≠20 by decide),aX (show(8:Nat)≠24 by decide),aX (show(8:Nat)≠29 by decide),aX (show(8:Nat)≠33 by decide)];exact akU ..) hK
  ·exact mD hF hI ho hl hr hs rfl (by decide) (by decide) hF.v2 rfl (by unfold Dl;rw[dx (by omega),aX (show(12:Nat)≠4 by decide),aX (show(12:Nat)≠8 by decide),aX (show(12:Nat)≠16 by decide),aX (show(12:Nat)≠20 by decide),aX (show(12:Nat)≠24 by decide),aX (show(12:Nat)≠29 by decide),aX (show(12:Nat)≠33 by decide)];exact akN ..) hK
  ·exact mD hF hI ho hl hr hs rfl (by decide) (by decide) hF.v3 rfl (by unfold Dl;rw[dx (by omega),aX (show(16:Nat)≠4 by decide),aX (show(16:Nat)≠8 by decide),aX (show(16:Nat)≠12 by decide),aX (show(16:Nat)≠20 by decide),aX (show(16:Nat)≠24 by decide),aX (show(16:Nat)≠29 by decide),aX (show(16:Nat)≠33 by decide)];exact amn ..) hK
  ·exact mD hF hI ho hl hr hs rfl (by decide) (by decide) hF.v4 rfl (by unfold Dl;rw[dx (by omega),aX (show(20:Nat)≠4 by decide),aX (show(20:Nat)≠8 by decide),aX (show(20:Nat)≠12 by decide),aX (show(20:Nat)≠16 by decide),aX (show(20:Nat)≠24 by decide),aX (show(20:Nat)≠29 by decide),aX (show(20:Nat)≠33 by decide)];exact amC ..) hK
  ·exact mD hF hI ho hl hr hs rfl (by decide) (by decide) hF.v5 rfl (by unfold Dl;rw[dx (by omega),aX (show(24:Nat)≠4 by decide),aX (show(24:Nat)≠8 by decide),aX (show(24:Nat)≠12 by decide),aX (show(24:Nat)≠16 by decide),aX (show(24:Nat)≠20 by decide),aX (show(24:Nat)≠29 by decide),aX (show(24:Nat)≠33 by decide)];exact al8 ..) hK
  ·exact mD hF hI ho hl hr hs rfl (by decide) (by decide) hF.v6 rfl (by unfold Dl;rw[dx (by omega),aX (show(29:Nat)≠4 by decide),aX (show(29:Nat)≠8 by decide),aX (show(29:Nat)≠12 by decide),aX (show(29:Nat)≠16 by decide),aX (show(29:Nat)≠20 by decide),aX (show(29:Nat)≠24 by decide),aX (show(29:Nat)≠33 by decide)];exact anu ..) hK
  ·exact mD hF hI ho hl hr hs rfl (by decide) (by decide) hF.v7 rfl (by unfold Dl;rw[dx (by omega),aX (show(33:Nat)≠4 by decide),aX (show(33:Nat)≠8 by decide),aX (show(33:Nat)≠12 by decide),aX (show(33:Nat)≠16 by decide),aX (show(33:Nat)≠20 by decide),aX (show(33:Nat)≠24 by decide),aX (show(33:Nat)≠29 by decide)];exact Xt ..) hK
  ·exact Rg hF hI ho hl hr hK
  ·exact MM hF hI ho hl hr hK
def Dw(b0 b1 b2 b3 b4 b5 b6 b7:Bool):ce Unit:=Hy true true true true true true true true b0 b1 b2 b3 b4 b5 b6 b7
structure RQ (P:aj) (nt TK TE:Nat) (σ0:dj) (W:AW) (w0:au) (mQ:Array ae) (ds:List dM) (b0 b1 b2 b3 b4 b5 b6 b7:Bool) (a:ba) (w:au) (σ:dj) (m r n:Nat):Prop where
 Lc:a.tmps.size=nt
 Xe:a.defers=ds
 pg:∀t,(t<14\/41<t)->a.tmps[t]? =mQ[t]?
 it:a.tmps.getD 41 ag=.pointer (some ⟨r,0,none⟩)
 rel:bt σ W w.heap
 ext:eW σ0 W w0 σ W w
 nm:∀b g,σ b=some g->g.B≠m
 nr:∀b g,σ b=some g->g.B≠r
 gm:w0.heap.size<=m
 gr:w0.heap.size<=r
 rg:w.ranges P TK (plainElem P TE) m r n (Dw b0 b1 b2 b3 b4 b5 b6 b7) (Maps.has (Dw b0 b1 b2 b3 b4 b5 b6 b7)) (Maps.size (Dw b0 b1 b2 b3 b4 b5 b6 b7))
def RI.done(hF:RF P ops nt TM TK TE σ0 W R mQ b0 b1 b2 b3 b4 b5 b6 b7)(hI:RI P ops nt TK TE σ0 W R w0 mQ ds b0 b1 b2 b3 b4 b5 b6 b7 l a w)(h:∀i,i<36->l.getD i false=true):
 ∃σ m r n,RQ P nt TK TE σ0 W w0 mQ ds b0 b1 b2 b3 b4 b5 b6 b7 a w σ m r n:=by
 obtain⟨hB,σ,hW,hE,sT,hO⟩:=hI;obtain⟨m,n,k1,k2,k3,k4,k5,k6,k7⟩:=hO (h 0 (by decide));obtain⟨r,p1,p2,p3,p4⟩:=k7 (h 35 (by decide));have hD:Dl l b0 b1 b2 b3 b4 b5 b6 b7=Dw b0 b1 b2 b3 b4 b5 b6 b7:=by unfold Dl Dw;rw[h 4 (by decide),h 8 (by decide),h 12 (by decide),h 16 (by decide),h 20 (by decide),h 24 (by decide),h 29 (by decide),h 33 (by decide)]
 rw[hD]at p4;exact⟨σ,m,r,n,hB.Lc,hB.Xe,hB.pg,p1,hW,hE,k1,p2,k2,p3,p4⟩
def L7(hF:RF P ops nt TM TK TE σ0 W R mQ b0 b1 b2 b3 b4 b5 b6 b7){Q:dh->ba->au->Prop}(hQ:∀a' w' σ m r n,RQ P nt TK TE σ0 W w0 mQ ds b0 b1 b2 b3 b4 b5 b6 b7 a' w' σ m r n->Q .normal a' w'):
 ∀(wm:Nat) (l:Array Bool) (a:ba) (w:au),RI P ops nt TK TE σ0 W R w0 mQ ds b0 b1 b2 b3 b4 b5 b6 b7 l a w->Z9 36 l<=wm->wpAny P .any ops Q wm l a w:=by
 intro wm;induction wm with
 |zero=>
  intro l a w hI hu;have th:∀i,i<36->l.getD i false=true:=λi hi=>by
   have h1:=KR (n:=36) (l:=l) (by omega) hi;have hil:i<l.size:=by rw[hI.base.vU];exact hi
   simp only[uo]at h1|-;rw[g9 hil]at h1|-;exact h1
  refine⟨?_,?_⟩
  ·rw[List.eq_nil_iff_forall_not_mem];intro i hi;obtain⟨h1,o,ho,_⟩:=nF.1 hi;have Hz:i<36:=by rw[<-hF.size];exact(dW.1 ho).1
   have:=th i Hz;rw[lF h1 (by rw[hI.base.vU];exact Hz)]at this;cases this
  ·obtain⟨σ,m,r,n,h⟩:=hI.done hF th;exact hQ _ _ _ _ _ _ h
 |succ wm ih=>
  intro l a w hI hu;refine⟨λhr=>?_,λi hi=>?_⟩
  ·obtain⟨σ,m,r,n,h⟩:=hI.done hF (QD hF hI.base hr);exact hQ _ _ _ _ _ _ h
  ·refine Wt hF hI hi λa' w' hI'=>ih _ a' w' hI' ?_
   obtain⟨h1,o,ho,_⟩:=nF.1 hi;have Hz:i<36:=by rw[<-hF.size];exact(dW.1 ho).1
   have:=BX (l:=l) Hz (by rw[hI.base.vU];exact Hz) h1;omega
def Mi(hm:P.follows .mixedOrders=true){id:Nat}(hF:RF P ops nt TM TK TE σ0 W R a.tmps b0 b1 b2 b3 b4 b5 b6 b7)(hnt:a.tmps.size=nt)(hW:bt σ0 W w.heap){Q:dh->ba->au->Prop}
 (hQ:∀a' w' σ m r n,RQ P nt TK TE σ0 W w a.tmps a.defers b0 b1 b2 b3 b4 b5 b6 b7 a' w' σ m r n->Q .normal a' w'):(Code.region id ops true).wp P Q a w:=by
 refine wp_region_any hm ?_;have vN:∀i,(Array.replicate ops.size false).getD i false=false:=λi=>by simp only[uo,Array.getElem?_replicate];split<;>rfl
 refine L7 (w0:=w) (mQ:=a.tmps) (ds:=a.defers) hF hQ _ _ _ _ ⟨⟨by simp[hF.size],hnt,rfl,?_,λ_ _=>rfl⟩,σ0,hW,.drawn _ _ _ _,?_,?_⟩ ?_
 ·intro i hi;rw[vN]at hi;cases hi
 ·intro i o d _ _ hl;rw[vN]at hl;cases hl
 ·intro hl;rw[vN]at hl;cases hl
 ·unfold Z9;have:=List.countP_le_length (p:=λi=> !(Array.replicate ops.size false).getD i true) (l:=List.range 36);rw[hF.size]at this|-;simpa using this
end
end
end Go.Eng
namespace Go.Eng
open Go Go.RowKit
section
variable [ak]
structure ej (w w':au):Prop where
 os:w'.os=w.os
 tape:w'.tape=w.tape
 output:w'.output=w.output
 size:w.heap.size<=w'.heap.size
 block:∀B,B<w.heap.size->w'.heap[B]? =w.heap[B]?
def ej.grown{w w':au}(h:ej w w'):Nn w w':=by
 refine⟨⟨h.os,h.output,λi hi=>?_⟩,λa ha=>Jy (h.block _ ha),h.size⟩;rw[h.block i hi];cases w.heap[i]? with
 |none=>rfl
 |some o=>cases o<;>first|rfl|exact⟨rfl,rfl,rfl,λ_ _=>rfl⟩|exact .inr ⟨rfl,rfl⟩
def ej.cell{w w':au}(h:ej w w'){a:aW}{v:ae}(hc:w.cell? a=some v):w'.cell? a=some v:=by
 have gZ:a.block<w.heap.size:=by
  rcases vj a.block w.heap.size with h'|h'
  ·exact h'
  ·unfold World.cell? at hc;rw[uA h']at hc;simp at hc
 rw[World.cell?_of_block (h.block _ gZ)];exact hc
def ej.rel{w w':au}(h:ej w w'){σ:dj}{W:AW}(hW:bt σ W w.heap):bt σ W w'.heap where
 free:=hW.free
 pd b g hb:=⟨(hW.pd b g hb).1,fM (hW.pd b g hb).2 h.size⟩
 obj b o g hb hσ:=(hW.obj b o g hb hσ).same (h.block _ (hW.pd b g hσ).2)
 pn:=hW.pn
def ej.ext{w w':au}(h:ej w w')(σ:dj)(W:AW):eW σ W w σ W w':=
 ⟨.refl _,λ_ _ h=>h,h.size,h.os,h.tape,h.output,λB hB _=>h.block B hB,λ_ _ a b=>⟨a,b⟩,λ_ _ a _=>.inl a⟩
def ej.other{w w' VD:au}(h:ej w w'){r:Nat}(hr:w.heap.size<=r)(hg:w'.grownBy VD (some r))(qD:VD.heap.size=w'.heap.size)
 (h1:∀a:aW,a.block=r->w'.frozen? a=false)(h2:∀a:aW,a.block=r->VD.frozen? a=false):ej w VD:=by
 refine⟨hg.os.trans h.os,hg.tape.trans h.tape,hg.output.trans h.output,gQ h.size hg.size,λB hB=>(hg.block B (fM hB h.size) (λe=>by injection e with e;omega)).trans (h.block B hB)⟩
def IW{H:Type}{P:aj}{k:ai}{w:au}{Re:ae->Option (ce H×List dO)}{b r n yJ:Nat}{D:ce H}{left:Lit->Bool}(h:w.ranges P k Re b r n D left yJ){a:aW}(ha:a.block=r):w.frozen? a=false:=by obtain⟨es,j5,since,seen,c0,_,_,_,_,hr,_⟩:=h;unfold World.frozen?;rw[ha,hr]
def Dz(B n:Nat):dj:=λb=>if b=0 then some ⟨B,0,n⟩else none
def xm(cs:List ae):AW:=⟨T.set (some (.cells cs)) (path 0) .lf,1⟩
def akM:ak.Fr:=I9 ak.blank 1 (.pointer (some ⟨0,0,none⟩))
def FZ{cs:List ae}{b:Nat}(e:b≠0):(xm cs).get b=none:=by show T.get (path b) (T.set (some (eF.cells cs)) (path 0) .lf)=_;exact(T.gi _ _ _ _ (vi (bL e))).trans (T.zc _)
def CH(cs:List ae){b:Nat}{o:eF}(h:(xm cs).get b=some o):b=0/\o=.cells cs:=by
 by_cases e:b=0
 ·subst e;have:(xm cs).get 0=some (.cells cs):=by show T.get (path 0) (T.set (some (eF.cells cs)) (path 0) .lf)=_;exact T.kn _ _ _
  rw[this]at h;injection h with h;exact⟨rfl,h.symm⟩
 ·have:(xm cs).get b=none:=FZ e;rw[this]at h;cases h
def Xs(w:au)(t:ai)(cs:List ae)(hp:cs.all bC=true):bt (Dz w.heap.size cs.length) (xm cs) (w.alloc (.cells cs.toArray t)).heap where
 free b hb:=FZ (by have h1:1<=b:=hb;intro e;subst e;exact absurd h1 (by decide))
 pd b g hb:=by
  unfold Dz at hb;split at hb
  ·rename_i e;subst e;injection hb with hb;subst hb;exact⟨Nat.lt_succ_self 0,by simp⟩
  ·cases hb
 obj b o g hb hg:=by obtain⟨rfl,rfl⟩:=CH cs hb;injection hg with hg;subst hg;refine⟨cs.toArray,t,(0,0),(MapKept.heap_alloc w _).1,λ_=>rfl,by simp,by simp,λi v hv=>⟨v,by simpa using hv,?_⟩⟩;exact iO (cM.1 hp v (qw hv))
 pn b1 b2 o1 o2 g1 g2 fk h1 h2 _ _ _:=absurd ((CH cs h1).1.trans (CH cs h2).1.symm) fk
def P5{w w2:au}{t:ai}{cs:List ae}{n:Nat}{σ:dj}(h:eW (Dz w.heap.size n) (xm cs) (w.alloc (.cells cs.toArray t)) σ (xm cs) w2):ej w w2:=by
 have qD:(w.alloc (.cells cs.toArray t)).heap.size=w.heap.size+1:=by simp
 refine⟨h.os,h.tape,h.output,by have:=h.size;omega,λB hB=>?_⟩
 ·rw[h.dq B (by omega) ?_]
  ·exact(xH w _ none).block B hB (by simp)
  ·rintro⟨b,g,hb,hg,_⟩;unfold Dz at hb;split at hb
   ·injection hb with hb;subst hb;simp only at hg;omega
   ·cases hb
def Ys:List Nat:=(List.range 36).filter iB
def OF(P:aj)(ops:Array ao)(W:AW):List Nat->ak.Fr->ak.Fr
 |[],R=>R
 |i::l,R=>match ops[i]? with
  |some o=>(match EX P o R W with
   |some (v,_)=>OF P ops W l (eP R o.dst v)
   |none=>R)
  |none=>R
def VQ{ops:Array ao}{TM:Nat}(h:Hj ops TM=true):ops.size=36/\∀i o,ops[i]? =some o->iX ops TM i o=true/\Hx i o=true:=by unfold Hj at h;rw[bK,eM,cM]at h;refine⟨h.1,λi o ho=>?_⟩;have:=h.2 i (by have:=(dW.1 ho).1;simp;omega);rw[ho]at this;simpa using this
section
variable {P:aj}
def nH{d:Nat}{xs ys:Array ae}{f:qZ}{fs:List qZ}{k:aV}{a b:Int}{r:Bool}{w:au}(hn:f.name≠ "_")(hk:P.plainKey f.type=true)(hu:P.underlying f.type=some (.int k))
 (hx:xs[f.offset]? =some (.int k a))(hy:ys[f.offset]? =some (.int k b))(hr:(Op.eqFields (d+1) xs ys fs).run P w=.ok r w):(Op.eqFields (d+1) xs ys (f::fs)).run P w=.ok ((a==b)&&r) w:=by
 unfold Op.eqFields;rw[ax hn,cJ,run_part_plain w hk hx,cF,cJ,run_part_plain w hk hy,cF,cJ,run_equalIn_int _ _ _ _ _ _ _ hu,cF];cases a==b
 ·simp
 ·simpa using hr
def UQ{t:ai}{x y:aq}{f0 f1 f2 f3:qZ}{k0 k1 k2 k3:aV}{a b c d:Int}(hs:P.underlying t=some (.struct (P.fieldsOf t)))(hp:P.stoodInHeld t=false)(hm:P.eqGuardType P.depth t=false)
 (hf:(P.fieldsOf t).toList=[f0,f1,f2,f3])(n0:f0.name≠ "_")(n1:f1.name≠ "_")(n2:f2.name≠ "_")(n3:f3.name≠ "_")(p0:P.plainKey f0.type=true)(p1:P.plainKey f1.type=true)(p2:P.plainKey f2.type=true)(p3:P.plainKey f3.type=true)
 (u0:P.underlying f0.type=some (.int k0))(u1:P.underlying f1.type=some (.int k1))(u2:P.underlying f2.type=some (.int k2))(u3:P.underlying f3.type=some (.int k3))(o0:f0.offset=0)(o1:f1.offset=1)(o2:f2.offset=2)(o3:f3.offset=3)(w:au):
 (do eqGuard .neq t x y (.agg #[.int k0 a,.int k1 b,.int k2 c,.int k3 d]) (.agg #[.int k0 0,.int k1 0,.int k2 0,.int k3 0]);binOp .neq t (.agg #[.int k0 a,.int k1 b,.int k2 c,.int k3 d]) (.agg #[.int k0 0,.int k1 0,.int k2 0,.int k3 0]):Sem ae).run P w=
  .ok (.bool (!((a==0)&&((b==0)&&((c==0)&&((d==0)&&true)))))) w:=by
 have h9:∀xs ys:Array ae,(Op.equalIn 10000 t (.agg xs) (.agg ys)).run P w=(Op.eqFields 9999 xs ys (P.fieldsOf t).toList).run P w:=λxs ys=>run_equalIn_struct w 9999 t xs ys hs hp
 have h3:=nH (P:=P) (d:=9998) (xs:=#[.int k0 a,.int k1 b,.int k2 c,.int k3 d]) (ys:=#[.int k0 0,.int k1 0,.int k2 0,.int k3 0]) (fs:=[]) (r:=true) (w:=w) n3 p3 u3 (by rw[o3];rfl) (by rw[o3];rfl) (by simp[Op.eqFields]);have h2:=nH n2 p2 u2 (by rw[o2];rfl) (by rw[o2];rfl) h3;have h1:=nH n1 p1 u1 (by rw[o1];rfl) (by rw[o1];rfl) h2;have h0:=nH n0 p0 u0 (by rw[o0];rfl) (by rw[o0];rfl) h1;have h0':(Op.eqFields 9999 #[.int k0 a,.int k1 b,.int k2 c,.int k3 d] #[.int k0 0,.int k1 0,.int k2 0,.int k3 0] [f0,f1,f2,f3]).run P w=_:=h0;rw[cJ,run_eqGuard_agg _ _ _ _ _ _ _ hm,cF,run_neq_struct,h9,hf,h0',cF]
end
def OD:List Nat:=Ys.filter λi=> !Nat.beq i 28
def K8(P:aj)(ops:Array ao)(cs:List ae)(b6:Bool):ak.Fr:=I9 (OF P ops (xm cs) OD akM) 36 (.bool b6)
def ahj(TT:Nat)(o:ao):Bool:=match o.op,o.dst with|.binOp .neq t (.tmp x) (.tmp y) _,some d=>Nat.beq t TT&&Nat.beq x 34&&Nat.beq y 35&&Nat.beq d 36|_,_=>false
def JX{P:aj}(hm:P.follows .mixedOrders=true){id nt TM TK TE TT B:Nat}{ops:Array ao}{cs:List ae}{a:ba}{w:au}{b0 b1 b2 b3 b4 b5 b6 b7:Bool}{Q:dh->ba->au->Prop}{tk zk:Array ae}
 (h1:Hj ops TM=true)
 (h2:(OD.map λi=>(ops[i]?).bind λo=>EX P o (K8 P ops cs b6) (xm cs))=OD.map λi=>(ops[i]?).bind λo=>o.dst.map λd=>(dg (K8 P ops cs b6) d,xm cs))
 (v0:dg (K8 P ops cs b6) 17=.bool b0)(v1:dg (K8 P ops cs b6) 20=.bool b1)(v2:dg (K8 P ops cs b6) 23=.bool b2)(v3:dg (K8 P ops cs b6) 26=.bool b3)
 (v4:dg (K8 P ops cs b6) 29=.bool b4)(v5:dg (K8 P ops cs b6) 32=.bool b5)(v7:dg (K8 P ops cs b6) 39=.bool b7)
 (c1:dg (K8 P ops cs b6) 34=.agg tk)(c2:dg (K8 P ops cs b6) 35=.agg zk)(c3:bC (.agg tk)=true)(c4:bC (.agg zk)=true)(c5:(ops[28]?).any (ahj TT)=true)
 (c6:∀w,(do eqGuard .neq TT (.tmp 34) (.tmp 35) (.agg tk) (.agg zk);binOp .neq TT (.agg tk) (.agg zk):Sem ae).run P w=.ok (.bool b6) w)
 (h3:dg (K8 P ops cs b6) 1=.pointer (some ⟨0,0,none⟩))(h4:a.tmps.getD 1 ag=.pointer (some ⟨B,0,none⟩))(h5:42<=nt)(h6:a.tmps.size=nt)
 (tM:P.underlying TM=some (.map TK TE))(tK:P.underlying TK=some (.int .i64))(tE:P.underlying TE=some .bool){n:Nat}(hW:bt (Dz B n) (xm cs) w.heap)
 (hQ:∀a' w' σ m r k,RQ P nt TK TE (Dz B n) (xm cs) w a.tmps a.defers b0 b1 b2 b3 b4 b5 b6 b7 a' w' σ m r k->Q .normal a' w'):(Code.region id ops true).wp P Q a w:=by
 obtain⟨qD,IK⟩:=VQ h1;have v6:dg (K8 P ops cs b6) 36=.bool b6:=uU _ _ _;refine Mi (nt:=nt) (TM:=TM) (TK:=TK) (TE:=TE) (R:=K8 P ops cs b6) hm ⟨qD,λi o ho=>(IK i o ho).1,λi o ho=>(IK i o ho).2,?_,v0,v1,v2,v3,v4,v5,v6,v7,?_,h5,tM,tK,tE⟩ h6 hW hQ
 ·intro i o d ho hp hd σ w ρ hW hρ;by_cases h32:i=28
  ·subst h32;rw[ho]at c5;simp only[Option.any_some]at c5;unfold ahj at c5;split at c5;case h_2=>cases c5
   rename_i t x y dt d' sV ie;simp only[bK,eM]at c5;obtain⟨⟨⟨rfl,rfl⟩,rfl⟩,rfl⟩:=c5;rw[hd]at ie;injection ie with ie;subst ie;rw[v6];have e1:ρ (.tmp 34)=.agg tk:=by have:=hρ (.tmp 34) (by rw[sV];simp[Op.operands]);rw[show aC (K8 P ops cs b6) (.tmp 34)=.agg tk from c1]at this;exact fC c3 this
   have e2:ρ (.tmp 35)=.agg zk:=by have:=hρ (.tmp 35) (by rw[sV];simp[Op.operands]);rw[show aC (K8 P ops cs b6) (.tmp 35)=.agg zk from c2]at this;exact fC c4 this
   refine vB.value (s:=do eqGuard .neq t (.tmp 34) (.tmp 35) (.agg tk) (.agg zk);binOp .neq t (.agg tk) (.agg zk)) ?_ hW (c6 w) (.bool b6);simp only[execOp,sV,e1,e2]
  ·have hi:i∈OD:=ky.2 ⟨ky.2 ⟨by have:=(dW.1 ho).1;simp;omega,hp⟩,by cases hb:Nat.beq i 28 with|false=>rfl|true=>exact absurd (uN hb) h32⟩;have:=List.map_inj_left.1 h2 i hi;exact N0 hW (by simpa[ho,hd]using this) hρ
 ·rw[h3,h4];exact VR.ptr (σ:=Dz B n) ⟨0,0,none⟩ ⟨B,0,n⟩ rfl rfl
def adM{tm mQ:Array ae}{it:ae}(h:tm.size=58)(h0:mQ.size=58)(pg:∀t,(t<14\/41<t)->tm[t]? =mQ[t]?)(XA:tm.getD 41 ag=it):
 ∃xs:List ae,xs.length=27/\tm=(mQ.toList.take 14++(xs++(it::mQ.toList.drop 42))).toArray:=by
 have hl:tm.toList.length=58:=by simpa using h
 have Ie:mQ.toList.length=58:=by simpa using h0
 refine⟨(tm.toList.drop 14).take 27,by simp[hl],?_⟩;apply Array.ext';apply rR;intro i;simp only[];by_cases h1:i<14
 ·rw[tB (by simp[Ie];omega),List.getElem?_take_of_lt h1];have:=pg i (.inl h1);simpa using this
 ·rw[gb (by simp[Ie];omega)];have e14:(mQ.toList.take 14).length=14:=by simp[Ie]
  rw[e14];by_cases h2:i<41
  ·rw[tB (by simp[hl];omega),List.getElem?_take_of_lt (by omega),uk];congr 1;omega
  ·rw[gb (by simp[hl];omega)];have e27:((tm.toList.drop 14).take 27).length=27:=by simp[hl]
   rw[e27];by_cases h3:i=41
   ·subst h3;have:tm[41]? =some it:=by rw[<-XA];simp[g9 (show 41<tm.size by omega)]
    simpa using this
   ·obtain⟨j,rfl⟩:∃j,i=j+42:=⟨i-42,by omega⟩;have e:j+42-14-27=j+1:=by omega
    rw[e,DA,uk];have:=pg (j+42) (.inr (by omega));have e2:42+j=j+42:=by omega
    rw[e2];simpa using this
def io{H:Type}{P:aj}{e:ai}(he:P.underlying e=some .bool){v:ae}{y:ce H×List dO}(h:plainElem P e v=some y):∃c,v=.bool c:=by unfold plainElem at h;rw[he]at h;cases v<;>simp at h;exact⟨_,rfl⟩
def VP{σ:dj}{cs:List ae}{w':au}{B n:Nat}(h:bt σ (xm cs) w'.heap)(hσ:σ 0=some ⟨B,0,n⟩){i:Nat}{v:ae}(hv:cs[i]? =some v)(hp:bC v=true):w'.cell? ⟨B,i,none⟩=some v:=by
 have hg:(xm cs).get 0=some (.cells cs):=by show T.get (path 0) (T.set (some (eF.cells cs)) (path 0) .lf)=_;exact T.kn _ _ _
 obtain⟨c,t,fr,h1,_,_,_,h4⟩:=h.obj 0 _ _ hg hσ;obtain⟨v',h5,h6⟩:=h4 i v hv;rw[fC hp h6]at h5;simp only[aI]at h5;simp[World.cell?,h1,h5]
def vD(g0 g1 g2 g3 g4 g5 g6 g7:Bool):Int:=(cond g0 1 0+(cond g1 2 0+(cond g2 4 0+(cond g3 8 0+(cond g4 16 0+(cond g5 32 0+(cond g6 64 0+cond g7 128 0)))))):Nat)
structure al9 (P:aj) (TK TE m r n:Nat) (D:ce Unit) (left:Lit->Bool) (yJ:Nat) (w:au) where
 x:Int
 c:Bool
 w1:au
 Nk:Nat
 hl:left (.af x)=true
 mE:∀zd,D.atKey (.af x) zd=.lit (.bool c)
 Il:w1.ranges P TK (plainElem P TE) m r n D (λz=>left z&& !z.sameKey (.af x)) Nk
 gZ:Nk<yJ
 Ro:w.grownBy w1 (some r)
 qD:w1.heap.size=w.heap.size
 hen:(Instr.entry (.pointer (some ⟨r,0,none⟩))).run P w1=.ok (.tuple #[.af x,.bool c]) w1
def zI{P:aj}{ops:Array ao}{iZ:List ao}{o:ao}{a:ba}{w:au}{Q:dh->ba->au->Prop}(hg:o.guard=none)(it:aq)(sV:o.op=Op.next it false){TK TE m r n:Nat}{D:ce Unit}{left:Lit->Bool}{yJ:Nat}
 (hk:P.underlying TK=some (.int .i64))(he:P.underlying TE=some .bool)(XA:a.eval it=.pointer (some ⟨r,0,none⟩))(h:w.ranges P TK (plainElem P TE) m r n D left yJ)
 (afm:(∀kl,left kl=false)->wpList P ops Q iZ (a.put o.dst (.tuple #[.bool false])) w)
 (ai1:∀z:al9 P TK TE m r n D left yJ w,wpList P ops Q iZ (a.put o.dst (.tuple #[.bool true,.af z.x,.bool z.c])) z.w1):wpList P ops Q (o::iZ) a w:=
 wpList_next_ranges (α:=Int) (β:=Bool) w hg it sV TK (Go.Maps.int_keyed hk) (plainElem P TE) (Value.int .i64) Value.bool (λkey kl KV=>by obtain⟨x,rfl,_⟩:=Go.Maps.keyOf_int_inv hk KV;exact⟨x,rfl⟩) (λv y hv=>io he hv) m r n D left yJ XA h (λ_=>afm)
  (λx c kl y w1 Nk KV hlk hy mE Il gZ Ro qD hen=>by obtain⟨x',ex,rfl,_⟩:=Go.Maps.keyOf_int_inv hk KV;cases ex;rw[plainElem_bool he]at hy;injection hy with hy;subst hy;exact ai1 ⟨x,c,w1,Nk,hlk,mE,Il,gZ,Ro,qD,hen⟩)
def Wb{b0 b1 b2 b3 b4 b5 b6 b7 c:Bool}{x:Int}(h:Maps.has (Dw b0 b1 b2 b3 b4 b5 b6 b7) (.af x)=true)(mE:∀zd,(Dw b0 b1 b2 b3 b4 b5 b6 b7).atKey (.af x) zd=.lit (.bool c)):
 (x=1/\c=b0)\/(x=2/\c=b1)\/(x=4/\c=b2)\/(x=8/\c=b3)\/(x=16/\c=b4)\/(x=32/\c=b5)\/(x=64/\c=b6)\/(x=128/\c=b7):=by
 have hx:x=1\/x=2\/x=4\/x=8\/x=16\/x=32\/x=64\/x=128:=by simp only[Maps.has,Dw,Hy,YD,qj,kg,List.any_cons,List.any_nil,Bool.or_false,mV]at h;rcases h with h|h|h|h|h|h|h|h<;>(have:=WideAt.sameKey_eq h;injection this with _ this;simp_all)
 rcases hx with rfl|rfl|rfl|rfl|rfl|rfl|rfl|rfl
 ·have:(DataW.lit (.bool b0):ce Unit)=.lit (.bool c):=mE .nil;injection this with this;injection this with this;simp[this]
 ·have:(DataW.lit (.bool b1):ce Unit)=.lit (.bool c):=mE .nil;injection this with this;injection this with this;simp[this]
 ·have:(DataW.lit (.bool b2):ce Unit)=.lit (.bool c):=mE .nil;injection this with this;injection this with this;simp[this]
 ·have:(DataW.lit (.bool b3):ce Unit)=.lit (.bool c):=mE .nil;injection this with this;injection this with this;simp[this]
 ·have:(DataW.lit (.bool b4):ce Unit)=.lit (.bool c):=mE .nil;injection this with this;injection this with this;simp[this]
 ·have:(DataW.lit (.bool b5):ce Unit)=.lit (.bool c):=mE .nil;injection this with this;injection this with this;simp[this]
 ·have:(DataW.lit (.bool b6):ce Unit)=.lit (.bool c):=mE .nil;injection this with this;injection this with this;simp[this]
 ·have:(DataW.lit (.bool b7):ce Unit)=.lit (.bool c):=mE .nil;injection this with this;injection this with this;simp[this]
def or0:∀g1 g2 g3 g4 g5 g6 g7:Bool,bits .or .i64 (vD false g1 g2 g3 g4 g5 g6 g7) 1=vD true g1 g2 g3 g4 g5 g6 g7:=by decide+kernel
def or1:∀g0 g2 g3 g4 g5 g6 g7:Bool,bits .or .i64 (vD g0 false g2 g3 g4 g5 g6 g7) 2=vD g0 true g2 g3 g4 g5 g6 g7:=by decide+kernel
def or2:∀g0 g1 g3 g4 g5 g6 g7:Bool,bits .or .i64 (vD g0 g1 false g3 g4 g5 g6 g7) 4=vD g0 g1 true g3 g4 g5 g6 g7:=by decide+kernel
def or3:∀g0 g1 g2 g4 g5 g6 g7:Bool,bits .or .i64 (vD g0 g1 g2 false g4 g5 g6 g7) 8=vD g0 g1 g2 true g4 g5 g6 g7:=by decide+kernel
def or4:∀g0 g1 g2 g3 g5 g6 g7:Bool,bits .or .i64 (vD g0 g1 g2 g3 false g5 g6 g7) 16=vD g0 g1 g2 g3 true g5 g6 g7:=by decide+kernel
def or5:∀g0 g1 g2 g3 g4 g6 g7:Bool,bits .or .i64 (vD g0 g1 g2 g3 g4 false g6 g7) 32=vD g0 g1 g2 g3 g4 true g6 g7:=by decide+kernel
def or6:∀g0 g1 g2 g3 g4 g5 g7:Bool,bits .or .i64 (vD g0 g1 g2 g3 g4 g5 false g7) 64=vD g0 g1 g2 g3 g4 g5 true g7:=by decide+kernel
def or7:∀g0 g1 g2 g3 g4 g5 g6:Bool,bits .or .i64 (vD g0 g1 g2 g3 g4 g5 g6 false) 128=vD g0 g1 g2 g3 g4 g5 g6 true:=by decide+kernel
def Vh{left:Lit->Bool}{x:Int}{c:Bool}{b0 b1 b2 b3 b4 b5 b6 b7:Bool}(hl:left (.af x)=true)
 (h8:(x=1/\c=b0)\/(x=2/\c=b1)\/(x=4/\c=b2)\/(x=8/\c=b3)\/(x=16/\c=b4)\/(x=32/\c=b5)\/(x=64/\c=b6)\/(x=128/\c=b7)):
 (c=false->vD (!left (.af 1)&&b0) (!left (.af 2)&&b1) (!left (.af 4)&&b2) (!left (.af 8)&&b3) (!left (.af 16)&&b4) (!left (.af 32)&&b5) (!left (.af 64)&&b6) (!left (.af 128)&&b7)=vD (!(λz=>left z&& !z.sameKey (.af x)) (.af 1)&&b0) (!(λz=>left z&& !z.sameKey (.af x)) (.af 2)&&b1) (!(λz=>left z&& !z.sameKey (.af x)) (.af 4)&&b2) (!(λz=>left z&& !z.sameKey (.af x)) (.af 8)&&b3) (!(λz=>left z&& !z.sameKey (.af x)) (.af 16)&&b4) (!(λz=>left z&& !z.sameKey (.af x)) (.af 32)&&b5) (!(λz=>left z&& !z.sameKey (.af x)) (.af 64)&&b6) (!(λz=>left z&& !z.sameKey (.af x)) (.af 128)&&b7))/\
 (c=true->bits .or .i64 (vD (!left (.af 1)&&b0) (!left (.af 2)&&b1) (!left (.af 4)&&b2) (!left (.af 8)&&b3) (!left (.af 16)&&b4) (!left (.af 32)&&b5) (!left (.af 64)&&b6) (!left (.af 128)&&b7)) x=vD (!(λz=>left z&& !z.sameKey (.af x)) (.af 1)&&b0) (!(λz=>left z&& !z.sameKey (.af x)) (.af 2)&&b1) (!(λz=>left z&& !z.sameKey (.af x)) (.af 4)&&b2) (!(λz=>left z&& !z.sameKey (.af x)) (.af 8)&&b3) (!(λz=>left z&& !z.sameKey (.af x)) (.af 16)&&b4) (!(λz=>left z&& !z.sameKey (.af x)) (.af 32)&&b5) (!(λz=>left z&& !z.sameKey (.af x)) (.af 64)&&b6) (!(λz=>left z&& !z.sameKey (.af x)) (.af 128)&&b7)):=by
 have e:∀a b:Int,(Lit.int .i64 a).sameKey (.af b)=decide (a=b):=by intro a b;simp[Lit.sameKey]
 rcases h8 with⟨rfl,rfl⟩|⟨rfl,rfl⟩|⟨rfl,rfl⟩|⟨rfl,rfl⟩|⟨rfl,rfl⟩|⟨rfl,rfl⟩|⟨rfl,rfl⟩|⟨rfl,rfl⟩
 ·exact⟨λhc=>by simp[e,hl,hc],λhc=>by simp[e,hl,hc,or0]⟩
 ·exact⟨λhc=>by simp[e,hl,hc],λhc=>by simp[e,hl,hc,or1]⟩
 ·exact⟨λhc=>by simp[e,hl,hc],λhc=>by simp[e,hl,hc,or2]⟩
 ·exact⟨λhc=>by simp[e,hl,hc],λhc=>by simp[e,hl,hc,or3]⟩
 ·exact⟨λhc=>by simp[e,hl,hc],λhc=>by simp[e,hl,hc,or4]⟩
 ·exact⟨λhc=>by simp[e,hl,hc],λhc=>by simp[e,hl,hc,or5]⟩
 ·exact⟨λhc=>by simp[e,hl,hc],λhc=>by simp[e,hl,hc,or6]⟩
 ·exact⟨λhc=>by simp[e,hl,hc],λhc=>by simp[e,hl,hc,or7]⟩
def vS{H:Type}{P:aj}{k:ai}{w:au}{Re:ae->Option (ce H×List dO)}{b r n yJ:Nat}{D:ce H}{left:Lit->Bool}(h:w.ranges P k Re b r n D left yJ):∀a:aW,a.block=r->w.frozen? a=false:=λa ha=>IW h ha
def Fg(b0 b1 b2 b3 b4 b5 b6 b7:Bool)(u:Int):Int:=if bits .andNot .i64 (vD b0 b1 b2 b3 b4 b5 b6 b7) u=0 then 0 else 2
def PZ{H:Type}{P:aj}{k:ai}{w:au}{Re:ae->Option (ce H×List dO)}{b r n yJ:Nat}{D:ce H}{left:Lit->Bool}(h:w.ranges P k Re b r n D left yJ):r<w.heap.size:=by obtain⟨es,j5,since,seen,c0,_,_,_,_,hr,_⟩:=h;exact(dW.1 hr).1
end
section
variable [ak]
def fy(k ow un se sc n to t1 t2 t3 t4 nw:Int):Array ae:=#[.af k,.int .u32 ow,.af un,.af se,.af sc,.af n,.int .u32 to,.int .u32 t1,.int .u32 t2,.int .u64 t3,.int .u64 t4,.af nw]
def JB(ow un se sc n to t1 t2 t3 t4 nw u:Int):Int:=
 Fg (!decide (ow=0)) (!decide (un=0)) (!decide (se=0)) (!decide (sc=0)) (!decide (n=0)) (!decide (to=0)) (!((t1==0)&&((t2==0)&&((t3==0)&&((t4==0)&&true))))) (!decide (nw=0)) u
def HP(c:List ae)(W:AW):Option ae:=
 match c with
 |[.int .i64 k,.int .u32 ow,.int .i64 un,.int .i64 se,.int .i64 sc,.int .i64 n,.int .u32 to,.int .u32 t1,.int .u32 t2,.int .u64 t3,.int .u64 t4,.int .i64 nw]=>
  (match decide (k<1)||decide (12<k)with
  |true=>some (.af 2)
  |false=>match W.get 0 with
   |some (.ro us)=>(match us[k.toNat]? with
    |some (.int .i64 u)=>some (.af (JB ow un se sc n to t1 t2 t3 t4 nw u))
    |_=>none)
   |_=>none)
 |_=>none
def chk(F:Nat):Callee:=λf args W=>match f with
 |.func (.func g) fs cs=>(match Nat.beq g F&&(fs.isEmpty&&cs.isEmpty)with
  |true=>(match args with
   |[.agg c]=>(match HP c.toList W with
    |some v=>some (v,W)
    |none=>none)
   |_=>none)
  |false=>none)
 |_=>none
def ej.box(w:au)(cs:Array ae)(t:ai):ej w (w.alloc (.cells cs t)):=by exact⟨rfl,rfl,rfl,by simp,λB hB=>(xH w _ none).block B hB (by simp)⟩
def Wi{P:aj}{ng:List Nat}(h0:0∈ng){F:Nat}{fn:fD}{body:bG}(Ki:P.funcs[F]? =some fn)(qR:(fn.name== "runtime.NumGoroutine")=false)(hb:fn.body=some body)
 (kX:∀(k ow un se sc n to t1 t2 t3 t4 nw u:Int) (w:au),¬k<1->¬12<k->w.cell? ⟨0,k.toNat,none⟩=some (.af u)->
   Calls P F #[.agg (fy k ow un se sc n to t1 t2 t3 t4 nw)] w λe w'=>e=.returned (.af (JB ow un se sc n to t1 t2 t3 t4 nw u))/\ej w w')
 (zQ:∀(k ow un se sc n to t1 t2 t3 t4 nw:Int) (w:au),(k<1\/12<k)->
   Calls P F #[.agg (fy k ow un se sc n to t1 t2 t3 t4 nw)] w λe w'=>e=.returned (.af 2)/\ej w w'):cw P ng (chk F):=by
 intro f args W v W' h σ w f' dw hW hG hf db;unfold chk at h;split at h;case h_2=>cases h
 rename_i g fs cs;split at h;case h_2=>cases h
 rename_i N8;simp only[bK,eM,xz]at N8;obtain⟨rfl,rfl,rfl⟩:=N8;split at h;case h_2=>cases h
 rename_i c;split at h;case h_2=>cases h
 rename_i v1 O3;injection h with h;injection h with h1 h2;subst h1;subst h2;obtain⟨Fa,tW,cP,Eu,Et,pw,rfl⟩:=hf.kB;cases Eu;obtain rfl:tW=#[]:=by have h1:tW.toList.length=0:=Et.1.symm;exact tL.1 (jR.1 h1)
 obtain rfl:cP=#[]:=by have h1:cP.toList.length=0:=pw.1.symm;exact tL.1 (jR.1 h1)
 obtain⟨a0,rfl⟩:∃a0,dw=[a0]:=by
  have:=db.1;match dw,this with
  |[a0],_=>exact⟨a0,rfl⟩
 unfold HP at O3;split at O3;case h_2=>cases O3
 rename_i k ow un se sc n to t1 t2 t3 t4 nw hc;have sX:c=fy k ow un se sc n to t1 t2 t3 t4 nw:=by apply Array.ext';rw[hc];rfl
 subst sX;have ha:a0=.agg (fy k ow un se sc n to t1 t2 t3 t4 nw):=fC (v:=.agg (fy k ow un se sc n to t1 t2 t3 t4 nw)) rfl (db.2 0 _ _ rfl rfl);subst ha;have fin:∀z:Int,(Calls P g #[.agg (fy k ow un se sc n to t1 t2 t3 t4 nw)] w λe w'=>e=.returned (.af z)/\ej w w')->
  vM P (.func (.func g) #[] #[]) [.agg (fy k ow un se sc n to t1 t2 t3 t4 nw)] w (λv' w'=>∃σ',VR σ' (.af z) v'/\bt σ' W w'.heap/\eW σ W w σ' W w'):=by
  intro z hz;refine⟨fg Ki qR hb _ w,?_⟩;refine nK (show CallsIn Fence.wide 0 P g _ w _ from(uI (n:=0)).2 hz) ?_;rintro e w' ⟨rfl,hq⟩;exact⟨_,rfl,σ,.int _ _,hq.rel hW,hq.ext σ W⟩
 split at O3
 ·rename_i hk;injection O3 with O3;subst O3;exact fin _ (zQ _ _ _ _ _ _ _ _ _ _ _ _ w (by simpa using hk))
 ·rename_i hk;simp only[Bool.or_eq_false_iff,B8]at hk;split at O3;case h_2=>cases O3
  rename_i us hus;split at O3;case h_2=>cases O3
  rename_i u hu;injection O3 with O3;subst O3;obtain⟨e,he⟩:=hG 0 h0;obtain⟨cc,t,fr,k1,_,k3⟩:=hW.obj 0 _ _ hus he;have N3:w.cell? ⟨0,k.toNat,none⟩=some (.af u):=by obtain⟨v',this,X1⟩:=k3 _ _ hu;obtain rfl:=X1.pE;simp only[aI]at this;simp[World.cell?,k1,this]
  exact fin _ (kX _ _ _ _ _ _ _ _ _ _ _ _ _ w hk.1 hk.2 N3)
def Q1{gs:List (Nat×List ae)}{N:Nat}{σ':dj}{W':AW}{w w':au}(he:eW (σG gs) (WG gs N) w σ' W' w'):ej w w':=
 ⟨he.os,he.tape,he.output,he.size,λB hB=>he.dq B hB afR⟩
def yh{P:aj}(hm:P.follows .mixedOrders=true){bad:List Nat}(hP:lG ak.ng bad 0 P.funcs.toList=true){spec:Callee}(hs:cw P ak.ng spec)(n:Nat)
 {gs:List (Nat×List ae)}{N:Nat}(hN:gs.all (λx=>Nat.blt x.1 N)=true)(Pf:ak.ng.all (λg=>(gs.find? (λx=>x.1==g)).isSome)=true){i:Nat}{args:List ae}(oa:args.all bC=true)
 (h:LU (LC P bad spec n (.func (.func i) #[] #[]) args (WG gs N))=true)(w:au)(hl:vI gs w.heap):
 Calls P i args.toArray w λe w'=>e=.returned (.bool true)/\ej w w':=by
 obtain⟨W',hr⟩:=Qf h;have hc:=Fm hm rfl hP hs n _ _ _ _ _ hr (σG gs) w (.func (.func i) #[] #[]) args (ZT hN hl) (Ur Pf)
  (.func _ _ _ _ _ _ (.func i) rfl (λi v v' x=>by simp at x) rfl (λi v v' x=>by simp at x)) (Lu oa)
 unfold vM at hc;obtain⟨_,hc⟩:=hc;have e1:(#[]:Array ae)++args.toArray++#[]=args.toArray:=by simp
 rw[e1]at hc;refine(uI (n:=0)).1 ?_;refine nK (show CallsIn Fence.wide 0 P i args.toArray w _ from hc) ?_;rintro e w' ⟨v,rfl,σ',hv,_,he⟩;exact⟨by rw[hv.io],Q1 he⟩
def AA{ng bad:List Nat}{F:Nat}:∀{l:List fD} {i:Nat},lG ng bad i l=true->lG ng (F::bad) i l=true
 |[],_,_=>rfl
 |f::l,i,h=>by
  simp only[lG,bK,mV]at h|-;refine⟨?_,AA h.2⟩;rcases h.1 with h1|h1
  ·exact .inl (sn.2 (List.mem_cons_of_mem _ (sn.1 h1)))
  ·exact .inr h1
def acp(F:Nat)(OE:List ByteArray)(s:Callee):Callee:=λf args W=>match f with
 |.func (.func g) fs cs=>(match Nat.beq g F&&(fs.isEmpty&&cs.isEmpty)with
  |true=>(match args with
   |[.string b]=>(match OE.any (xF b)with
    |true=>(match W.get 0 with
     |some (.ro _)=>some (.bool true,W)
     |_=>none)
    |false=>none)
   |_=>none)
  |false=>s (.func (.func g) fs cs) args W)
 |_=>none
def XE{P:aj}{ng:List Nat}(h0:0∈ng){F:Nat}{fn:fD}{body:bG}(Ki:P.funcs[F]? =some fn)(qR:(fn.name== "runtime.NumGoroutine")=false)(hb:fn.body=some body){OE:List ByteArray}{s:Callee}(hs:cw P ng s)
 (th:∀b∈OE,∀w:au,vI [(0,[])] w.heap->Calls P F #[.string b] w λe w'=>e=.returned (.bool true)/\ej w w'):cw P ng (acp F OE s):=by
 intro f args W v W' h σ w f' dw hW hG hf db;unfold acp at h;split at h;case h_2=>cases h
 rename_i g fs cs;split at h;case h_2=>exact hs _ _ _ _ _ h σ w f' dw hW hG hf db
 rename_i N8;simp only[bK,eM,xz]at N8;obtain⟨rfl,rfl,rfl⟩:=N8;split at h;case h_2=>cases h
 rename_i b;split at h;case h_2=>cases h
 rename_i OP;split at h;case h_2=>cases h
 rename_i us hus;injection h with h;injection h with h1 h2;subst h1;subst h2;obtain⟨Fa,tW,cP,Eu,Et,pw,rfl⟩:=hf.kB;cases Eu;obtain rfl:tW=#[]:=by have h1:tW.toList.length=0:=Et.1.symm;exact tL.1 (jR.1 h1)
 obtain rfl:cP=#[]:=by have h1:cP.toList.length=0:=pw.1.symm;exact tL.1 (jR.1 h1)
 obtain⟨a0,rfl⟩:∃a0,dw=[a0]:=by
  have:=db.1;match dw,this with
  |[a0],_=>exact⟨a0,rfl⟩
 have ha:a0=.string b:=VR.Ek (db.2 0 _ _ rfl rfl);subst ha;obtain⟨e,he⟩:=hG 0 h0;obtain⟨cc,t,fr,k1,_,_⟩:=hW.obj 0 _ _ hus he;obtain⟨b',hb',Ib⟩:=uL.1 OP;have:=DF Ib;subst this;have hl:vI [(0,[])] w.heap:=λx hx=>by
  obtain rfl:x=(0,[]):=by simpa using hx
  exact⟨cc,t,fr,k1,λi v hv=>by simp at hv⟩
 refine⟨fg Ki qR hb _ w,?_⟩;refine nK (show CallsIn Fence.wide 0 P g _ w _ from(uI (n:=0)).2 (th _ hb' w hl)) ?_;rintro e w' ⟨rfl,hq⟩;exact⟨_,rfl,σ,.bool _,hq.rel hW,hq.ext σ W⟩
end
section
variable [ak]
def OW:List (Nat×Callee)->Callee
 |[]=>λ_ _ _=>none
 |(F,c)::l=>λf args W=>match f with
  |.func (.func g) fs cs=>(match Nat.beq g F with
   |true=>c (.func (.func g) fs cs) args W
   |false=>OW l (.func (.func g) fs cs) args W)
  |_=>none
def Jl{P:aj}{ng:List Nat}:∀{l:List (Nat×Callee)},(∀x∈l,cw P ng x.2)->cw P ng (OW l)
 |[],_=>λf args W v W' h=>by cases h
 |(F,c)::l,hl=>by
  intro f args W v W' h;unfold OW at h;split at h;case h_2=>cases h
  split at h
  ·exact hl (F,c) (by simp) _ _ _ _ _ h
  ·exact Jl (λx hx=>hl x (by simp[hx])) _ _ _ _ _ h
def Dg(gs:List (Nat×List ae))(W:AW):Prop:=∀x∈gs,W.get x.1=some (.ro x.2)/\x.1<W.next
def Dg.mono{gs:List (Nat×List ae)}{W W':AW}(h:Dg gs W)(a8:Le W W'):Dg gs W':=λx hx=>⟨by rw[a8.get _ (h x hx).2];exact(h x hx).1,fM (h x hx).2 a8.next⟩
def Cz(F:Nat)(gs:List (Nat×List ae))(val:List ae->Option ae):Callee:=λf args W=>match f with
 |.func (.func g) fs cs=>(match Nat.beq g F&&(fs.isEmpty&&cs.isEmpty)with
  |true=>open Classical in if Dg gs W then(match val args with
   |some v=>if bC v&&args.all bC then some (v,W)else none
   |none=>none)else none
  |false=>none)
 |_=>none
def S5{F:Nat}{gs:List (Nat×List ae)}{val:List ae->Option ae}{args:List ae}{W:AW}{v:ae}(hg:Dg gs W)(hv:val args=some v)(hp:bC v=true)(ha:args.all bC=true):
 Cz F gs val (.func (.func F) #[] #[]) args W=some (v,W):=by
 unfold Cz;simp only[pX,Array.isEmpty_empty,uV,ax hg,hv,hp,ha,bh]
def U0{P:aj}{ng:List Nat}{F:Nat}{fn:fD}{body:bG}(Ki:P.funcs[F]? =some fn)(qR:(fn.name== "runtime.NumGoroutine")=false)(hb:fn.body=some body){gs:List (Nat×List ae)}(hsc:gs.all (λx=>x.2.all cG&&Jh x.1 ng)=true){val:List ae->Option ae}
 (th:∀args v,val args=some v->∀w:au,vI gs w.heap->Calls P F args.toArray w λe w'=>e=.returned v/\ej w w'):cw P ng (Cz F gs val):=by
 intro f args W v W' h σ w f' dw hW hG hf db;unfold Cz at h;split at h;case h_2=>cases h
 rename_i g fs cs;split at h;case h_2=>cases h
 rename_i N8;simp only[bK,eM,xz]at N8;obtain⟨rfl,rfl,rfl⟩:=N8;split at h;case isFalse=>cases h
 rename_i hgl;split at h;case h_2=>cases h
 rename_i u hu;split at h;case isFalse=>cases h
 rename_i oa;injection h with h;injection h with h1 h2;subst h1;subst h2;simp only[bK]at oa;obtain⟨Fa,tW,cP,Eu,Et,pw,rfl⟩:=hf.kB;cases Eu;obtain rfl:tW=#[]:=by have h1:tW.toList.length=0:=Et.1.symm;exact tL.1 (jR.1 h1)
 obtain rfl:cP=#[]:=by have h1:cP.toList.length=0:=pw.1.symm;exact tL.1 (jR.1 h1)
 obtain rfl:dw=args:=LR.Tc (λv v'=>fC) oa.2 db;have hl:vI gs w.heap:=λx hx=>by have hs:=cM.1 hsc x hx;simp only[bK]at hs;obtain⟨e,he⟩:=hG x.1 (sn.1 hs.2);obtain⟨c,t,fr,k1,_,k3⟩:=hW.obj x.1 _ _ (hgl x hx).1 he;refine⟨c,t,fr,k1,λi v hv=>?_⟩;obtain⟨v',a,b⟩:=k3 i v hv;have hsv:=cM.1 hs.1 v (qw hv);have:v'=v:=FP hsv b;subst this;exact⟨by simpa using a,hsv⟩
 refine⟨fg Ki qR hb _ w,?_⟩;have e1:(#[]:Array ae)++dw.toArray++#[]=dw.toArray:=by simp
 rw[e1];refine nK (show CallsIn Fence.wide 0 P g _ w _ from(uI (n:=0)).2 (th _ _ hu w hl)) ?_;rintro e w' ⟨rfl,hq⟩;exact⟨_,rfl,σ,iO oa.1,hq.rel hW,hq.ext σ W⟩
def F8(σ:dj)(W:AW):Prop:=∀b g,σ b=some g->∃cs,W.get b=some (.ro cs)
def F8.quiet{σ σ':dj}{W W':AW}{w w':au}(h:F8 σ W)(he:eW σ W w σ' W' w'):ej w w':=
 ⟨he.os,he.tape,he.output,he.size,λB hB=>he.dq B hB (by rintro⟨b,g,hg,_,hn⟩;obtain⟨cs,hc⟩:=h b g hg;exact hn cs hc)⟩
def Vz{P:aj}{o:Callee}(jq:cw P ak.ng o){σ:dj}{W W':AW}{w:au}(hW:bt σ W w.heap)(hG:vH σ ak.ng)(pM:F8 σ W){i:hZ}{args dw:List ae}(db:LR σ args dw){v:ae}(hv:bC v=true)
 (h:o (.func (.func i) #[] #[]) args W=some (v,W')):Calls P i dw.toArray w λe w'=>e=.returned v/\ej w w':=by
 have hc:=jq _ _ _ _ _ h σ w (.func (.func i) #[] #[]) dw hW hG (.func _ _ _ _ _ _ (.func i) rfl (λi v v' x=>by simp at x) rfl (λi v v' x=>by simp at x)) db;unfold vM at hc;obtain⟨_,hc⟩:=hc;have e1:(#[]:Array ae)++dw.toArray++#[]=dw.toArray:=by simp
 rw[e1]at hc;refine(uI (n:=0)).1 ?_;refine nK (show CallsIn Fence.wide 0 P i dw.toArray w _ from hc) ?_;rintro e w' ⟨v',rfl,σ',X1,_,he⟩;exact⟨by rw[fC hv X1],pM.quiet he⟩
def Xl{gs:List (Nat×List ae)}{N:Nat}:F8 (σG gs) (WG gs N):=by intro b g hg;obtain⟨x,_,_,_,ht⟩:=qJ hg;exact⟨x.2,ht⟩
def YK{gs:List (Nat×List ae)}{N:Nat}(hN:gs.all (λx=>Nat.blt x.1 N)=true)(hd:∀x∈gs,gs.find? (λy=>y.1==x.1)=some x):Dg gs (WG gs N):=by intro x hx;refine⟨?_,show x.1<N by have:=cM.1 hN x hx;simpa[jM]using this⟩;show T.get (path x.1) (C4 gs)=_;rw[vm,hd x hx];rfl
end
end Go.Eng
namespace Go.Eng
open Go
section
variable [ak]
section
variable {P:aj} {W:AW}
def aM(l:List UInt8):ByteArray:=⟨l.toArray⟩
def Jw(b:ByteArray):aM b.data.toList=b:=by cases b;simp[aM]
def jW(l:List UInt8):(aM l).size=l.length:=by simp[aM,ByteArray.size]
def wF(l:List Nat):C7 l=.string (aM (l.map UInt8.ofNat)):=aJ rfl rfl
def Bb(l:List UInt8)(i:Nat):(aM l)[i]? =l[i]? :=by
 by_cases h:i<l.length
 ·have h2:i<(aM l).size:=by rw[jW];exact h
  rw[cL h,getElem?_pos (aM l) i h2];rfl
 ·rw[rK (by omega),getElem?_neg (aM l) i (by rw[jW];exact h)]
def DM{s:Sem ae}{v:ae}(h:cI P s=some v)(hv:bC v=true)(c:Bool)(hc:c=true):(j8 P c (do pure (.value (<-s)))).map (λv=>(v,W))=some (v,W):=by subst hc;unfold j8;simp only[bh,KX h,hv,cS]
def i5{t:ai}(hs:P.underlying t=some .string){l:List UInt8}{i:Nat}{k:aV}(hi:i<l.length):eH P t (.string (aM l)) (.int k (i:Int)) W=some (.int .u8 (l[i].toNat:Int),W):=by
 have e:eH P t (.string (aM l)) (.int k (i:Int)) W=(j8 P (bC (.string (aM l))&&(bC (.int k (i:Int))&&true)) (do pure (.value (<-Instr.index t (.string (aM l)) (.int k (i:Int)))))).map λv=>(v,W):=by unfold eH;rw[hs]
 rw[e];refine DM ?_ rfl _ rfl;unfold Instr.index;have h0:(0:Int)<=(i:Int):=by omega
 simp only[asIntOf,pure_bind,fq,fF hs,bp,h0,bh,oY,Bb,cL hi,fW]
def eO{ts:Array ai}{ty:ai}{cf:Array Bool}(h:(ts[0]?).bind P.underlying=some .string)(l:List UInt8):aB P .len ts ty cf [.string (aM l)] W=some (.af l.length,W):=by
 obtain⟨t,h1,h2⟩:∃t,ts[0]? =some t/\P.underlying t=some .string:=by
  cases ht:ts[0]? with
  |none=>rw[ht]at h;cases h
  |some t=>rw[ht]at h;exact⟨t,rfl,h⟩
 have e:aB P .len ts ty cf [.string (aM l)] W=(j8 P ([Value.string (aM l)].all bC) (builtin .len ts ty cf #[.string (aM l)])).map λv=>(v,W):=by unfold aB;rfl
 rw[e];have e2:builtin .len ts ty cf #[.string (aM l)]=(do pure (.value (<-Builtin.len_ ts ty #[.string (aM l)]))):=rfl;rw[e2];refine DM ?_ rfl _ rfl;unfold Builtin.len_;simp only[h1,List.getElem?_toArray,HJ,fq,fF h2,bp,fW,jW];rfl
def tX(l:List UInt8)(a b:Nat):(aM l).extract a b=aM ((l.take b).drop a):=by
 have h:((aM l).extract a b).data=(aM ((l.take b).drop a)).data:=by rw[ByteArray.data_extract];apply qv.1;simp[aM,Hp,xd]
 cases hx:(aM l).extract a b with
 |mk d=>rw[hx]at h;simp only at h;rw[h]
def VX{t:ai}(hs:P.underlying t=some .string){l:List UInt8}{a:Nat}{k:aV}(h:a<=l.length):fh P t (.string (aM l)) (some (.int k (a:Int))) none none W=some (.string (aM (l.drop a)),W):=by
 have e:fh P t (.string (aM l)) (some (.int k (a:Int))) none none W=(j8 P (([Value.string (aM l),.int k (a:Int)]:List ae).all bC) (do pure (.value (<-Instr.sliceAt t (.string (aM l)) (some (.int k (a:Int))) none none)))).map λv=>(v,W):=by unfold fh mS;rw[hs];rfl
 rw[e];refine DM ?_ rfl _ rfl;have h0:(0:Int)<=(a:Int)/\(a:Int)<=((aM l).size:Int):=by rw[jW];omega
 have hx:(aM l).extract a (aM l).size=aM (l.drop a):=by rw[tX,jW,dd]
 unfold Instr.sliceAt Instr.slice Instr.sliceBounds Instr.sliceBound;simp only[fq,fF hs,bp,asIntOf,pure_bind,h0,nJ,bh,fW,oY,hx,yu,gO,bR]
def acs{t:ai}(hs:P.underlying t=some .string){l:List UInt8}{a:Nat}{k:aV}(h:a<=l.length):fh P t (.string (aM l)) none (some (.int k (a:Int))) none W=some (.string (aM (l.take a)),W):=by
 have e:fh P t (.string (aM l)) none (some (.int k (a:Int))) none W=(j8 P (([Value.string (aM l),.int k (a:Int)]:List ae).all bC) (do pure (.value (<-Instr.sliceAt t (.string (aM l)) none (some (.int k (a:Int))) none)))).map λv=>(v,W):=by unfold fh mS;rw[hs];rfl
 rw[e];refine DM ?_ rfl _ rfl;have h0:(0:Int)<=(a:Int)/\(a:Int)<=((aM l).size:Int):=by rw[jW];omega
 have hx:(aM l).extract 0 a=aM (l.take a):=by rw[tX];simp
 unfold Instr.sliceAt Instr.slice Instr.sliceBounds Instr.sliceBound;simp only[fq,fF hs,bp,asIntOf,pure_bind,h0,nJ,bh,fW,oY,hx,yu,gO,bR]
def vT(l:List UInt8):(aM l).toList=l:=by rw[ByteArray.toList_eq];rfl
def pF{t:ai}{c d:Bool}{a b:List UInt8}:aw P .eql t c d (.string (aM a)) (.string (aM b)) W=some (.bool (a==b),W):=by rw[zr,vT,vT]
def bf(a:aW):be (.pointer (some a)) W=some (.pointer (some a),W):=aJ rfl rfl
def B5{t:ai}{x:ae}:aF P [(x,some t)] W=(iV P t x W).bind λr=>some (r.1,W):=by unfold aF iV;simp only[qU];cases ja P W t x<;>rfl
def eT{t:ai}{x u:ae}:aF P [(x,some t),(u,none)] W=(iV P t x W).bind λr=>some (.tuple #[r.1,u],W):=by unfold aF iV;simp only[qU];cases ja P W t x<;>rfl
def vd{t t2:ai}{x y:ae}:aF P [(x,some t),(y,some t2)] W=(iV P t x W).bind λr=>(iV P t2 y W).bind λq=>some (.tuple #[r.1,q.1],W):=by unfold aF iV;simp only[qU];cases ja P W t x<;>cases ja P W t2 y<;>rfl
def CG{t t2:ai}{x y u:ae}:aF P [(x,some t),(y,some t2),(u,none)] W=(iV P t x W).bind λr=>(iV P t2 y W).bind λq=>some (.tuple #[r.1,q.1,u],W):=by unfold aF iV;simp only[qU];cases ja P W t x<;>cases ja P W t2 y<;>rfl
def Yp{b:Nat}{cs:List ae}(h:aH W b=some cs)(h1:cs.all one=true):bP cs.length (.pointer (some ⟨b,0,none⟩)) (.agg cs.toArray) W=some (ag,W.put b (.cells cs)):=by rw[vf,h];simp only[bp,sy,aI,aP,h1,nJ,bh,gI,px,kg,List.drop_length,jn]
def mh{b n:Nat}{cs:List ae}(h:aL W b=some cs)(hn:cs.length=n):bA n (.pointer (some ⟨b,0,none⟩)) W=some (.agg cs.toArray,W):=by rw[zJ,h];simp only[bp,kN,<-hn,dd,bh]
end
end
def SX:=aR @wX (aR @adk (aR @gD (aR @Jv (aR @QX (aR @KA (aR @Cb (aR @QY (aR @Lo (aR @HZ (aR @Gy (aR @GX (aR @H8 (aR @GZ (aR @Va (aR @PD (aR @Tj (aR @QN (aR @SD (aR @MB (aR @HN (aR @Nt (aR @Rk (aR @LB (aR @PH (aR @Hc (aR @Qg (aR @XP (aR @ac7 (aR @XW (aR @Vu (aR @Vc (aR @UP (aR @VM (aR @T2 (aR @TS (aR @MR (aR @Nj (aR @Mv (aR @Te (aR @abO (aR @Bool.not_true (aR @Bool.not_false (aR @decide_true (@decide_false))))))))))))))))))))))))))))))))))))))))))))
def MX:=aR @VL (aR @zJ (aR @bE (aR @cg (aR @bp.{0,0} (aR @cS.{0,0} (aR @kN.{0} (aR @List.drop_succ_cons.{0} (aR @GM.{0} (aR @px.{0} (aR @dE.{0} (aR @oG.{0} (aR @HJ.{0} (aR @DA.{0} (aR @aI (aR @bh.{1} (aR @nJ (aR @kE (aR @NB (aR @NZ (aR @DO (aR @TG (aR @lH (aR @yD (aR @OG (aR @mH (aR @wG (aR @QM (aR @Gg (aR @NA (aR @GH (aR @iM (aR @jK (aR @uV (aR @gt (aR @Xu (aR @pP (aR @Jn (aR @Nc (aR @QH (aR @vf (aR @tR (aR @fT (aR @pU (aR @bF (aR @t6 (aR @bs (aR @GO.{0} (aR @BE.{0} (aR @kg.{0} (aR @qj.{0} (aR @kA (aR @SW (aR @jH (aR @Qz (aR @fa.{0} (aR @mf.{0} (aR @sy.{0} (aR @jn.{0} (aR @OQ (aR @List.drop_nil.{0} (@List.take_nil.{0})))))))))))))))))))))))))))))))))))))))))))))))))))))))))))))
section
variable [ak]
section
variable {P:aj} {W:AW} {α:Type}
def pk(lo:Nat)(W:AW)(z:Nat)(f:α->List ae)(v:ae)(l:List α):Prop:=
 (l=[]/\v=.slice none 0 0)\/(l≠[]/\∃B,lo<=B/\B<W.next/\v=.slice (some ⟨B,0,none⟩) l.length (gU+z)/\W.get B=some (.cells (l.flatMap f)))
def ch{z:Nat}{f:α->List ae}(hf:∀a,(f a).length=z):∀l:List α,(l.flatMap f).length=l.length*z
 |[]=>by simp
 |a::l=>by rw[iD,cK,hf,ch hf l,dE,Nat.succ_mul,Nat.add_comm]
def pk.nil(lo:Nat)(W:AW)(z:Nat)(f:α->List ae):pk lo W z f (.slice none 0 0) []:=.inl ⟨rfl,rfl⟩
def pk.mono{lo z:Nat}{f:α->List ae}{v:ae}{l:List α}{W':AW}(h:pk lo W z f v l)(a8:Le W W'):pk lo W' z f v l:=by
 rcases h with h|⟨h0,B,h1,h2,h3,h4⟩
 ·exact .inl h
 ·exact .inr ⟨h0,B,h1,fM h2 a8.next,h3,by rw[a8.get B h2];exact h4⟩
def pk.push{ts:Array ai}{z bytes lo:Nat}{f:α->List ae}{v:ae}{l:List α}{a:α}(hk:iR P ts z bytes=true)(hf:∀a,(f a).length=z)(h1:∀a,(f a).all one=true)
 (h:pk lo W z f v l){b c:Nat}(hc:aL W b=some (f a))(hb:l.length+1<1099511627776)(iW:(2*(l.length+1)+192)*bytes<=281474976710656)(vJ:lo<=W.next):
 ∃v' W',aN P W ts v (.slice (some ⟨b,0,none⟩) 1 c)=some (v',W')/\pk lo W' z f v' (l++[a])/\W.next<=W'.next/\∀A,Le A W->A.next<=lo->Le A W':=by
 have hn:f a=((f a).drop 0).take (1*z):=by rw[kN,Nat.one_mul,<-hf a,dd]
 have hl:(f a).length=1*z:=by rw[hf];omega
 rcases h with⟨rfl,rfl⟩|⟨h0,B,i1,i2,rfl,i4⟩
 ·refine⟨_,_,B7 (b:=b) (o:=0) (c:=c) hk hc hn hl (by omega) (h1 a) (by omega) (by simpa using iW),.inr ⟨by simp,W.next,vJ,by rw[AW.aG];omega,by simp,by rw[AW.aT];simp⟩,by rw[AW.aG];omega,λA hA _=>hA.add _⟩
 ·have zt:0<l.length:=vr.2 h0;refine⟨_,_,LA (b:=b) (o:=0) (c:=c) hk hc hn hl (by omega) (h1 a) i4 (ch hf l) (by omega) iW zt,.inr ⟨by simp,W.next,vJ,by rw[AW.aG,AW.eK];omega,by simp,?_⟩,by rw[AW.aG,AW.eK];omega,λA hA hl=>(hA.kill (by omega)).add _⟩;have:=(W.kill B).aT (.cells (l.flatMap f++f a));rw[AW.eK]at this;rw[this,ge];simp
def pk.row{lo z:Nat}{f:α->List ae}{v:ae}{l:List α}{at_:List ae->Nat->α->Prop}(hf:∀a,(f a).length=z)(h:pk lo W z f v l)(mE:∀a pre post,at_ (pre++(f a++post)) pre.length a):Row W z at_ v l:=by
 rcases h with⟨rfl,rfl⟩|⟨h0,B,i1,i2,rfl,i4⟩
 ·exact⟨none,0,rfl,.inl rfl⟩
 ·refine⟨_,_,rfl,.inr ⟨B,0,_,rfl,i2,bk i4,λi hi=>?_⟩⟩;have e:l.flatMap f=(l.take i).flatMap f++(f l[i]++(l.drop (i+1)).flatMap f):=by rw[<-iD,<-rT hi,<-ge,wK]
  have e2:((l.take i).flatMap f).length=0+i*z:=by rw[ch hf,dF];rw[o8 (by omega),aI]
  rw[e,<-e2];exact mE _ _ _
def acQ{W':AW}{z:Nat}{at_:List ae->Nat->α->Prop}{v:ae}{l:List α}(a8:Le W W')(h:Row W' z at_ v l):∃W2,gc W (v,W')=(v,W2)/\Le W W2/\Le W2 W'/\Row W2 z at_ v l:=by
 cases hp:(bC v&& !isU v)
 ·exact⟨W',wH hp,a8,.refl _,h⟩
 ·refine⟨W,tQ hp a8,.refl _,a8,?_⟩;obtain⟨a,c,rfl,h⟩:=h;rcases h with h|⟨b,o,cs,rfl,_⟩
  ·exact⟨a,c,rfl,.inl h⟩
  ·exact absurd hp (by simp[bC,eI,cG])
def adO{o t:Option (ae×AW)}{z:Nat}{at_:List ae->Nat->α->Prop}{l:List α}(h:Ok t λr=>Le W r.2/\Row r.2 z at_ r.1 l)(Li:∀{r},t=some r->o=some (gc W r)):∃v W2,o=some (v,W2)/\Le W W2/\Row W2 z at_ v l:=by obtain⟨⟨v,W'⟩,h1,h2,h3⟩:=h;obtain⟨W2,k1,k2,_,k3⟩:=acQ h2 h3;exact⟨v,W2,by rw[Li h1,k1],k2,k3⟩
end
end
section
variable [ak]
section
variable {P:aj} {bad:List Nat} {spec:Callee}
def aeD(x:X)(l:Nat)(R:ak.Fr)(nt:Nat)(ps:Array Tmp)(asC bd:bG)(W:AW):ae×AW:=match x with
 |.normal=>(.bool true,W.put l (.loop .ready none R nt ps asC bd))
 |x=>(.bool false,W.put l (.loop .done x.jump R nt ps asC bd))
def Fp{l nt:Nat}{R:ak.Fr}{ps:Array Tmp}{asC bd:bG}{W:AW}{args:List ae}(hl:W.get l=some (.loop .ready none R nt ps asC bd))(hn:args.length=ps.size)
 {R1:ak.Fr}{W1:AW}(h1:gH P (om P bad spec) false nt asC LT (nl ps.toList args R) W nB=some (.normal,R1,W1))(hk:W1.get l=some (.loop .ready none R nt ps asC bd))
 {x2:X}{R2:ak.Fr}{W2:AW}(h2:gH P (om P bad spec) false nt bd LT R1 (W1.put l (.loop .busy none R nt ps asC bd)) nB=some (x2,R2,W2))(HB:W2.get l=some (.loop .busy none R nt ps asC bd)):
 om P bad spec (.func (.yield l) #[] #[]) args W=some (aeD x2 l R nt ps asC bd W2):=by
 refine VV hl (by simpa using hn) ?_;unfold Gn;rw[show(#[]:Array ae).toList++args=args from rfl,h1];simp only[bp,sU,hk,h2,HB];unfold aeD;cases x2<;>rfl
def yF{call:Callee}{i:Nat}{fs cs:Array ae}{obj:eF}{W W2:AW}{v:ae}(h:call (.func (.func i) fs cs) [.func (.yield W.next) #[] #[]] (W.add obj)=some (v,W2))
 {st:LoopState}{R:ak.Fr}{nt:Nat}{ps:Array Tmp}{asC bd:bG}(hg:W2.get W.next=some (.loop st none R nt ps asC bd))(hs:st≠ .busy):jP call (.func (.func i) fs cs) obj W=some (.normal,W2.kill W.next):=by
 unfold jP;simp only[h,hg]
def Dx{call:Callee}{i:Nat}{fs cs:Array ae}{obj:eF}{W W2:AW}{v:ae}(h:call (.func (.func i) fs cs) [.func (.yield W.next) #[] #[]] (W.add obj)=some (v,W2))
 {x:X}{R:ak.Fr}{nt:Nat}{ps:Array Tmp}{asC bd:bG}(hg:W2.get W.next=some (.loop .done x.jump R nt ps asC bd)):jP call (.func (.func i) fs cs) obj W=some (x,W2.kill W.next):=by
 unfold jP;simp only[h,hg];cases x<;>rfl
end
end
end Go.Eng
namespace Go.Eng
open Go Go.RowKit Go.Sort
section
variable [ak]
def jZ(zs:List Int):List Int:=zs.mergeSort λx y=>decide (x<=y)
def uK(zs:List Int):(jZ zs).length=zs.length:=List.length_mergeSort _
def mG(W:AW)(args:List ae)(W':AW):Prop:=∃b c zs,zs≠[]/\zs.length<1099511627776/\args=[.slice (some ⟨b,0,none⟩) zs.length c]/\W.get b=some (.cells (zs.map (Value.int .i64)))/\W'=W.put b (.cells ((jZ zs).map (Value.int .i64)))
def AX:∀{a b:List Int},a.map (Value.int .i64)=b.map (Value.int .i64)->a=b
 |[],[],_=>rfl
 |[],_::_,h=>by simp at h
 |_::_,[],h=>by simp at h
 |x::a,y::b,h=>by simp only[jd,List.cons.injEq,Value.int.injEq,true_and]at h;rw[h.1,AX h.2]
def mG.one{W W1 W2:AW}{args:List ae}(h1:mG W args W1)(h2:mG W args W2):W1=W2:=by obtain⟨b,c,zs,_,_,rfl,g1,rfl⟩:=h1;obtain⟨b2,c2,zs2,_,_,e,g2,rfl⟩:=h2;simp only[List.cons.injEq,Value.slice.injEq,gJ,Addr.mk.injEq,and_true]at e;obtain⟨rfl,_,_⟩:=e;rw[g1]at g2;simp only[gJ,eF.cells.injEq]at g2;rw[AX g2]
def Eb(F:Nat):Callee:=λf args W=>match f with
 |.func (.func g) fs cs=>(match Nat.beq g F&&(fs.isEmpty&&cs.isEmpty)with
  |true=>open Classical in if h:∃W',mG W args W' then some (.tuple #[],Classical.choose h)else none
  |false=>none)
 |_=>none
def WS{F:Nat}{W W':AW}{args:List ae}(h:mG W args W'):Eb F (.func (.func F) #[] #[]) args W=some (.tuple #[],W'):=by unfold Eb;have hx:∃W',mG W args W':=⟨W',h⟩;simp only[pX,Array.isEmpty_empty,uV,dif_pos hx];rw[(vo hx).one h]
def bt.XC{σ:dj}{W:AW}{w:au}(h:bt σ W w.heap)(os:Array Obj):bt σ W (Sort.grow w os).heap/\eW σ W w σ W (Sort.grow w os):=by
 have fd:∀B,B<w.heap.size->(Sort.grow w os).heap[B]? =w.heap[B]? :=λB hB=>heap_grow_old w os hB
 have qD:w.heap.size<=(Sort.grow w os).heap.size:=by unfold Sort.grow;simp
 exact⟨⟨h.free,λb g hg=>⟨(h.pd b g hg).1,fM (h.pd b g hg).2 qD⟩,λb o g hb hg=>(h.obj b o g hb hg).same (fd _ (h.pd b g hg).2),h.pn⟩,
  ⟨.refl _,λ_ _ h=>h,qD,rfl,rfl,rfl,λB hB _=>fd B hB,λ_ _ h k=>⟨h,k⟩,λb g hg _=>.inl hg⟩⟩
def Ws{P:aj}{ng:List Nat}{F:Nat}{fn:fD}{body:bG}(Ki:P.funcs[F]? =some fn)(qR:(fn.name== "runtime.NumGoroutine")=false)(hb:fn.body=some body)
 (agh:∀(blk off cap:Nat) (zs:List Int) (w:au),Holds (Value.int .i64) w blk off zs.toArray->blk<w.heap.size->zs.length<4611686018427387904->
   Calls P F #[.slice (some ⟨blk,off,none⟩) zs.length cap] w λe w'=>e=.returned (.tuple #[])/\∃n os,w'=Sort.grow (putRow (Value.int .i64) (Sort.ahead w n) blk off (jZ zs).toArray) os):cw P ng (Eb F):=by
 intro f args W v W' h σ w f' dw hW hG hf db;unfold Eb at h;split at h;case h_2=>cases h
 rename_i g fs cs;split at h;case h_2=>cases h
 rename_i N8;simp only[bK,eM,xz]at N8;obtain⟨rfl,rfl,rfl⟩:=N8;split at h;case isFalse=>cases h
 rename_i hx;injection h with h;injection h with h1 h2;subst h1;have hs:=vo hx;rw[h2]at hs;clear h2 hx;obtain⟨b,c,zs,fk,eA,rfl,hgb,rfl⟩:=hs;obtain⟨Fa,tW,cP,Eu,Et,pw,rfl⟩:=hf.kB;cases Eu;obtain rfl:tW=#[]:=by have h1:tW.toList.length=0:=Et.1.symm;exact tL.1 (jR.1 h1)
 obtain rfl:cP=#[]:=by have h1:cP.toList.length=0:=pw.1.symm;exact tL.1 (jR.1 h1)
 obtain⟨v',rfl,hv⟩:∃v',dw=[v']/\VR σ (.slice (some ⟨b,0,none⟩) zs.length c) v':=by
  obtain⟨hl,hv⟩:=db;match dw,hl with
  |[v'],_=>exact⟨v',rfl,hv 0 _ _ rfl rfl⟩
 obtain⟨sg,Cu,hg,rfl⟩:∃(sg:tu) (Cu:Nat),σ b=some sg/\v'=.slice (some ⟨sg.B,sg.s,none⟩) zs.length Cu:=by
  have zt:0<zs.length:=vr.2 fk;generalize hl:zs.length=l at hv zt;cases hv with
  |slice a l c c' g h hs hc=>exact⟨g,c',h,rfl⟩
  |dH=>omega
 refine⟨fg Ki qR hb _ w,?_⟩;have e1:(#[]:Array ae)++[Value.slice (some ⟨sg.B,sg.s,none⟩) zs.length Cu].toArray++#[]=#[.slice (some ⟨sg.B,sg.s,none⟩) zs.length Cu]:=by simp
 rw[e1];obtain⟨cc,t,ZI,k1,k0,k2,k3,k4⟩:=hW.obj b _ _ hgb hg;have Uk:sg.s<sg.e:=by rw[gR]at k2;have:=vr.2 fk;omega
 obtain rfl:=k0 Uk;have N3:∀j,(hj:j<zs.length)->cc[sg.s+j]? =some (.af zs[j]):=λj hj=>by obtain⟨u,u1,u2⟩:=k4 j (.af zs[j]) (by rw[jh,cL hj];rfl);cases u2;exact u1
 have hH:Holds (Value.int .i64) w sg.B sg.s zs.toArray:=λj hj=>by
  have hj':j<zs.length:=by simpa using hj
  refine⟨?_,(lO.amm (hW.obj b _ _ hgb hg) (λ_ hx=>by cases hx) Uk rfl)⟩;unfold World.cell?;simp only[k1,N3 j hj',yu];rw[getElem!_pos zs.toArray j hj];simp
 have hbl:=(hW.pd b _ hg).2;refine nK (show CallsIn Fence.wide 0 P g _ w _ from(uI (n:=0)).2 (agh sg.B sg.s Cu zs w hH hbl (by omega))) ?_;rintro e w' ⟨rfl,n,os,rfl⟩;have hsl:(jZ zs).length=zs.length:=uK zs;have adD:∀B,B≠sg.B->(putRow (Value.int .i64) (Sort.ahead w n) sg.B sg.s (jZ zs).toArray).heap[B]? =w.heap[B]? :=λB hB=>by show(w.heap.modify sg.B _)[B]? =_;rw[z7,ay (bL hB)]
 have mE:(putRow (Value.int .i64) (Sort.ahead w n) sg.B sg.s (jZ zs).toArray).heap[sg.B]? =some (.cells (putCells (Value.int .i64) sg.s (jZ zs).toArray cc) t (0,0)):=by show(w.heap.modify sg.B _)[sg.B]? =_;rw[z7,ax rfl,k1];rfl
 have VF:∀i,(putCells (Value.int .i64) sg.s (jZ zs).toArray cc)[i]? =(cc[i]?).map λx=>if sg.s<=i/\i<sg.s+(jZ zs).toArray.size then Value.int .i64 (jZ zs).toArray[i-sg.s]! else x:=λi=>by unfold putCells;rw[Array.getElem?_mapIdx]
 rw[gR]at k2;obtain⟨r1,r2⟩:=hW.write (w':=putRow (Value.int .i64) (Sort.ahead w n) sg.B sg.s (jZ zs).toArray) (cP:=(jZ zs).map (Value.int .i64)) hgb hg (by show(w.heap.modify _ _).size=_;simp) rfl rfl rfl adD k1 mE (by unfold putCells;simp)
  (λi hi=>by
    rw[VF];have:¬(sg.s<=i/\i<sg.s+(jZ zs).toArray.size):=by rw[sy,hsl];omega
    simp only[this,bR];cases cc[i]? <;>rfl)
  (by rw[gR,hsl];exact k2)
  (λi v hv=>by
    rw[jh]at hv;have hi:i<(jZ zs).length:=by
     rcases vj i (jZ zs).length with h|h
     ·exact h
     ·rw[rK h]at hv;cases hv
    rw[cL hi]at hv;injection hv with hv;subst hv;refine⟨_,?_,.int _ _⟩;rw[VF,N3 i (by omega)];have:sg.s<=sg.s+i/\sg.s+i<sg.s+(jZ zs).toArray.size:=by rw[sy];omega
    simp only[this,nJ,bh,cS,xJ];rw[getElem!_pos (jZ zs).toArray i (by simpa using hi)];simp)
 obtain⟨q1,q2⟩:=r1.XC os;exact⟨_,rfl,σ,.tuple' (.nil),q1,r2.trans q2⟩
end
end Go.Eng
namespace Go.Eng
open Go
section
variable [ak]
section
variable {P:aj} {W:AW} {α:Type}
def jE(n:Int):List ae:=[.af n]
def rC(n:Int):(jE n).length=1:=rfl
def xG(n:Int):(jE n).all one=true:=rfl
def Xk(n:Int)(pre post:List ae):xv .i64 (pre++(jE n++post)) pre.length n:=by unfold xv;rw[gb (by omega)];simp[jE]
def DK:∀l:List Int,l.flatMap jE=l.map (Value.int .i64)
 |[]=>rfl
 |a::l=>by rw[iD,jd,DK l];rfl
def pk.ints{lo:Nat}{v:ae}{l:List Int}(h:pk lo W 1 jE v l):kr W v l:=h.row rC Xk
def pk.sort{lo:Nat}{v:ae}{l:List Int}(h:pk lo W 1 jE v l)(h0:l≠[])(hl:l.length<1099511627776):∃W',mG W [v] W'/\pk lo W' 1 jE v (jZ l)/\W'.next=W.next/\∀A,Le A W->A.next<=lo->Le A W':=by
 rcases h with⟨rfl,_⟩|⟨_,B,h1,h2,rfl,h4⟩
 ·exact absurd rfl h0
 ·refine⟨_,⟨B,_,l,h0,hl,rfl,by rw[h4,DK],rfl⟩,.inr ⟨?_,B,h1,by rw[AW.cT];exact h2,by rw[uK],by rw[AW.bz,DK]⟩,AW.cT _ _ _,λA hA vJ=>hA.put (by omega) _⟩;intro e;have:=uK l;rw[e]at this;exact h0 (jR.1 this.symm)
def Yt{W':AW}{z:Nat}{at_:List ae->Nat->α->Prop}{v:ae}{k:aV}{e:Int}{l:List α}(a8:Le W W')(h:Row W' z at_ v l):∃W2,gc W (.tuple #[v,.int k e],W')=(.tuple #[v,.int k e],W2)/\Le W W2/\Le W2 W'/\Row W2 z at_ v l:=by
 obtain⟨a,c,rfl,h⟩:=h;cases a with
 |none=>
  refine⟨W,tQ rfl a8,.refl _,a8,none,c,rfl,?_⟩;rcases h with h|⟨b,o,cs,h,_⟩
  ·exact .inl h
  ·cases h
 |some a=>exact⟨W',wH rfl,a8,.refl _,some a,c,rfl,h⟩
def pZ{o t:Option (ae×AW)}{z:Nat}{at_:List ae->Nat->α->Prop}{l:List α}{k:aV}{e:Int}(h:Ok t λr=>∃v,r.1=.tuple #[v,.int k e]/\Le W r.2/\Row r.2 z at_ v l)(Li:∀{r},t=some r->o=some (gc W r)):
 ∃v W2,o=some (.tuple #[v,.int k e],W2)/\Le W W2/\Row W2 z at_ v l:=by
 obtain⟨⟨u,W'⟩,h1,v,h2,h3,h4⟩:=h;simp only at h2 h3 h4;subst h2;obtain⟨W2,k1,k2,_,k3⟩:=Yt (k:=k) (e:=e) h3 h4;exact⟨v,W2,by rw[Li h1,k1],k2,k3⟩
def Row.nil{z:Nat}{at_:List ae->Nat->α->Prop}:Row W z at_ (.slice none 0 0) ([]:List α):=⟨none,0,rfl,.inl rfl⟩
def Tu{ts:Array ai}{z bytes:Nat}(hk:iR P ts z bytes=true){a:Option aW}{l c:Nat}(h:l<=c)(hb:l<1099511627776)(iW:(2*l+192)*bytes<=281474976710656):
 aN P W ts (.slice a l c) (.slice none 0 0)=some (.slice a l c,W):=by
 obtain⟨t,e,zv,k1,k2,k3,k4,k5,k6⟩:=lI hk;unfold aN;simp only[k1,k2,k3,k4,bh,cC,ax (aR k5 (aR k6 (aR hb iW))),ax h]
def NP{ts:Array ai}{z bytes:Nat}(hk:iR P ts z bytes=true){b o n c:Nat}{cs new:List ae}(hc:aL W b=some cs)(hn:new=(cs.drop o).take (n*z))(hl:new.length=n*z)(h0:0<n)(h1:new.all one=true)
 {B m:Nat}{pg:List ae}(ho:aL W B=some pg)(Sl:pg.length=m*z)(hb:m+n<1099511627776)(iW:(2*(m+n)+192)*bytes<=281474976710656)(hm:0<m):
 aN P W ts (.slice (some ⟨B,0,none⟩) m m) (.slice (some ⟨b,o,none⟩) n c)=some (.slice (some ⟨W.next,0,none⟩) (m+n) (gU+z),W.add (.cells (pg++new))):=by
 obtain⟨t,e,zv,k1,k2,k3,k4,k5,k6⟩:=lI hk;have hr:lu W b o (n*z)=some new:=by rw[iu,hc];simp only;rw[ax (by rw[<-hn];exact hl),hn]
 have ZX:cy W (.slice (some ⟨b,o,none⟩) n c) (n*z)=some new:=by unfold cy;simp only;rw[ay (by have:=my h0 k5;omega),b8];exact hr
 have pM:lu W B 0 (m*z)=some pg:=by rw[iu,ho];simp only[kN];rw[mX (by omega),ax Sl]
 have WU:cy W (.slice (some ⟨B,0,none⟩) m m) (m*z)=some pg:=by unfold cy;simp only;rw[ay (by have:=my hm k5;omega),b8];exact pM
 have hB:m<gU:=by unfold gU;omega
 have Pe:¬m=gU+z:=by unfold gU;omega
 unfold aN;simp only[k1,k2,k3,k4,bh,ax (aR k5 (aR k6 (aR hb iW))),ay (show¬n=0 by omega),ZX,WU,h1,ay Pe,ax hB,ay (show¬m+n<=m by omega),AW.dG]
def xw(l:List Int)(c:Nat)(W:AW):kr (W.add (.cells (l.map (Value.int .i64)))) (.slice (some ⟨W.next,0,none⟩) l.length c) l:=
 ⟨_,_,rfl,.inr ⟨W.next,0,_,rfl,by rw[AW.aG];omega,bE,λi hi=>by unfold xv;rw[aI,ko,jh,cL hi];rfl⟩⟩
end
end
section
variable [ak]
def qm(l:List (Int×ae×Nat)):List MapEntry:=l.map λp=>{key:=.af p.1,val:=p.2.1,born:=p.2.2}
def F1:List (Int×ae×Nat)->Int->Option ae
 |[],_=>none
 |p::l,k=>if k=p.1 then some p.2.1 else F1 l k
def vG:List (Int×ae×Nat)->Int->Nat->Option (Nat×ae)
 |[],_,_=>none
 |p::l,k,i=>if k=p.1 then some (i,p.2.1)else vG l k (i+1)
def HG(l:List (Int×ae×Nat))(k:Int):∀i,Instr.findNow (.int .i64) (.af k) (qm l) i=some (vG l k i):=by
 induction l with
 |nil=>intro i;rfl
 |cons p l ih=>
  intro i;show(match Instr.sameNow (.int .i64) (.af k) (.af p.1)with|some true=>some (some (i,p.2.1))|some false=>Instr.findNow (.int .i64) (.af k) (qm l) (i+1)|none=>none)=_;unfold vG;by_cases h:k=p.1
  ·have:Instr.sameNow (.int .i64) (.af k) (.af p.1)=some true:=by simp[Instr.sameNow,h]
   rw[this,ax h]
  ·have:Instr.sameNow (.int .i64) (.af k) (.af p.1)=some false:=by simp[Instr.sameNow,h]
   rw[this,ay h];exact ih (i+1)
def BD(l:List (Int×ae×Nat))(k:Int):∀i,F1 l k=(vG l k i).map (·.2):=by
 induction l with
 |nil=>intro i;rfl
 |cons p l ih=>
  intro i;unfold F1 vG;by_cases h:k=p.1
  ·rw[ax h,ax h];rfl
  ·rw[ay h,ay h];exact ih (i+1)
def ly(l:List (Int×ae×Nat)):List Int:=l.map (·.1)
def JF{l:List (Int×ae×Nat)}{k:Int}(h:k∉ly l):F1 l k=none:=by
 induction l with
 |nil=>rfl
 |cons p l ih=>unfold ly at h;rw[jd,dz,not_or]at h;unfold F1;rw[ay h.1];exact ih h.2
def zl{k:Int}{v:ae}:∀{l:List (Int×ae×Nat)} {i j:Nat},(ly l).Nodup->vG l k i=some (j,v)->i<=j/\(∃b,l[j-i]? =some (k,v,b)/\∀v' k',F1 (l.set (j-i) (k,v',b)) k'=if k'=k then some v' else F1 l k')/\
 (∀k',F1 (l.eraseIdx (j-i)) k'=if k'=k then none else F1 l k')/\(ly (l.eraseIdx (j-i))).Nodup/\(l.eraseIdx (j-i)).length+1=l.length/\∀v' b,ly (l.set (j-i) (k,v',b))=ly l
 |[],i,j,_,h=>by cases h
 |p::l,i,j,hn,h=>by
  unfold vG at h;have Oz:p.1∉ly l/\(ly l).Nodup:=List.nodup_cons.1 hn;by_cases hk:k=p.1
  ·rw[ax hk]at h;injection h with h;injection h with h1 h2;subst h1;rw[pT];refine⟨aP _,⟨p.2.2,by rw[hk,<-h2];rfl,λv' k'=>?_⟩,λk'=>?_,Oz.2,rfl,λv' b=>by rw[GO];simp[ly,hk]⟩
   ·rw[GO];unfold F1;rw[<-hk];by_cases HC:k'=k
    ·rw[ax HC,ax HC]
    ·rw[ay HC,ay HC,ay HC]
   ·show F1 l k'=_;by_cases HC:k'=k
    ·rw[ax HC,HC,hk];exact JF Oz.1
    ·rw[ay HC];conv=>rhs;unfold F1
     rw[ay (λe=>HC (e.trans hk.symm))]
  ·rw[ay hk]at h;obtain⟨h1,⟨b,h2,h3⟩,h4,h5,h6,h7⟩:=zl Oz.2 h;have e:j-i=(j-(i+1))+1:=by omega
   rw[e];refine⟨by omega,⟨b,by rw[DA];exact h2,λv' k'=>?_⟩,λk'=>?_,?_,?_,λv' b=>?_⟩
   ·rw[BE];unfold F1;by_cases hp:k'=p.1
    ·have:¬k'=k:=λx=>hk (x.symm.trans hp)
     rw[ax hp,ay this,ax hp]
    ·rw[ay hp,h3,ay hp]
   ·rw[xj];unfold F1;by_cases hp:k'=p.1
    ·have:¬k'=k:=λx=>hk (x.symm.trans hp)
     rw[ax hp,ay this,ax hp]
    ·rw[ay hp,h4,ay hp]
   ·rw[xj];refine List.nodup_cons.2 ⟨λhm=>Oz.1 ?_,h5⟩;unfold ly at hm|-;obtain⟨x,hx,Ym⟩:=kq.1 hm;exact kq.2 ⟨x,List.mem_of_mem_eraseIdx hx,Ym⟩
   ·rw[xj,dE,dE,h6]
   ·rw[BE];show p.1::ly _=p.1::ly l;rw[h7]
def ze{k:Int}:∀{l:List (Int×ae×Nat)} {i:Nat},vG l k i=none->k∉ly l/\∀v b k',F1 (l++[(k,v,b)]) k'=if k'=k then some v else F1 l k'
 |[],i,_=>⟨by simp[ly],λv b k'=>by simp[F1]⟩
 |p::l,i,h=>by
  unfold vG at h;by_cases hk:k=p.1
  ·rw[ax hk]at h;cases h
  ·rw[ay hk]at h;obtain⟨h1,h2⟩:=ze h;refine⟨?_,λv b k'=>?_⟩
   ·unfold ly;rw[jd,dz,not_or];exact⟨hk,h1⟩
   ·rw[qj];unfold F1;by_cases hp:k'=p.1
    ·have:¬k'=k:=λx=>hk (x.symm.trans hp)
     rw[ax hp,ay this,ax hp]
    ·rw[ay hp,h2,ay hp]
def IB{α β:Type}(f:α->β):∀(l:List α) (i:Nat),(l.map f).eraseIdx i=(l.eraseIdx i).map f
 |[],_=>by simp
 |a::l,0=>rfl
 |a::l,i+1=>by rw[jd,xj,xj,jd,IB f l i]
def qP(W:AW)(r:Nat)(m:Int->Option ae)(n:Nat):Prop:=∃l c,W.get r=some (.map (qm l) c)/\(ly l).Nodup/\l.length=n/\∀k,F1 l k=m k
section
variable {P:aj} {W:AW} {r:Nat} {m:Int->Option ae} {n:Nat} {t kt e:ai}
def MQ(l:List (Int×ae×Nat)):gK (qm l)=true:=by unfold gK qm;rw[List.all_map,cM];intro p _;rfl
def rm(hk:P.underlying kt=some (.int .i64))(empty:Bool)(k:Int):tA P empty kt (.af k)=true:=by
 unfold tA;have:cI P (Instr.checkKey empty 10000 kt (.af k))=some ():=by unfold Instr.checkKey;simp only[fq,fF hk,bp];rfl
 rw[this];rfl
def nY(hk:P.underlying kt=some (.int .i64))(l:List (Int×ae×Nat))(k:Int):wD P kt (.af k) (qm l)=some (vG l k 0):=by unfold wD T8;have hp:bC (.af k)=true/\gK (qm l)=true:=⟨rfl,MQ l⟩;simp only[ax hp,hk,HG]
def TR(h:qP W r m n)(ht:P.underlying t=some (.map kt e))(hk:P.underlying kt=some (.int .i64)){z:ae}(hz:kS P e=some z)(k:Int):iG P t (.map (some r)) (.af k) false W=some ((m k).getD z,W):=by
 obtain⟨l,c,hg,hn,hl,hm⟩:=h;unfold iG ms;simp only[ht,hg,rm hk,bh,nY hk];rw[<-hm k,BD l k 0];unfold wb;cases vG l k 0 with
 |none=>simp only[hz];rfl
 |some q=>rfl
def Rt(h:qP W r m n)(ht:P.underlying t=some (.map kt e))(hk:P.underlying kt=some (.int .i64)){z:ae}(hz:kS P e=some z)(k:Int):iG P t (.map (some r)) (.af k) true W=some (.tuple #[(m k).getD z,.bool (m k).isSome],W):=by
 obtain⟨l,c,hg,hn,hl,hm⟩:=h;unfold iG ms;simp only[ht,hg,rm hk,bh,nY hk];rw[<-hm k,BD l k 0];unfold wb;cases vG l k 0 with
 |none=>simp only[hz];rfl
 |some q=>rfl
def Kr(h:qP W r m n)(ht:P.underlying t=some (.map kt e))(hk:P.underlying kt=some (.int .i64))(k:Int)(v:ae):∃es c,iJ P t (.map (some r)) (.af k) v W=some (ag,W.put r (.map es c))/\qP (W.put r (.map es c)) r (λx=>if x=k then some v else m x) (if(m k).isSome then n else n+1):=by
 obtain⟨l,c,hg,hn,hl,hm⟩:=h;have Ya:m k=(vG l k 0).map (·.2):=by rw[<-hm k,BD l k 0]
 cases hf:vG l k 0 with
 |none=>
  obtain⟨h1,h2⟩:=ze hf;rw[hf]at Ya;refine⟨qm (l++[(k,v,c)]),c+1,?_,l++[(k,v,c)],c+1,AW.bz _ _ _,?_,?_,λx=>by rw[h2,hm]⟩
  ·unfold iJ jI;simp only[ht,hg,rm hk,bh,nY hk,hf,cS];unfold qm;rw[mU];rfl
  ·unfold ly at h1 hn|-;rw[mU,List.nodup_append];refine⟨hn,by simp,λa ha b hb XD=>?_⟩;simp only[jd,mO,m9]at hb;subst hb;subst XD;exact h1 ha
  ·rw[Ya];simp[hl]
 |some q=>
  obtain⟨j,v0⟩:=q;obtain⟨_,⟨b,h2,h3⟩,-,-,-,h7⟩:=zl hn hf;rw[Nat.sub_zero]at h2 h3 h7;rw[hf]at Ya;refine⟨qm (l.set j (k,v,b)),c,?_,l.set j (k,v,b),c,AW.bz _ _ _,by rw[h7];exact hn,by rw[Ya];simp[hl],λx=>by rw[h3,hm]⟩;have he:(qm l)[j]? =some {key:=.af k,val:=v0,born:=b}:=by unfold qm;rw[jh,h2];rfl
  have hs:Instr.sameBits 10000 (.af k) (.af k)=true:=by unfold Instr.sameBits;simp
  have oa:bC (.af k)=true:=rfl;unfold iJ jI;simp only[ht,hg,rm hk,bh,nY hk,hf,cS,he,hs,oa,nJ];unfold qm;rw[List.map_set]
def I2(h:qP W r m n)(ht:P.underlying t=some (.map kt e))(hk:P.underlying kt=some (.int .i64))(ts:List ai)(k:Int):∃es c,nD P W (t::ts).toArray (.map (some r)) (.af k)=some (W.put r (.map es c))/\qP (W.put r (.map es c)) r (λx=>if x=k then none else m x) (if(m k).isSome then n-1 else n):=by
 obtain⟨l,c,hg,hn,hl,hm⟩:=h;have Ya:m k=(vG l k 0).map (·.2):=by rw[<-hm k,BD l k 0]
 cases hf:vG l k 0 with
 |none=>
  obtain⟨h1,-⟩:=ze hf;rw[hf]at Ya;refine⟨qm l,c,?_,l,c,AW.bz _ _ _,hn,by rw[Ya];simp[hl],λx=>?_⟩
  ·unfold nD;simp only[ht,hg,rm hk,bh,nY hk,hf]
  ·show F1 l x=if x=k then none else m x
   by_cases hx:x=k
   ·rw[ax hx,hx,JF h1]
   ·rw[ay hx,hm]
 |some q=>obtain⟨j,v0⟩:=q;obtain⟨_,-,h4,h5,h6,-⟩:=zl hn hf;rw[Nat.sub_zero]at h4 h5 h6;rw[hf]at Ya;refine⟨qm (l.eraseIdx j),c,?_,l.eraseIdx j,c,AW.bz _ _ _,h5,by rw[Ya];simp;omega,λx=>by rw[h4,hm]⟩;unfold nD;simp only[ht,hg,rm hk,bh,nY hk,hf];unfold qm;rw[IB]
def Ks:qP (W.add (.map [] 0)) W.next (λ_=>none) 0:=⟨[],0,AW.aT _ _,by simp[ly],rfl,λk=>rfl⟩
def qP.dq{W':AW}(h:qP W r m n)(hg:W'.get r=W.get r):qP W' r m n:=by obtain⟨l,c,h1,h2⟩:=h;exact⟨l,c,hg.trans h1,h2⟩
end
end
end Go.Eng
namespace Go.Proofs.YtekljimefjclgaaGreatDoor
open Go Go.Eng
def Nd:List Int:=[0,1,7,27,7,7,99,67,7,64,11,11,128]
def rz:List ae:=Nd.map (Value.int .i64)
def upF(n:Nat):Nat->List Nat:=Nat.rec (motive:=λ_=>Nat->List Nat) (λ_=>[]) (λ_ ih s=>s::ih (s+1)) n
def alB(l:List (Nat×Nat)):List Nat:=List.rec (motive:=λ_=>List Nat) [] (λp _ ih=>List.rec (motive:=λ_=>List Nat) ih (λa _ r=>a::r) (upF p.2 p.1)) l
def lkF(i:Nat)(l:List (Nat×List Nat)):List Nat:=List.rec (motive:=λ_=>List Nat) [] (λp _ ih=>Bool.rec (motive:=λ_=>List Nat) ih p.2 (Nat.beq p.1 i)) l
def zF(x:List (Nat×List Nat))(o:List Nat):List (Nat×List Nat):=List.rec (motive:=λ_=>List (Nat×List Nat)) [] (λi _ r=>(i,lkF i x)::r) o
abbrev TB:=T (List (Nat×List Nat))
def wl(k n:Nat)(l:List (Nat×Nat))(x:List (Nat×List Nat))(t:TB):TB:=T.set (some (zF x (List.rec (motive:=λ_=>List Nat) (upF n 0) (λ_ _ _=>alB l) l))) (path k) t
def tab:TB:=wl 557174 0 [(0,2),(3,1),(2,1),(4,4)] [(2,[3])]<|
 wl 557180 0 [(0,2),(3,1),(2,1),(4,4)] [(2,[3])]<|
 wl 577608 0 [(0,2),(3,2),(7,3),(2,1),(5,2),(10,3)] [(2,[9,4]),(5,[9])]<|
 wl 1106137 14 [] [(10,[7])]<|
 wl 1159430 0 [(0,20),(24,1),(20,4),(25,2)] []<|
 wl 1609972 9 [] [(7,[4])]<|
 wl 1700185 31 [] [(24,[16,13,10,4]),(25,[4])]<|
 wl 2130136 0 [(0,3),(4,2),(3,1),(6,2)] []<|
 wl 2142405 0 [(0,5),(6,2),(5,1),(8,3)] [(5,[7,6])]<|
 wl 2150610 0 [(0,6),(10,1),(6,4),(11,2)] []<|
 wl 2674842 13 [] [(9,[1])]<|
 wl 3162136 4 [] [(2,[1])]<|
 wl 3191050 0 [(0,2),(3,4),(2,1),(7,4)] [(2,[4])]<|
 wl 3195177 0 [(0,2),(3,5),(2,1),(8,4)] [(2,[5])]<|
 wl 3203465 14 [] [(12,[9,6])]<|
 wl 3207553 0 [(0,8),(12,1),(8,4),(13,2)] []<|
 wl 3699014 0 [(0,1),(2,2),(1,1),(4,3)] [(1,[2])]<|
 wl 4227420 0 [(1,2),(4,1),(6,1),(0,1),(3,1),(5,1),(7,1)] [(0,[2])]<|
 wl 4805028 0 [(0,11),(16,2),(11,5),(18,3)] []<|
 wl 5263427 5 [] [(2,[1])]<|
 wl 5292226 12 [] [(7,[5,3]),(9,[5])]<|
 wl 5800390 8 [] [(5,[4])]<|
 wl 6311989 5 [] [(2,[1])]<|
 wl 6357288 16 [] [(9,[7,5,3]),(11,[7,5]),(13,[7])]<|
 wl 6357448 0 [(0,3),(4,9),(3,1),(13,3)] [(3,[9,7,5])]<|
 wl 7405976 16 [] [(9,[7,5,3]),(11,[7,5]),(13,[7])]<|
 wl 7463625 30 [] [(24,[4])]<|
 wl 8438266 12 [] [(7,[5,3]),(9,[5])]<|
 wl 8491684 25 [] [(19,[4,0])]<|
 wl 11059842 12 [] [(7,[5,3]),(9,[5])]<|
 wl 17372640 17 [] [(13,[10,7,5])]<|.lf
def kT:List (Nat×List ae):=[(0,rz)]
end Go.Proofs.YtekljimefjclgaaGreatDoor
namespace Go.Eng
open Go
section
variable [ak]
section
variable {P:aj} {W:AW}
def Mb{t:ai}{z:Nat}(hz:wz P t=some z)(h0:0<z){b o l h:Nat}{k:aV}(h1:h<=l):
 fh P t (.slice (some ⟨b,o,none⟩) l (gU+z)) none (some (.int k (h:Int))) none W=some (.slice (some ⟨b,o,none⟩) h (gU+z),W):=by
 obtain⟨e,he,hz⟩:=wg hz;have h2:((⟨b,o,none⟩:aW).add (0*z))=⟨b,o,none⟩:=by rw[dV];simp
 unfold fh mS;simp only[he,hz,gu,lD,Nat.zero_le,bh,true_and,ax h0,ax h1,Nat.sub_zero,h2]
end
end
section
variable [ak]
def adH(W:AW)(cs:List ae)(b:Nat):aL (W.add (.cells cs)) b=if b=W.next then some cs else aL W b:=by
 by_cases h:b=W.next
 ·subst h;rw[ax rfl];exact bE
 ·rw[ay h];unfold aL;rw[W.br _ (λe=>h e.symm)]
def aby(W:AW)(c:Nat)(cs:List ae)(b:Nat):aL (W.put c (.cells cs)) b=if b=c then some cs else aL W b:=by
 by_cases h:b=c
 ·subst h;rw[ax rfl];exact pU _
 ·rw[ay h];exact t6 _ (λe=>h e.symm)
def abT(W:AW)(cs:List ae)(b:Nat):aH (W.add (.cells cs)) b=if b=W.next then some cs else aH W b:=by
 by_cases h:b=W.next
 ·subst h;rw[ax rfl];exact cg
 ·rw[ay h];unfold aH;rw[W.br _ (λe=>h e.symm)]
def abN(W:AW)(c:Nat)(cs:List ae)(b:Nat):aH (W.put c (.cells cs)) b=if b=c then some cs else aH W b:=by
 by_cases h:b=c
 ·subst h;rw[ax rfl];exact bF _
 ·rw[ay h];exact bs _ (λe=>h e.symm)
def Qa(W:AW):Le W W=True:=eq_true (Le.refl W)
def UT{W W':AW}(h:Le W W')(o:eF):Le W (W'.add o)=True:=eq_true (h.add o)
def Vn{W W':AW}(h:Le W W'){b:Nat}(hb:W.next<=b)(o:eF):Le W (W'.put b o)=True:=eq_true (h.put hb o)
def Y2(a:Option aW):one (.pointer a)=true:=aJ rfl rfl
def YY{W:AW}{b o:Nat}{x:Option aW}:bP 1 (.pointer (some ⟨b,o,none⟩)) (.pointer x) W=(aH W b).bind λcs=>if o<cs.length then some (ag,W.put b (.cells (cs.set o (.pointer x))))else none:=gx rfl rfl
def Ry(cs vs:List ae):gI cs 0 vs=vs++cs.drop vs.length:=by unfold gI;rw[px,kg,aI]
def aim(b:Bool):aU ag b=false:=aJ (by unfold aU ag;rfl) rfl
def HX:=aR @adH (aR @aby (aR @abT (aR @abN (aR @Qa (aR @UT (aR @Vn (aR @Y2 (aR @YY (aR @AW.aG (aR @AW.cT (aR @nh (aR @Nat.le_add_right (aR @aP (aR @Nat.add_eq_left (aR @Nat.left_eq_add (aR @Ry (aR @gD (aR @bR.{1} (aR @Nat.one_ne_zero (aR @kP (aR @List.take_nil.{0} (aR @true_and (aR @and_true (aR @aim @am))))))))))))))))))))))))
end
section
variable [ak]
section
variable {P:aj} {W:AW} {α:Type}
def PM{ts:Array ai}{z bytes:Nat}(hk:iR P ts z bytes=true){b o n c:Nat}{cs new:List ae}(hc:aL W b=some cs)(hn:new=(cs.drop o).take (n*z))(hl:new.length=n*z)(h0:0<n)(h1:new.all Eng.one=true)
 {a:aW}(hb:n<1099511627776)(iW:(2*n+192)*bytes<=281474976710656):
 aN P W ts (.slice (some a) 0 0) (.slice (some ⟨b,o,none⟩) n c)=some (.slice (some ⟨W.next,0,none⟩) n (gU+z),W.add (.cells new)):=by
 obtain⟨t,e,zv,k1,k2,k3,k4,k5,k6⟩:=lI hk;have hr:lu W b o (n*z)=some new:=by rw[iu,hc];simp only;rw[ax (by rw[<-hn];exact hl),hn]
 have ZX:cy W (.slice (some ⟨b,o,none⟩) n c) (n*z)=some new:=by unfold cy;simp only;rw[ay (by have:=my h0 k5;omega),b8];exact hr
 have WU:cy W (.slice (some a) 0 0) (0*z)=some []:=by unfold cy;simp
 have hB:0<gU:=by unfold gU;omega
 have Pe:¬0=gU+z:=by unfold gU;omega
 unfold aN;simp only[k1,k2,k3,k4,bh,aI,ax (aR k5 (aR k6 (aR hb iW))),ay (show¬n=0 by omega),ZX,WU,h1,ay Pe,ax hB,ay (show¬n<=0 by omega),AW.dG,kg]
def zh{ts:Array ai}{z bytes:Nat}(hk:iR P ts z bytes=true){a a2:Option aW}{l c c2:Nat}(h:l<=c)(hb:l<1099511627776)(iW:(2*l+192)*bytes<=281474976710656):
 aN P W ts (.slice a l c) (.slice a2 0 c2)=some (.slice a l c,W):=by
 obtain⟨t,e,zv,k1,k2,k3,k4,k5,k6⟩:=lI hk;unfold aN;simp only[k1,k2,k3,k4,bh,cC,ax (aR k5 (aR k6 (aR hb iW))),ax h]
def C5{f:α->List ae}(h1:∀a,(f a).all one=true):∀l:List α,(l.flatMap f).all one=true
 |[]=>rfl
 |a::l=>by rw[iD,List.all_append,h1 a,C5 h1 l];rfl
def EL(lo:Nat)(W:AW)(z:Nat)(f:α->List ae)(v:ae)(l:List α):Prop:=
 (l=[]/\(v=.slice none 0 0\/∃B,v=.slice (some ⟨B,0,none⟩) 0 0))\/(l≠[]/\∃B c,lo<=B/\B<W.next/\v=.slice (some ⟨B,0,none⟩) l.length c/\(c=gU+z\/c=l.length)/\W.get B=some (.cells (l.flatMap f)))
def Rd(W:AW)(z:Nat)(f:α->List ae)(v:ae)(l:List α):Prop:=
 ∃a c,v=.slice a l.length c/\(l=[]\/∃b o cs,a=some ⟨b,o,none⟩/\b<W.next/\aL W b=some cs/\(cs.drop o).take (l.length*z)=l.flatMap f)
def EL.nil(lo:Nat)(W:AW)(z:Nat)(f:α->List ae):EL lo W z f (.slice none 0 0) []:=.inl ⟨rfl,.inl rfl⟩
def EL.Uc(lo:Nat)(W:AW)(z:Nat)(f:α->List ae)(B:Nat):EL lo W z f (.slice (some ⟨B,0,none⟩) 0 0) []:=.inl ⟨rfl,.inr ⟨B,rfl⟩⟩
def EL.dq{lo z:Nat}{f:α->List ae}{v:ae}{l:List α}{W':AW}(h:EL lo W z f v l)(hn:W.next<=W'.next)(hg:∀b,lo<=b->b<W.next->W'.get b=W.get b):EL lo W' z f v l:=by
 rcases h with h|⟨h0,B,c,h1,h2,h3,hc,h4⟩
 ·exact .inl h
 ·exact .inr ⟨h0,B,c,h1,by omega,h3,hc,by rw[hg B h1 h2];exact h4⟩
def EL.mono{lo z:Nat}{f:α->List ae}{v:ae}{l:List α}{W':AW}(h:EL lo W z f v l)(a8:Le W W'):EL lo W' z f v l:=h.dq a8.next λb _ hb=>a8.get b hb
def EL.low{lo Zg z:Nat}{f:α->List ae}{v:ae}{l:List α}(h:EL lo W z f v l)(hl:Zg<=lo):EL Zg W z f v l:=by
 rcases h with h|⟨h0,B,c,h1,h⟩
 ·exact .inl h
 ·exact .inr ⟨h0,B,c,by omega,h⟩
def pk.el{lo z:Nat}{f:α->List ae}{v:ae}{l:List α}(h:pk lo W z f v l):EL lo W z f v l:=by
 rcases h with⟨rfl,rfl⟩|⟨h0,B,h1,h2,h3,h4⟩
 ·exact .inl ⟨rfl,.inl rfl⟩
 ·exact .inr ⟨h0,B,_,h1,h2,h3,.inl rfl,h4⟩
def EL.slice{lo z:Nat}{f:α->List ae}{v:ae}{l:List α}(h:EL lo W z f v l):∃a c,v=.slice a l.length c:=by rcases h with⟨rfl,rfl|⟨B,rfl⟩⟩|⟨_,B,c,_,_,rfl,_⟩<;>exact⟨_,_,rfl⟩
def EL.row{lo z:Nat}{f:α->List ae}{v:ae}{l:List α}{at_:List ae->Nat->α->Prop}(hf:∀a,(f a).length=z)(h:EL lo W z f v l)(mE:∀a pre post,at_ (pre++(f a++post)) pre.length a):Row W z at_ v l:=by
 rcases h with⟨rfl,rfl|⟨B,rfl⟩⟩|⟨h0,B,c,i1,i2,rfl,hc,i4⟩
 ·exact⟨none,0,rfl,.inl rfl⟩
 ·exact⟨_,0,rfl,.inl rfl⟩
 ·refine⟨_,_,rfl,.inr ⟨B,0,_,rfl,i2,bk i4,λi hi=>?_⟩⟩;have e:l.flatMap f=(l.take i).flatMap f++(f l[i]++(l.drop (i+1)).flatMap f):=by rw[<-iD,<-rT hi,<-ge,wK]
  have e2:((l.take i).flatMap f).length=0+i*z:=by rw[ch hf,dF];rw[o8 (by omega),aI]
  rw[e,<-e2];exact mE _ _ _
def EL.rd{lo z:Nat}{f:α->List ae}{v:ae}{l:List α}(hf:∀a,(f a).length=z)(h:EL lo W z f v l):Rd W z f v l:=by
 rcases h with⟨rfl,rfl|⟨B,rfl⟩⟩|⟨h0,B,c,i1,i2,rfl,hc,i4⟩
 ·exact⟨none,0,rfl,.inl rfl⟩
 ·exact⟨_,0,rfl,.inl rfl⟩
 ·exact⟨_,_,rfl,.inr ⟨B,0,_,rfl,i2,bk i4,by rw[kN,<-ch hf l,dd]⟩⟩
def Rd.dq{z:Nat}{f:α->List ae}{v:ae}{l:List α}{W':AW}(h:Rd W z f v l)(a8:Le W W'):Rd W' z f v l:=by
 obtain⟨a,c,rfl,h⟩:=h;refine⟨a,c,rfl,?_⟩;rcases h with h|⟨b,o,cs,h1,h2,h3,h4⟩
 ·exact .inl h
 ·exact .inr ⟨b,o,cs,h1,fM h2 a8.next,by unfold aL at h3|-;rw[a8.get b h2];exact h3,h4⟩
section
variable {t:ai} {z lo:Nat} {f:α->List ae} {v:ae} {l:List α} {kk:aV} {k:Nat}
def PV(hf:∀a,(f a).length=z)(l:List α)(k:Nat):(l.flatMap f).take (k*z)=(l.take k).flatMap f:=by
 rcases vj l.length k with h|h
 ·rw[mX (by rw[ch hf];exact rJ z (by omega)),mX (by omega)]
 ·have e:l.flatMap f=(l.take k).flatMap f++(l.drop k).flatMap f:=by rw[<-ge,wK]
  have e2:((l.take k).flatMap f).length=k*z:=by rw[ch hf,dF,o8 h]
  rw[e,<-e2,uH]
def Pt(hf:∀a,(f a).length=z)(l:List α)(k:Nat):(l.flatMap f).drop (k*z)=(l.drop k).flatMap f:=by
 rcases vj l.length k with h|h
 ·rw[Ca (by rw[ch hf];exact rJ z (by omega)),Ca (by omega)];rfl
 ·have e:l.flatMap f=(l.take k).flatMap f++(l.drop k).flatMap f:=by rw[<-ge,wK]
  have e2:((l.take k).flatMap f).length=k*z:=by rw[ch hf,dF,o8 h]
  rw[e,<-e2,xS]
def EL.app{ts:Array ai}{bytes:Nat}{v2:ae}{l2:List α}(hk:iR P ts z bytes=true)(hf:∀a,(f a).length=z)(h1:∀a,(f a).all one=true)
 (h:EL lo W z f v l)(h2:Rd W z f v2 l2)(hb:l.length+l2.length<1099511627776)(iW:(2*(l.length+l2.length)+192)*bytes<=281474976710656)(vJ:lo<=W.next):
 ∃v' W',aN P W ts v v2=some (v',W')/\EL lo W' z f v' (l++l2)/\W.next<=W'.next/\∀b,b<lo->W'.get b=W.get b:=by
 have Rn:0<z:=by obtain⟨t,e,zv,_,_,_,_,k5,_⟩:=lI hk;exact k5
 obtain⟨a,c,rfl,h2⟩:=h2;by_cases he:l2=[]
 ·subst he;rw[jn];have hb':(2*l.length+192)*bytes<=281474976710656:=by simpa using iW
  rcases h with⟨rfl,rfl|⟨B,rfl⟩⟩|⟨UB,B,c',i1,i2,rfl,hc,i4⟩
  ·exact⟨_,_,zh hk (aP _) (by simp at hb;omega) (by simpa using hb'),.inl ⟨rfl,.inl rfl⟩,aP _,λ_ _=>rfl⟩
  ·exact⟨_,_,zh hk (aP _) (by simp at hb;omega) (by simpa using hb'),.inl ⟨rfl,.inr ⟨B,rfl⟩⟩,aP _,λ_ _=>rfl⟩
  ·exact⟨_,_,zh hk (by rcases hc with rfl|rfl<;>(try unfold gU)<;>omega) (by omega) hb',.inr ⟨UB,B,c',i1,i2,rfl,hc,i4⟩,aP _,λ_ _=>rfl⟩
 ·rcases h2 with h2|⟨b,o,cs,rfl,j1,j2,j3⟩
  ·exact absurd h2 he
  have N7:0<l2.length:=vr.2 he;have Hr:(l2.flatMap f).length=l2.length*z:=ch hf l2;have ha:=C5 h1 l2;rcases h with⟨rfl,rfl|⟨B,rfl⟩⟩|⟨UB,B,c',i1,i2,rfl,hc,i4⟩
  ·refine⟨_,_,B7 hk j2 j3.symm Hr N7 ha (by simp at hb;omega) (by simpa using iW),.inr ⟨by simpa using he,W.next,_,vJ,by rw[AW.aG];omega,by simp,.inl rfl,by rw[AW.aT];simp⟩,by rw[AW.aG];omega,λb hb=>AW.br _ _ (by omega)⟩
  ·refine⟨_,_,PM hk j2 j3.symm Hr N7 ha (by simp at hb;omega) (by simpa using iW),.inr ⟨by simpa using he,W.next,_,vJ,by rw[AW.aG];omega,by simp,.inl rfl,by rw[AW.aT];simp⟩,by rw[AW.aG];omega,λb hb=>AW.br _ _ (by omega)⟩
  ·have zt:0<l.length:=vr.2 UB;rcases hc with rfl|rfl
   ·refine⟨_,_,LA hk j2 j3.symm Hr N7 ha i4 (ch hf l) hb iW zt,.inr ⟨by simp[UB],W.next,_,vJ,by rw[AW.aG,AW.eK];omega,by rw[cK],.inl rfl,?_⟩,by rw[AW.aG,AW.eK];omega,λb hb=>?_⟩
    ·have:=(W.kill B).aT (.cells (l.flatMap f++l2.flatMap f));rw[AW.eK]at this;rw[this,ge]
    ·rw[AW.br _ _ (by rw[AW.eK];omega),AW.eD _ (by omega)]
   ·refine⟨_,_,NP hk j2 j3.symm Hr N7 ha (bk i4) (ch hf l) hb iW zt,.inr ⟨by simp[UB],W.next,_,vJ,by rw[AW.aG];omega,by rw[cK],.inl rfl,by rw[AW.aT,ge]⟩,by rw[AW.aG];omega,λb hb=>AW.br _ _ (by omega)⟩
end
end
def nA{α:Type}(W:AW)(z:Nat)(f:α->List ae)(v:ae)(l:List α)(bo:Option Nat):Prop:=
 (l=[]/\v=.slice none 0 0/\bo=none)\/(l≠[]/\∃B,bo=some B/\B<W.next/\v=.slice (some ⟨B,0,none⟩) l.length (gU+z)/\W.get B=some (.cells (l.flatMap f)))
def nA.YA{α:Type}{W:AW}{z:Nat}{f:α->List ae}{v:ae}{l:List α}{bo:Option Nat}(h:nA W z f v l bo):pk 0 W z f v l:=by
 rcases h with⟨h1,h2,-⟩|⟨h0,B,-,h2,h3,h4⟩
 ·exact .inl ⟨h1,h2⟩
 ·exact .inr ⟨h0,B,Nat.zero_le _,h2,h3,h4⟩
def nA.dq{α:Type}{W W':AW}{z:Nat}{f:α->List ae}{v:ae}{l:List α}{bo:Option Nat}(h:nA W z f v l bo)(hn:W.next<=W'.next)(hg:∀B,bo=some B->W'.get B=W.get B):nA W' z f v l bo:=by
 rcases h with h|⟨h0,B,h1,h2,h3,h4⟩
 ·exact .inl h
 ·exact .inr ⟨h0,B,h1,by omega,h3,(hg B h1).trans h4⟩
def nA.lt{α:Type}{W:AW}{z:Nat}{f:α->List ae}{v:ae}{l:List α}{bo:Option Nat}(h:nA W z f v l bo){B:Nat}(hB:bo=some B):B<W.next:=by
 rcases h with⟨-,-,h⟩|⟨h0,B',h1,h2,-⟩
 ·rw[h]at hB;cases hB
 ·rw[h1]at hB;injection hB with hB;omega
def nA.push{α:Type}{P:aj}{W:AW}{ts:Array ai}{z bytes:Nat}{f:α->List ae}{v:ae}{l:List α}{bo:Option Nat}{a:α}(hk:iR P ts z bytes=true)(hf:∀a,(f a).length=z)(h1:∀a,(f a).all one=true)
 (h:nA W z f v l bo){b c:Nat}(hc:aL W b=some (f a))(hb:l.length+1<1099511627776)(iW:(2*(l.length+1)+192)*bytes<=281474976710656):
 ∃v' W',aN P W ts v (.slice (some ⟨b,0,none⟩) 1 c)=some (v',W')/\nA W' z f v' (l++[a]) (some W.next)/\W'.next=W.next+1/\∀b,b<W.next->bo≠some b->W'.get b=W.get b:=by
 have hn:f a=((f a).drop 0).take (1*z):=by rw[kN,Nat.one_mul,<-hf a,dd]
 have hl:(f a).length=1*z:=by rw[hf];omega
 rcases h with⟨rfl,rfl,rfl⟩|⟨h0,B,rfl,i2,rfl,i4⟩
 ·refine⟨_,_,B7 (b:=b) (o:=0) (c:=c) hk hc hn hl (by omega) (h1 a) (by omega) (by simpa using iW),.inr ⟨by simp,W.next,rfl,by rw[AW.aG];omega,by simp,by rw[AW.aT];simp⟩,AW.aG _ _,λd hd _=>AW.br _ _ (by omega)⟩
 ·have zt:0<l.length:=vr.2 h0;refine⟨_,_,LA (b:=b) (o:=0) (c:=c) hk hc hn hl (by omega) (h1 a) i4 (ch hf l) (by omega) iW zt,.inr ⟨by simp,W.next,rfl,by rw[AW.aG,AW.eK];omega,by simp,?_⟩,by rw[AW.aG,AW.eK],λd hd fk=>?_⟩
  ·have:=(W.kill B).aT (.cells (l.flatMap f++f a));rw[AW.eK]at this;rw[this,ge];simp
  ·rw[AW.br _ _ (by rw[AW.eK];omega),AW.eD _ (λe=>fk (by rw[e]))]
section
variable {P:aj} {W:AW} {α:Type} {t:ai} {z lo:Nat} {f:α->List ae} {v:ae} {l:List α} {kk:aV} {k:Nat}
end
def Yh{W W':AW}(v:ae):gc W (v,W')=(v,W')\/(gc W (v,W')=(v,W)/\Le W W'/\bC v=true):=by
 unfold gc;split
 ·rename_i h;have:=h.1;simp only[bK]at this;exact .inr ⟨rfl,h.2,this.1⟩
 ·exact .inl rfl
def qN{o t:Option (ae×AW)}{W:AW}{Q:ae->AW->Prop}(h:Ok t λr=>Q r.1 r.2)(Li:∀{r},t=some r->o=some (gc W r))(hq:∀v W',Q v W'->Le W W'->bC v=true->Q v W):∃v W',o=some (v,W')/\Q v W':=by
 obtain⟨⟨v,W'⟩,h1,h2⟩:=h;rcases Yh (W:=W) (W':=W') v with hg|⟨hg,a8,hp⟩
 ·exact⟨v,W',by rw[Li h1,hg],h2⟩
 ·exact⟨v,W,by rw[Li h1,hg],hq v W' h2 a8 hp⟩
def D5{P:aj}{W:AW}{t:ai}{x y u:ae}:aF P [(x,some t),(y,none),(u,none)] W=(iV P t x W).bind λr=>some (.tuple #[r.1,y,u],W):=by unfold aF iV;simp only[qU];cases ja P W t x<;>rfl
end
end Go.Eng
namespace Go.Eng
open Go Go.RowKit
section
variable [ak]
def Wo(P:aj)(dQ:Nat):Nat->List qZ->Bool
 |off,[]=>off==dQ
 |off,f::fs=>f.offset==off&&Wo P dQ (off+P.cellsOf f.type) fs
def Vj(P:aj):Nat->ai->Bool
 |0,_=>false
 |n+1,t=>match P.underlying t with
  |some .bool=>true
  |some (.int _)=>true
  |some .string=>true
  |some (.struct fs)=>Wo P (P.cellsOf t) 0 fs.toList&&fs.toList.all λf=>Vj P n f.type
  |some (.slice e)=>decide (0<P.cellsOf e)&&Vj P n e
  |_=>false
def xf(g:ai->List ae->Prop):List ai->List ae->Prop
 |[],cs=>cs=[]
 |t::ts,cs=>∃c1 c2,cs=c1++c2/\g t c1/\xf g ts c2
def xf.imp{g g':ai->List ae->Prop}(h:∀t cs,g t cs->g' t cs):∀{ts:List ai} {cs:List ae},xf g ts cs->xf g' ts cs
 |[],_,hc=>hc
 |_::_,_,⟨c1,c2,e,h1,h2⟩=>⟨c1,c2,e,h _ _ h1,xf.imp h h2⟩
def DR(P:aj)(W:AW):Nat->ai->List ae->Prop
 |0,_,_=>False
 |n+1,t,cs=>match P.underlying t with
  |some .bool=>∃b,cs=[.bool b]
  |some (.int k)=>∃m,cs=[.int k m]/\k.min<=m/\m<=k.max
  |some .string=>∃s:ByteArray,cs=[.string s]/\s.size<9223372036854775808
  |some (.struct fs)=>xf (DR P W n) (fs.toList.map (·.type)) cs
  |some (.slice e)=>∃a len cap,cs=[.slice a len cap]/\len<=cap/\cap<gU/\(a=none\/∃b,a=some ⟨b,0,none⟩)/\(len=0\/∃(b:Nat) (l:List (List ae)),a=some ⟨b,0,none⟩/\b<W.next/\aL W b=some l.flatten/\l.length=len/\∀c∈l,c.length=P.cellsOf e/\DR P W n e c)
  |_=>False
def DR.mono{P:aj}{W W':AW}(a8:Le W W'):∀{n:Nat} {t:ai} {cs:List ae},DR P W n t cs->DR P W' n t cs:=by
 intro n;induction n with
 |zero=>intro t cs h;exact h.elim
 |succ n ih=>
  intro t cs h;unfold DR at h|-;split at h
  ·exact h
  ·exact h
  ·exact h
  ·exact xf.imp (λt cs h=>ih h) h
  ·obtain⟨a,len,cap,e1,e2,e3,e3',h⟩:=h;refine⟨a,len,cap,e1,e2,e3,e3',?_⟩;rcases h with h|⟨b,l,e4,e5,e6,e7,h⟩
   ·exact .inl h
   ·exact .inr ⟨b,l,e4,fM e5 a8.next,(a8.aL e5).trans e6,e7,λc hc=>⟨(h c hc).1,ih (h c hc).2⟩⟩
  ·exact h
structure lK (σ:dj) (W:AW) (w:au):Prop where
 rel:bt σ W w.heap
 ro:F8 σ W
 some_:∃b g,σ b=some g
def lK.add{σ:dj}{W:AW}{w:au}(h:lK σ W w){B s:Nat}{cs:List ae}{c:Array ae}{t:ai}{fr:Nat×Nat}(hB:w.heap[B]? =some (.cells c t fr))
 (hc:∀(i:Nat) (v:ae),cs[i]? =some v->∃v',c[s+i]? =some v'/\VR σ v v'):
 lK (cq σ W.next ⟨B,s,s+cs.length⟩) (W.add (.ro cs)) w/\Sub σ (cq σ W.next ⟨B,s,s+cs.length⟩):=by
 have Eu:=h.rel.fresh;have hs:Sub σ (cq σ W.next ⟨B,s,s+cs.length⟩):=dD Eu;have gZ:B<w.heap.size:=(dW.1 hB).1;have fk:∀{x:Nat},x≠W.next->(W.add (.ro cs)).get x=W.get x:=λhx=>W.br _ (bL hx)
 have oc:∀x g,cq σ W.next ⟨B,s,s+cs.length⟩ x=some g->(x=W.next/\g=⟨B,s,s+cs.length⟩)\/(x≠W.next/\σ x=some g):=λx g hc=>by
  unfold cq at hc;split at hc
  ·rename_i hx;injection hc with hc;exact .inl ⟨hx,hc.symm⟩
  ·rename_i hx;exact .inr ⟨hx,hc⟩
 have pM:F8 (cq σ W.next ⟨B,s,s+cs.length⟩) (W.add (.ro cs)):=by
  intro x g hx;rcases oc x g hx with⟨rfl,rfl⟩|⟨h1,h2⟩
  ·exact⟨cs,AW.aT _ _⟩
  ·obtain⟨cP,pw⟩:=h.ro x g h2;exact⟨cP,by rw[fk h1];exact pw⟩
 refine⟨⟨⟨?_,?_,?_,?_⟩,pM,?_⟩,hs⟩
 ·intro x hx;rw[AW.aG]at hx;rw[fk (by omega)];exact h.rel.free x (by omega)
 ·intro x g hx;rw[AW.aG];rcases oc x g hx with⟨rfl,rfl⟩|⟨_,h2⟩
  ·exact⟨by omega,gZ⟩
  ·have:=h.rel.pd x g h2;exact⟨by omega,this.2⟩
 ·intro x o g hx hk;rcases oc x g hk with⟨rfl,rfl⟩|⟨h1,h2⟩
  ·rw[AW.aT]at hx;injection hx with hx;subst hx;exact⟨c,t,fr,hB,aP _,λi v hv=>let⟨v',a,b⟩:=hc i v hv;⟨v',a,b.mono hs⟩⟩
  ·rw[fk h1]at hx;exact(h.rel.obj x o g hx h2).mono hs
 ·intro b1 b2 o1 o2 g1 g2 Ib h1 h2 k1 k2 hr;obtain⟨c1,e1⟩:=pM b1 g1 k1;obtain⟨c2,e2⟩:=pM b2 g2 k2;rw[h1]at e1;rw[h2]at e2;injection e1 with e1;injection e2 with e2;subst e1;subst e2;simp[Sw]at hr
 ·obtain⟨b,g,hb⟩:=h.some_;exact⟨b,g,hs b g hb⟩
def Gf{w:au}{base:Nat}{a:aW}{n:Nat}{cs:List ae}(h:w.cells? base a n=some cs)(hn:0<n):∃c t fr,w.heap[a.block]? =some (.cells c t fr)/\a.spot=none/\cs.length=n/\∀i,i<n->c[a.off+i]? =cs[i]? :=by
 unfold World.cells? at h;split at h;case isFalse=>cases h
 have hl:=mapM_some_length h;rw[sR]at hl;have hg:∀i,i<n->w.cell? (a.add i)=cs[i]? :=λi hi=>mapM_some_get h i i (by simp[hi])
 have h0:=hg 0 hn;have e0:a.add 0=a:=by simp[Addr.add]
 rw[e0,cL (by omega)]at h0;unfold World.cell? at h0;split at h0;case h_2=>cases h0
 rename_i c t fr hh;split at h0;case isTrue=>cases h0
 rename_i pf;refine⟨c,t,fr,hh,by simpa using pf,hl,λi hi=>?_⟩;rw[<-hg i hi];unfold World.cell?;have eb:(a.add i).block=a.block:=by unfold Addr.add;split<;>rfl
 have eo:(a.add i).off=a.off+i:=by unfold Addr.add;split<;>simp_all
 have es:(a.add i).spot=none:=by unfold Addr.add;split<;>simp_all
 rw[eb,hh];simp only[es,eo,yu,gO,bR]
section
variable {H:Type} {enc:ai×ae->H} {P:aj} {w:au}
def Vy(P:aj)(w:au)(n:Nat)(t:ai)(cP:List ae):Prop:=∀σ W,lK σ W w->∃σ2 W2 cs,lK σ2 W2 w/\Sub σ σ2/\Le W W2/\LR σ2 cs cP/\DR P W2 n t cs
def w8{n:Nat}{dQ:Nat}{cP:List ae}(hl:cP.length=dQ):∀{fs:List qZ} {off:Nat},Wo P dQ off fs=true->(∀f∈fs,Vy P w n f.type ((cP.drop f.offset).take (P.cellsOf f.type)))->
 ∀σ W,lK σ W w->∃σ2 W2 cs,lK σ2 W2 w/\Sub σ σ2/\Le W W2/\LR σ2 cs (cP.drop off)/\xf (DR P W2 n) (fs.map (·.type)) cs
 |[],off,h,_,σ,W,ho=>by unfold Wo at h;have:=mn.1 h;refine⟨σ,W,[],ho,.refl _,.refl _,?_,rfl⟩;rw[Ca (by omega)];exact .nil
 |f::fs,off,h,hf,σ,W,ho=>by
  unfold Wo at h;simp only[bK]at h;have HQ:=mn.1 h.1;obtain⟨σ1,W1,c1,o1,s1,l1,r1,a1⟩:=hf f (by simp) σ W ho;obtain⟨σ2,W2,c2,o2,s2,l2,r2,a2⟩:=w8 hl h.2 (λg hg=>hf g (by simp[hg])) σ1 W1 o1;refine⟨σ2,W2,c1++c2,o2,s1.trans s2,l1.trans l2,?_,c1,c2,rfl,a1.mono l2,a2⟩;rw[HQ]at r1;have e:cP.drop off=(cP.drop off).take (P.cellsOf f.type)++cP.drop (off+P.cellsOf f.type):=by rw[<-nL,wK]
  rw[e];exact(r1.mono s2).append r2
def DB{n z:Nat}{e:ai}:∀{LL:List (List ae)},(∀c∈LL,c.length=z/\Vy P w n e c)->
 ∀σ W,lK σ W w->∃(σ2:dj) (W2:AW) (l:List (List ae)),lK σ2 W2 w/\Sub σ σ2/\Le W W2/\LR σ2 l.flatten LL.flatten/\l.length=LL.length/\∀c∈l,c.length=z/\DR P W2 n e c
 |[],_,σ,W,ho=>⟨σ,W,[],ho,.refl _,.refl _,.nil,rfl,by simp⟩
 |c0::LL,h,σ,W,ho=>by
  obtain⟨σ1,W1,c1,o1,s1,l1,r1,a1⟩:=(h c0 (by simp)).2 σ W ho;obtain⟨σ2,W2,l,o2,s2,l2,r2,e2,a2⟩:=DB (LL:=LL) (λc hc=>h c (by simp[hc])) σ1 W1 o1;refine⟨σ2,W2,c1::l,o2,s1.trans s2,l1.trans l2,?_,by simp[e2],?_⟩
  ·rw[List.flatten_cons,List.flatten_cons];exact(r1.mono s2).append r2
  ·intro c hc;rcases dz.1 hc with rfl|hc
   ·exact⟨by rw[r1.1];exact(h c0 (by simp)).1,a1.mono l2⟩
   ·exact a2 c hc
def IU(L:List ae)(o z:Nat):∀n,((List.range n).map λi=>(L.drop (o+i*z)).take z).flatten=(L.drop o).take (n*z)
 |0=>by simp
 |n+1=>by rw[ol,mU,List.flatten_append,IU L o z n,Nat.succ_mul,List.take_add,nL];simp
def Mm:∀{n m:Nat} {t:ai} {cP:List ae} {x:ce H×List dO},Vj P n t=true->DataW.trod enc P w 0 (λ_=>true) true m t cP=some x->Vy P w n t cP:=by
 intro n;induction n with
 |zero=>intro m t cP x h;cases h
 |succ n ih=>
  intro m t cP x h hx σ W ho;unfold Vj at h;split at h
  ·rename_i ht;obtain⟨b,rfl,_⟩:=DataW.trod_bool ht hx;exact⟨σ,W,[.bool b],ho,.refl _,.refl _,.cons (.bool b) .nil,by unfold DR;rw[ht];exact⟨b,rfl⟩⟩
  ·rename_i k ht;obtain⟨z,rfl,_,hwf⟩:=DataW.trod_int ht hx;simp only[Lit.wf,bK,mM]at hwf;exact⟨σ,W,[.int k z],ho,.refl _,.refl _,.cons (.int k z) .nil,by unfold DR;rw[ht];exact⟨z,rfl,hwf⟩⟩
  ·rename_i ht;obtain⟨s,rfl,_,hs⟩:=DataW.trod_string ht hx;exact⟨σ,W,[.string s],ho,.refl _,.refl _,.cons (.string s) .nil,by unfold DR;rw[ht];exact⟨s,rfl,by unfold maxLen at hs;omega⟩⟩
  ·rename_i fs ht;simp only[bK,cM]at h;obtain⟨xs,m',_,_,hl,eA,hf⟩:=DataW.trod_struct ht hx;have:=w8 (P:=P) (w:=w) (n:=n) hl h.1 (λf hfm=>by
    obtain⟨i,hi,rfl⟩:=vk hfm;have Xb:i<fs.size:=by simpa using hi
    have h1:=hf i fs[i] (by rw[g9 Xb]);rw[cL (by omega)]at h1;have e:fs.toList[i]=fs[i]:=by simp
    rw[e];exact ih (by rw[<-e];exact h.2 _ hfm) h1) σ W ho;obtain⟨σ2,W2,cs,o2,s2,l2,r2,a2⟩:=this;rw[kN]at r2;exact⟨σ2,W2,cs,o2,s2,l2,r2,by unfold DR;rw[ht];exact a2⟩
  ·rename_i e ht;simp only[bK,mM]at h;obtain⟨hz,Uk⟩:=h;have mk:∀{W2:AW} {a:Option aW} {len cap:Nat},len<=cap->cap<gU->(a=none\/∃b,a=some ⟨b,0,none⟩)->(len=0\/∃(b:Nat) (l:List (List ae)),a=some ⟨b,0,none⟩/\b<W2.next/\aL W2 b=some l.flatten/\l.length=len/\∀c∈l,c.length=P.cellsOf e/\DR P W2 n e c)->DR P W2 (n+1) t [.slice a len cap]:=λh1 h2 h2' h3=>by unfold DR;rw[ht];exact⟨_,_,_,rfl,h1,h2,h2',h3⟩
   rcases DataW.trod_slice ht hx with⟨rfl,_⟩|⟨a,len,cap,aoq,iZ,m',_,rfl,_,_,hlc,o5,hel,a8,pf,_⟩
   ·exact⟨σ,W,[.slice none 0 0],ho,.refl _,.refl _,.cons (.DE 0 0) .nil,mk (aP _) (by unfold gU;omega) (.inl rfl) (.inl rfl)⟩
   obtain⟨hrl,JZ⟩:=pf rfl;have ZE:cap<gU:=by unfold maxLen at o5;unfold gU;omega
   by_cases XO:cap=0
   ·obtain rfl:len=0:=by omega
    subst XO;obtain⟨b,g,hg⟩:=ho.some_;exact⟨σ,W,[.slice (some ⟨b,0,none⟩) 0 0],ho,.refl _,.refl _,.cons (.dH ⟨b,0,none⟩ a 0 g hg (.inl rfl)) .nil,mk (aP _) (by unfold gU;omega) (.inr ⟨b,rfl⟩) (.inl rfl)⟩
   ·
    have th:∀i,i<cap->∃ci,w.cells? 0 (a.add (i*P.cellsOf e)) (P.cellsOf e)=some ci/\∃x,DataW.trod enc P w 0 (λ_=>true) true m' e ci=some x:=by
     intro i hi;by_cases hil:i<len
     ·have h1:=a8 i hil;rw[cL (by omega)]at h1;obtain⟨ci,h2,h3⟩:=Option.bind_eq_some_iff.1 h1;exact⟨ci,h2,_,h3⟩
     ·have h1:=JZ (i-len) (by omega);rw[cL (by omega),show len+(i-len)=i by omega]at h1;obtain⟨ci,h2,h3⟩:=Option.bind_eq_some_iff.1 h1;exact⟨ci,h2,_,h3⟩
    obtain⟨c0,aew,_⟩:=th 0 (by omega);have ea0:a.add (0*P.cellsOf e)=a:=by simp[Addr.add]
    rw[ea0]at aew;obtain⟨c,tt,fr,hB,Zy,_,_⟩:=Gf aew hz;have hci:∀i,i<cap->∃x,((c.toList.drop (a.off+i*P.cellsOf e)).take (P.cellsOf e)).length=P.cellsOf e/\DataW.trod enc P w 0 (λ_=>true) true m' e ((c.toList.drop (a.off+i*P.cellsOf e)).take (P.cellsOf e))=some x:=by
     intro i hi;obtain⟨ci,h1,x,h2⟩:=th i hi;obtain⟨c2,t2,fr2,Pe,_,vX,K1⟩:=Gf h1 hz;have eb:(a.add (i*P.cellsOf e)).block=a.block:=by unfold Addr.add;split<;>rfl
     have eo:(a.add (i*P.cellsOf e)).off=a.off+i*P.cellsOf e:=by unfold Addr.add;split<;>simp_all
     rw[eb,hB]at Pe;injection Pe with Pe;injection Pe with Pe;subst Pe;rw[eo]at K1;have ec:(c.toList.drop (a.off+i*P.cellsOf e)).take (P.cellsOf e)=ci:=by
      apply rR;intro j;by_cases hj:j<P.cellsOf e
      ·rw[mb,ax hj,uk,ug];exact K1 j hj
      ·rw[mb,ay hj,rK (by omega)]
     rw[ec];exact⟨x,vX,h2⟩
    obtain⟨σ1,W1,l,o1,s1,l1,r1,e1,a1⟩:=DB (P:=P) (w:=w) (n:=n) (z:=P.cellsOf e) (e:=e) (LL:=(List.range len).map λi=>(c.toList.drop (a.off+i*P.cellsOf e)).take (P.cellsOf e)) (λci hm=>by
     obtain⟨i,hi,rfl⟩:=kq.1 hm;rw[pW]at hi;obtain⟨x,h1,h2⟩:=hci i (by omega);exact⟨h1,ih Uk h2⟩) σ W ho;rw[IU]at r1;rw[gR,sR]at e1;obtain⟨o2,s2⟩:=o1.add (s:=a.off) (cs:=l.flatten) hB (λi v hv=>by
     obtain⟨v',X1,hr⟩:=r1.get hv;refine⟨v',?_,hr⟩;rw[mb]at X1;split at X1
     ·rw[uk,ug]at X1;exact X1
     ·cases X1);have lw:Le W1 (W1.add (.ro l.flatten)):=(Le.refl W1).add _;have ev:(⟨a.block,a.off+0,none⟩:aW)=a:=by
     obtain⟨b,o,s⟩:=a;simp only at Zy;subst Zy;rfl
    have hv:VR (cq σ1 W1.next ⟨a.block,a.off,a.off+l.flatten.length⟩) (.slice (some ⟨W1.next,0,none⟩) len cap) (.slice (some ⟨a.block,a.off+0,none⟩) len cap):=
     .slice ⟨W1.next,0,none⟩ len cap cap ⟨a.block,a.off,a.off+l.flatten.length⟩ dy rfl (.known cap ZE)
    rw[ev]at hv;refine⟨_,_,[.slice (some ⟨W1.next,0,none⟩) len cap],o2,s1.trans s2,l1.trans lw,.cons hv .nil,mk hlc ZE (.inr ⟨W1.next,rfl⟩) (.inr ⟨W1.next,l,rfl,by rw[AW.aG];omega,CR (W1.aT _),e1,λci hm=>⟨(a1 ci hm).1,(a1 ci hm).2.mono lw⟩⟩)⟩
  ·cases h
end
end
end Go.Eng
namespace Go.Eng
open Go Go.RowKit Go.ChangeShapes Go.WideShapes
section
variable [ak]
section
variable {P:aj} {W:AW} {α:Type}
def DR.int{n:Nat}{t:ai}{cs:List ae}{k:aV}(h:DR P W (n+1) t cs)(ht:P.underlying t=some (.int k)):∃m,cs=[.int k m]:=by unfold DR at h;rw[ht]at h;obtain⟨m,h,_⟩:=h;exact⟨m,h⟩
def DR.str{n:Nat}{t:ai}{cs:List ae}(h:DR P W (n+1) t cs)(ht:P.underlying t=some .string):∃s:ByteArray,cs=[.string s]/\s.size<9223372036854775808:=by unfold DR at h;rw[ht]at h;exact h
def DR.struct{n:Nat}{t:ai}{cs:List ae}{fs:Array qZ}(h:DR P W (n+1) t cs)(ht:P.underlying t=some (.struct fs)):xf (DR P W n) (fs.toList.map (·.type)) cs:=by unfold DR at h;rw[ht]at h;exact h
def DR.slice{n:Nat}{t e:ai}{cs:List ae}(h:DR P W (n+1) t cs)(ht:P.underlying t=some (.slice e)):
 ∃a len cap,cs=[.slice a len cap]/\len<=cap/\cap<gU/\(len=0\/∃(b:Nat) (l:List (List ae)),a=some ⟨b,0,none⟩/\b<W.next/\aL W b=some l.flatten/\l.length=len/\∀c∈l,c.length=P.cellsOf e/\DR P W n e c):=by
 unfold DR at h;rw[ht]at h;obtain⟨a,len,cap,h1,h2,h3,_,h4⟩:=h;exact⟨a,len,cap,h1,h2,h3,h4⟩
def DR.abu{n:Nat}{t e:ai}{cs:List ae}(h:DR P W (n+1) t cs)(ht:P.underlying t=some (.slice e)):
 ∃a len cap,cs=[.slice a len cap]/\len<=cap/\cap<gU/\(a=none\/∃b,a=some ⟨b,0,none⟩)/\(len=0\/∃(b:Nat) (l:List (List ae)),a=some ⟨b,0,none⟩/\b<W.next/\aL W b=some l.flatten/\l.length=len/\∀c∈l,c.length=P.cellsOf e/\DR P W n e c):=by
 unfold DR at h;rw[ht]at h;exact h
def Iu{z:Nat}{at_:List ae->Nat->α->Prop}:∀{l:List (List ae)},(∀c∈l,c.length=z/\∃x:α,∀pre post,at_ (pre++(c++post)) pre.length x)->∀pre:List ae,
 ∃xs:List α,xs.length=l.length/\∀i (h:i<xs.length),at_ (pre++l.flatten) (pre.length+i*z) xs[i]
 |[],_,_=>⟨[],rfl,λi h=>by simp at h⟩
 |c::l,hc,pre=>by
  obtain⟨hz,x,hx⟩:=hc c (by simp);obtain⟨xs,h1,h2⟩:=Iu (l:=l) (λd hd=>hc d (by simp[hd])) (pre++c);refine⟨x::xs,by simp[h1],λi h=>?_⟩;rw[List.flatten_cons];match i with
  |0=>simpa using hx pre l.flatten
  |i+1=>have:=h2 i (by simpa using h);rw[cK,hz,jQ]at this;rw[List.getElem_cons_succ,Nat.succ_mul,Nat.add_comm (i*z) z,<-nh];exact this
def af2{α:Type}(W:AW)(z:Nat)(at_:List ae->Nat->α->Prop)(v:ae)(l:List α):Prop:=Row W z at_ v l/\(∃a c,v=.slice a l.length c/\l.length<=c/\c<gU/\(l≠[]->∃b o,a=some ⟨b,o,none⟩))
def DR.row{n:Nat}{t e:ai}{cs:List ae}(h:DR P W (n+1) t cs)(ht:P.underlying t=some (.slice e)){at_:List ae->Nat->α->Prop}
 (mE:∀c,c.length=P.cellsOf e->DR P W n e c->∃x:α,∀pre post,at_ (pre++(c++post)) pre.length x):∃v l,cs=[v]/\af2 W (P.cellsOf e) at_ v l:=by
 obtain⟨a,len,cap,rfl,h1,h2,h3⟩:=h.slice ht;rcases h3 with rfl|⟨b,l,rfl,h4,h5,rfl,h6⟩
 ·exact⟨_,[],rfl,⟨a,cap,rfl,.inl rfl⟩,a,cap,rfl,h1,h2,λh=>absurd rfl h⟩
 ·obtain⟨xs,e1,e2⟩:=Iu (z:=P.cellsOf e) (at_:=at_) (l:=l) (λc hc=>⟨(h6 c hc).1,mE c (h6 c hc).1 (h6 c hc).2⟩) [];refine⟨_,xs,rfl,⟨_,cap,by rw[e1],.inr ⟨b,0,l.flatten,rfl,h4,h5,λi hi=>?_⟩⟩,_,cap,by rw[e1],by omega,h2,λ_=>⟨b,0,rfl⟩⟩;have:=e2 i hi;simpa using this
def DR.ints{n:Nat}{t e:ai}{cs:List ae}{k:aV}(h:DR P W (n+2) t cs)(ht:P.underlying t=some (.slice e))(he:P.underlying e=some (.int k))(hz:P.cellsOf e=1):∃v l,cs=[v]/\af2 W 1 (xv k) v l:=by have:=h.row ht (at_:=xv k) (λc _ hc=>by obtain⟨m,rfl⟩:=hc.int he;refine⟨m,λpre post=>?_⟩;unfold xv;rw[gb (by omega)];simp);rwa [hz]at this
def xf.nil{g:ai->List ae->Prop}{cs:List ae}(h:xf g [] cs):cs=[]:=h
def xf.cons{g:ai->List ae->Prop}{t:ai}{ts:List ai}{cs:List ae}(h:xf g (t::ts) cs):∃c1 c2,cs=c1++c2/\g t c1/\xf g ts c2:=h
end
section
variable {H:Type} {enc:ai×ae->H} {P:aj} {w w':au} {base:Nat} {WM:Nat->Bool} {held:Bool}
def ej.same{p:dO}(hq:ej w w')(hp:p.block<w.heap.size):w.sameAt w' p:=by
 cases p with
 |cell b off=>exact World.cell?_of_block (a:=⟨b,off,none⟩) (hq.block b hp)
 |map b=>exact hq.block b hp
def ej.trodAll(hq:ej w w'):∀{ts:List ai} {vs:List ae} {ds:List (ce H)} {ps:List dO},DataW.TrodAll enc P w base WM held ts vs ds ps->DataW.TrodAll enc P w' base WM held ts vs ds ps
 |[],[],[],_,h=>h
 |_::_,_::_,_::_,_,⟨p,q,⟨n,h1⟩,h2,e⟩=>⟨p,q,⟨n,DataW.trod_carry n _ _ _ h1 (λx hx=>hq.same (DataW.trod_lt n _ _ _ h1 x hx))⟩,hq.trodAll h2,e⟩
def PN{f:fD}{s:ChangeSpec}{args:Array ae}{ds gs:List (ce H)}{mK:List dO}{T:ai->Prop}(K:Kids P T)(hz:∀t e,T t->P.underlying t=some (.slice e)->0<P.cellsOf e)(hT:∀t∈f.params.toList,T t)
 (hW:DataW.Whole enc P f.params.toList s.vars false w args.toList ds gs mK)(hq:ej w w')(hv:s.vars=[])(Ki:s.fn H ds={results:=[.lit (.bool true)],args:=ds}){t:ai}(hr:f.resultTypes=#[t])(ht:P.underlying t=some .bool):
 s.post enc P f false true false false w args (.bool true) w':=by
 have hW':=hW;obtain⟨p,q,hA,hV,rfl,_,_⟩:=hW;rw[hv]at hV;obtain⟨rfl,rfl⟩:=trodVars_none hV;have gZ:=hA.lt;refine⟨ds,[],p++[],[],p,[],hW',?_,?_,?_,hq.grown.frame _,λh=>by cases h⟩
 ·rw[hr,jn,Ki];exact trodAll_cons_mk (shut_bool ht _) trodAll_mk0
 ·rw[jn,Ki];exact hq.trodAll (hA.respare K hz hT (λx hx=>by simpa using gZ x hx))
 ·rw[hv,jn,Ki];exact rfl
end
end
end Go.Eng
namespace Go.Eng
open Go
@[reducible] noncomputable def Ou (D:Nat->Array ao->Option (List (Nat×List Nat))) (ng:List Nat) (ex:ai->Bool:=λ_=>false):ak where
 D:=D
 ex:=ex
 ng:=ng
 Fr:=T ae
 MO:=λR t=>(T.get (path t) R).getD ag
 Vl:=λR t v=>T.set (some v) (path t) R
 blank:=.lf
 kn:=λR t v=>by rw[T.kn];rfl
 gi:=λR t u v h=>by rw[T.gi _ _ _ _ (vi h)]
 zB:=λt=>by rw[T.zc];rfl
end Go.Eng
namespace Go.Proofs.YtekljimefjclgaaGreatDoor
open Go Go.Proofs
def Sd:Go.Shelf.Ren:=⟨λ|189=>165|125=>178|257=>177|128=>194|129=>195|294=>185|295=>186|296=>187|297=>188|298=>189|299=>190|216=>191|300=>192|301=>193|328=>198|329=>199|330=>200|331=>201|332=>202|215=>203|343=>205|n=>n,λ|28=>64|3=>3|46=>250|0=>0|51=>36|53=>37|4=>4|183=>274|182=>273|131=>163|5=>5|9=>9|218=>282|222=>286|228=>288|229=>289|n=>n,λ|n=>n⟩
def aiI:Lays.n189 Tryz.prog Sd where
 mixed:=by kernel_rfl
 f125:=Tryz.func178.trans (cR some (by kernel_rfl))
 f128:=Tryz.func194.trans (cR some (by kernel_rfl))
 f129:=Tryz.func195.trans (cR some (by kernel_rfl))
 f189:=Tryz.func165.trans (cR some (by kernel_rfl))
 f215:=Tryz.func203.trans (cR some (by kernel_rfl))
 f216:=Tryz.func191.trans (cR some (by kernel_rfl))
 f257:=Tryz.func177.trans (cR some (by kernel_rfl))
 f294:=Tryz.func185.trans (cR some (by kernel_rfl))
 f295:=Tryz.func186.trans (cR some (by kernel_rfl))
 f296:=Tryz.func187.trans (cR some (by kernel_rfl))
 f297:=Tryz.func188.trans (cR some (by kernel_rfl))
 f298:=Tryz.func189.trans (cR some (by kernel_rfl))
 f299:=Tryz.func190.trans (cR some (by kernel_rfl))
 f300:=Tryz.func192.trans (cR some (by kernel_rfl))
 f301:=Tryz.func193.trans (cR some (by kernel_rfl))
 f328:=Tryz.func198.trans (cR some (by kernel_rfl))
 f329:=Tryz.func199.trans (cR some (by kernel_rfl))
 f330:=Tryz.func200.trans (cR some (by kernel_rfl))
 f331:=Tryz.func201.trans (cR some (by kernel_rfl))
 f332:=Tryz.func202.trans (cR some (by kernel_rfl))
 f343:=Tryz.func205.trans (cR some (by kernel_rfl))
 t0:=Tryz.underlying0
 a0:=Tryz.isAgg0
 z0:=Tryz.sizeOf0
 v0:=Tryz.zeroValue0
 t3:=Tryz.underlying3
 a3:=Tryz.isAgg3
 z3:=Tryz.sizeOf3
 v3:=Tryz.zeroValue3
 t4:=Tryz.underlying4
 a4:=Tryz.isAgg4
 z4:=Tryz.sizeOf4
 v4:=Tryz.zeroValue4
 t5:=Tryz.underlying5
 a5:=Tryz.isAgg5
 z5:=Tryz.sizeOf5
 v5:=Tryz.zeroValue5
 t9:=Tryz.underlying9
 a9:=Tryz.isAgg9
 z9:=Tryz.sizeOf9
 v9:=Tryz.zeroValue9
 t28:=Tryz.underlying64
 a28:=Tryz.isAgg64
 z28:=Tryz.sizeOf64
 v28:=Tryz.zeroValue64
 t46:=Tryz.underlying250
 a46:=Tryz.isAgg250
 z46:=Tryz.sizeOf250
 v46:=Tryz.zeroValue250
 t51:=Tryz.underlying36
 a51:=Tryz.isAgg36
 z51:=Tryz.sizeOf36
 v51:=Tryz.zeroValue36
 t53:=Tryz.underlying37
 a53:=Tryz.isAgg37
 z53:=Tryz.sizeOf37
 v53:=Tryz.zeroValue37
 t131:=Tryz.underlying163
 a131:=Tryz.isAgg163
 z131:=Tryz.sizeOf163
 v131:=Tryz.zeroValue163
 t182:=Tryz.underlying273
 a182:=Tryz.isAgg273
 z182:=Tryz.sizeOf273
 v182:=Tryz.zeroValue273
 t183:=Tryz.underlying274
 a183:=Tryz.isAgg274
 z183:=Tryz.sizeOf274
 v183:=Tryz.zeroValue274
 t218:=Tryz.underlying282
 a218:=Tryz.isAgg282
 z218:=Tryz.sizeOf282
 v218:=Tryz.zeroValue282
 t222:=Tryz.underlying286
 a222:=Tryz.isAgg286
 z222:=Tryz.sizeOf286
 v222:=Tryz.zeroValue286
 t228:=Tryz.underlying288
 a228:=Tryz.isAgg288
 z228:=Tryz.sizeOf288
 v228:=Tryz.zeroValue288
 t229:=Tryz.underlying289
 a229:=Tryz.isAgg289
 z229:=Tryz.sizeOf289
 v229:=Tryz.zeroValue289
end Go.Proofs.YtekljimefjclgaaGreatDoor
