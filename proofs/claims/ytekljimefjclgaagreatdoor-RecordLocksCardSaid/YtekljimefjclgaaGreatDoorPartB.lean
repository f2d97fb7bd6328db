/- A part: contracts and laws. -/
import Derived.Test.YtekljimefjclgaaGreatDoorPartA
import Derived.LoopNIn
import Derived.RangeFuncRecord
import Derived.RowKit3
import Derived.ProofKit
import Derived.OpenShut
import Derived.Maps.RangeWalk
import Derived.Orders
import Derived.RowKit
import Derived.Sort.Grow
import Derived.ChangeArms
import Derived.ReadAgain
import Derived.Shelf.Sort.Plain
import Derived.Test.YtekljimefjclgaaGreatDoorChecked
set_option linter.unusedVariables false
set_option linter.unusedSimpArgs false
set_option linter.unusedSectionVars false
set_option linter.defProp false
noncomputable section
open Go renaming Act->aQ,Addr->aM,Code->ba,DataW->bs,Deferred->cH,Exit->cj,Field->mX,Func->dV,FuncId->fo,IntKind->aK,MemPlace->cI,Oper->am,Operand->ao,Program->ag,TypeId->ah,Value->ae,World->ap,undef->ai
namespace Go.Eng
open Go
section
variable [aj]
inductive X where
 |normal|exit (id:Nat)|ret
def X.to:X->cj
 |.normal=>.normal
 |.exit id=>.exit id
 |.ret=>.ret
def X.jump:X->Option ba
 |.normal=>none
 |.exit id=>some (.exit id)
 |.ret=>some .ret
def gF(body:aj.Fr->AW->Option (X×aj.Fr×AW)):Nat->aj.Fr->AW->Option (X×aj.Fr×AW)
 |0,_,_=>none
 |n+1,R,W=>match body R W with
  |some (.normal,R',W')=>gF body n R' W'
  |r=>r
def bA(P:ag)(call:Callee)(top:Bool)(nt:Nat):ba->aj.Fr->AW->Option (X×aj.Fr×AW)
 |.skip,R,W=>some (.normal,R,W)
 |.label _,R,W=>some (.normal,R,W)
 |.region id ops uW,R,W=>
  match uW with
  |false=>(kR P call ops ops.toList R W).map λr=>(.normal,r.1,r.2)
  |true=>match aj.D id ops with
   |none=>(kR P call ops ops.toList R W).map λr=>(.normal,r.1,r.2)
   |some pl=>(gI P call ops pl R W).map λr=>(.normal,r.1,r.2)
 |.seq a b,R,W=>match bA P call top nt a R W with
  |some (.normal,R',W')=>bA P call top nt b R' W'
  |r=>r
 |.cond c a b,R,W=>match aw R c with
  |.bool true=>bA P call top nt a R W
  |.bool false=>bA P call top nt b R W
  |_=>none
 |.block id b,R,W=>match bA P call top nt b R W with
  |some (.exit i,R',W')=>if i=id then some (.normal,R',W')else some (.exit i,R',W')
  |r=>r
 |.loop b,R,W=>gF (bA P call top nt b) 1000000 R W
 |.rangeFunc f ps ajb bd,R,W=>
  match top with
  |false=>none
  |true=>match aw R f with
   |.func (.func i) fs cs=>W.new (.loop .ready none R nt ps ajb bd) λl W1=>
    match call (.func (.func i) fs cs) [.func (.yield l) #[] #[]] W1 with
    |some (_,W2)=>match W2.get l with
     |some (.loop st jF _ _ _ _ _)=>(match st with
      |.busy=>none
      |_=>match jF with
       |none=>some (.normal,R,W2.kill l)
       |some (.exit i)=>some (.exit i,R,W2.kill l)
       |some .ret=>some (.ret,R,W2.kill l)
       |_=>none)
     |_=>none
    |none=>none
   |_=>none
 |.exit id,R,W=>some (.exit id,R,W)
 |.ret,R,W=>some (.ret,R,W)
 |.goto _,_,_=>none
 |.scope _,_,_=>none
 |.refuse _,_,_=>none
def mn(n0:Nat)(σ:cm)(w:ap):List cH->Prop
 |[]=>True
 |d::ds=>(∃r,d={target:=.collected r,args:=#[]}/\n0<=r/\w.heap[r]? =some (.deferred (some []))/\(∀b g,σ b=some g->g.B≠r)/\
  ∀d'∈ds,∀r',d'.target=.collected r'->r'≠r)/\mn n0 σ w ds
section
variable {P:ag} {σ σ':cm} {W W':AW} {w w':ap} {n0:Nat}
def mn.ext(he:dE σ W w σ' W' w'):∀{ds:List cH},mn n0 σ w ds->mn n0 σ' w' ds:=by
 intro ds;induction ds with
 |nil=>intro _;trivial
 |cons d ds ih=>
  rintro⟨⟨r,h1,h2,h3,h4,h5⟩,PD⟩;have hr:r<w.heap.size:=(cQ.1 h3).1;have hm:¬SM σ W r:=by rintro⟨b,g,hg,e,_⟩;exact h4 b g hg e
  refine⟨⟨r,h1,h2,(he.dD r hr hm).trans h3,λb g hg e=>?_,h5⟩,ih PD⟩;rcases he.grow b g hg (by omega)with h|h
  ·exact h4 b g h e
  ·rw[e]at h;exact hm h
def aX.push(h:aX σ W w.heap)(x:Obj)(hx:∀c t fr,x≠ .cells c t fr):aX σ W (w.heap.push x)/\dE σ W w σ W {w with heap:=w.heap.push x}:=by
 have dH:∀B,B<w.heap.size->(w.heap.push x)[B]? =w.heap[B]? :=λB hB=>by rw[nz];rw[bX]
 refine⟨⟨h.free,λb g hg=>?_,λb o g hb hg=>(h.obj b o g hb hg).same (dH _ (h.lH b g hg).2),h.lP⟩,
  ⟨.refl _,λ_ _ h=>h,by simp,rfl,rfl,rfl,λB hB _=>dH B hB,λ_ _ h k=>⟨h,k⟩,λb g hg _=>.inl hg⟩⟩
 ·have:=h.lH b g hg;simp;omega
def aX.other(h:aX σ W w.heap){r:Nat}(hr:∀b g,σ b=some g->g.B≠r)(x:Obj):aX σ W (w.heap.setIfInBounds r x):=by
 refine⟨h.free,λb g hg=>?_,λb o g hb hg=>(h.obj b o g hb hg).same ?_,h.lP⟩
 ·have:=h.lH b g hg;simpa using this
 ·rw[xX (bL (hr b g hg))]
def AC(ops:Array am):(List.range ops.size).filterMap (λi=>ops[i]?)=ops.toList:=by
 have h1:(List.range ops.size).filterMap (λi=>ops[i]?)=(List.range ops.size).map λi=>ops.getD i default:=by
  have key:∀l:List Nat,(∀i∈l,i<ops.size)->l.filterMap (λi=>ops[i]?)=l.map λi=>ops.getD i default:=by
   intro l;induction l with
   |nil=>intro _;rfl
   |cons i l ih=>intro h;have hi:i<ops.size:=h i (by simp);simp only[List.filterMap_cons,iN,ft hi];rw[ih λj hj=>h j (by simp[hj])];simp[hi]
  exact key _ λi hi=>by simpa using hi
 rw[h1];refine qy λi=>?_
 simp only[kN,pm];by_cases hi:i<ops.size
 ·rw[List.getElem?_range hi];simp[hi]
 ·rw[nB (by simpa using hi)];simp[hi]
def Sr{ng:List Nat}{nt:Nat}{call:Callee}(hc:bB P ng call){ops:Array am}(gJ:∀(i:Nat) (o:am),ops[i]? =some o->iH nt ng o=true){ro:Option Nat}{Q:cj->aQ->ap->Prop}{Rf:aj.Fr}{Wf:AW}:
 ∀(l:List Nat) (σ:cm) (R:aj.Fr) (W:AW) (a:aQ) (w:ap),(∀i∈l,i<ops.size)->aX σ W w.heap->qM σ ng->dn nt σ R a.tmps->
  kR P call ops (l.filterMap λi=>ops[i]?) R W=some (Rf,Wf)->
  (∀σ' a' w',dn nt σ' Rf a'.tmps->a'.defers=a.defers->aX σ' Wf w'.heap->dE σ W w σ' Wf w'->Q .normal a' w')->wpOpsIn (FE ro) 0 P ops Q l a w:=by
 intro l;induction l with
 |nil=>intro σ R W a w _ hW hG hR h hQ;injection h with h;injection h with h1 h2;subst h1;subst h2;exact hQ σ a w hR rfl hW (.refl _ _ _)
 |cons i l ih=>
  intro σ R W a w hl hW hG hR h hQ;have hi:i<ops.size:=hl i (by simp);have hg:ops[i]? =some ops[i]:=ft hi;simp only[List.filterMap_cons,hg,kR]at h;split at h;case h_2=>cases h
  rename_i R' W' hs;have vA:∀t∈(ops[i]).looksAt ops,VR σ (ch R t) (a.tmps.getD t ai):=λt ht=>hR.2 t (DE gJ hg ht)
  have hρ:=ot hG (gJ _ _ hg) vA;have Yp:=vh vA;simp only[wpOpsIn,hg,Yp];unfold gV at hs;split at hs
  ·rename_i hw;rw[ax hw];split at hs
   ·rename_i v W1 nu;injection hs with hs;injection hs with zB oS;subst zB;subst oS;refine BW hc hW hG nu hρ λσ' v' w' hv hw' he=>?_
    exact ih σ' _ _ _ w' (λj hj=>hl j (by simp[hj])) hw' (hG.mono he.sub) ((hR.mono he.sub).put _ hv) h
     (λBt a' Mh k1 k2 k3 k4=>hQ Bt a' Mh k1 (by rw[k2,kQ]) k3 (he.trans k4))
   ·cases hs
  ·rename_i hw;rw[ay hw];injection hs with hs;injection hs with zB oS;subst zB;subst oS
   exact⟨λf _=>trivial,ih σ _ _ _ w (λj hj=>hl j (by simp[hj])) hW hG (hR.put _ .undef) h
    (λBt a' Mh k1 k2 k3 k4=>hQ Bt a' Mh k1 (by rw[k2,kQ]) k3 k4)⟩
end
end
section
variable [aj]
section
variable {P:ag}
def rS{x:X}{R':aj.Fr}{W':AW}{y:Option (aj.Fr×AW)}(h:(y.map λr=>((X.normal,r.1,r.2):X×aj.Fr×AW))=some (x,R',W')):x=.normal/\y=some (R',W'):=by
 cases y with
 |none=>cases h
 |some r=>simp only[bR,fb,Prod.mk.injEq]at h;obtain⟨h1,h2,h3⟩:=h;exact⟨h1.symm,by rw[<-h2,<-h3]⟩
def RN(P:ag)(ng:List Nat)(nt n0:Nat)(ro:Option Nat)(c:ba)(x:X)(R:aj.Fr)(W:AW)(R':aj.Fr)(W':AW):Prop:=
 ∀(σ:cm) (a:aQ) (w:ap) (Q:cj->aQ->ap->Prop),aX σ W w.heap->qM σ ng->dn nt σ R a.tmps->mn n0 σ w a.defers->n0<=w.heap.size->
  (∀σ' a' w',dn nt σ' R' a'.tmps->mn n0 σ' w' a'.defers->aX σ' W' w'.heap->dE σ W w σ' W' w'->Q x.to a' w')->c.wpIn (FE ro) 0 P Q a w
def HP{x:X}(hx:x≠ .normal){N:aQ->ap->Prop}{Q:cj->aQ->ap->Prop}{a:aQ}{w:ap}(h:Q x.to a w):Exit.then N Q x.to a w:=by
 cases x with
 |normal=>exact absurd rfl hx
 |exit id=>exact h
 |ret=>exact h
def E8{x:X}{id:Nat}{Q:cj->aQ->ap->Prop}{a:aQ}{w:ap}(h:(match x with|.exit i=>if i=id then Q .normal a w else Q (.exit i) a w|x=>Q x.to a w)):Exit.inBlock id Q x.to a w:=by
 cases x with
 |normal=>exact h
 |exit i=>exact h
 |ret=>exact h
def MI{ng:List Nat}{nt n0:Nat}{ro:Option Nat}{b:ba}{body:aj.Fr->AW->Option (X×aj.Fr×AW)}(hb:∀x R W R' W',body R W=some (x,R',W')->RN P ng nt n0 ro b x R W R' W'):
 ∀(m:Nat) (x:X) (R:aj.Fr) (W:AW) (R':aj.Fr) (W':AW),gF body m R W=some (x,R',W')->x≠ .normal/\∀(σ:cm) (a:aQ) (w:ap) (Q:cj->aQ->ap->Prop),aX σ W w.heap->qM σ ng->dn nt σ R a.tmps->mn n0 σ w a.defers->n0<=w.heap.size->
  (∀σ' a' w',dn nt σ' R' a'.tmps->mn n0 σ' w' a'.defers->aX σ' W' w'.heap->dE σ W w σ' W' w'->Q x.to a' w')->Code.roundsIn (FE ro) 0 P b Q m a w:=by
 intro m;induction m with
 |zero=>intro x R W R' W' h;cases h
 |succ m ih=>
  intro x R W R' W' h;unfold gF at h;split at h
  ·rename_i R1 W1 h1;obtain⟨hx,ZJ⟩:=ih x R1 W1 R' W' h;refine⟨hx,λσ a w Q hW hG hR hM hn hQ=>?_⟩;refine hb _ _ _ _ _ h1 σ a w _ hW hG hR hM hn λσ1 a1 w1 k1 k2 k3 k4=>?_
   exact ZJ σ1 a1 w1 Q k3 (hG.mono k4.sub) k1 k2 (fK hn k4.size) λσ2 a2 w2 g1 g2 g3 g4=>hQ σ2 a2 w2 g1 g2 g3 (k4.trans g4)
  ·rename_i dQ;have hx:x≠ .normal:=by rintro rfl;exact dQ R' W' h
   refine⟨hx,λσ a w Q hW hG hR hM hn hQ=>?_⟩;exact hb _ _ _ _ _ h σ a w _ hW hG hR hM hn λσ1 a1 w1 k1 k2 k3 k4=>HP hx (hQ σ1 a1 w1 k1 k2 k3 k4)
def pP(hm:P.follows .mixedOrders=true){ng:List Nat}{nt n0:Nat}(HU:ng=aj.ng){call:Callee}(hc:bB P ng call){top:Bool}{ro:Option Nat}(lT:top=true->ro=none):
 ∀(c:ba),fI nt ng c=true->∀(x:X) (R:aj.Fr) (W:AW) (R':aj.Fr) (W':AW),bA P call top nt c R W=some (x,R',W')->RN P ng nt n0 ro c x R W R' W':=by
 intro c;induction c with
 |skip=>intro _ x R W R' W' h σ a w Q hW hG hR hM hn hQ;injection h with h;injection h with h1 h2;injection h2 with h2 h3;subst h1;subst h2;subst h3;exact wpIn_skip (hQ σ a w hR hM hW (.refl _ _ _))
 |label l=>intro _ x R W R' W' h σ a w Q hW hG hR hM hn hQ;injection h with h;injection h with h1 h2;injection h2 with h2 h3;subst h1;subst h2;subst h3;exact wpIn_label (hQ σ a w hR hM hW (.refl _ _ _))
 |exit id=>intro _ x R W R' W' h σ a w Q hW hG hR hM hn hQ;injection h with h;injection h with h1 h2;injection h2 with h2 h3;subst h1;subst h2;subst h3;exact wpIn_exit (hQ σ a w hR hM hW (.refl _ _ _))
 |ret=>intro _ x R W R' W' h σ a w Q hW hG hR hM hn hQ;injection h with h;injection h with h1 h2;injection h2 with h2 h3;subst h1;subst h2;subst h3;exact wpIn_ret (hQ σ a w hR hM hW (.refl _ _ _))
 |goto l=>intro _ x R W R' W' h;cases h
 |scope b _=>intro _ x R W R' W' h;cases h
 |refuse s=>intro _ x R W R' W' h;cases h
 |region id ops uW=>
  intro gJ x R W R' W' h σ a w Q hW hG hR hM hn hQ;simp only[fI,bm,kL,sa]at gJ;have Dr:∀(i:Nat) (o:am),ops[i]? =some o->iH nt ng o=true:=λi o ho=>bV.1 gJ.1 o (by have:=Array.mem_of_getElem? ho;simpa using this)
  unfold bA at h;split at h
  ·obtain⟨hx,hy⟩:=rS h;subst hx;refine wpIn_region (Sr hc Dr (List.range ops.size) σ R W a w (by simp) hW hG hR (by rw[AC];exact hy) λσ' a' w' k1 k2 k3 k4=>?_);exact hQ σ' a' w' k1 (by rw[k2];exact hM.ext k4) k3 k4
  ·have np:A0 ops (LF ops (aj.D id ops))=true:=gJ.2.resolve_left (by simp);split at h
   ·rename_i hD;obtain⟨hx,hy⟩:=rS h;subst hx;rw[hD]at np;refine EY hm hc gJ.1 np hW hG hR (Rf:=R') (Wf:=W') ?_ λσ' a' w' k1 k2 k3 k4=>hQ σ' a' w' k1 (by rw[k2];exact hM.ext k4) k3 k4
    show gI P call ops ((List.range ops.size).map λi=>(i,[])) R W=_;rw[Hi _ _ _ (by simp),AC];exact hy
   ·rename_i pl hD;obtain⟨hx,hy⟩:=rS h;subst hx;rw[hD]at np;exact EY hm hc gJ.1 np hW hG hR hy λσ' a' w' k1 k2 k3 k4=>hQ σ' a' w' k1 (by rw[k2];exact hM.ext k4) k3 k4
 |seq b c Fq ihc=>
  intro gJ x R W R' W' h σ a w Q hW hG hR hM hn hQ;simp only[fI,bm]at gJ;unfold bA at h;split at h
  ·rename_i R1 W1 h1;refine wpIn_seq (Fq gJ.1 _ _ _ _ _ h1 σ a w _ hW hG hR hM hn λσ1 a1 w1 k1 k2 k3 k4=>?_);exact ihc gJ.2 _ _ _ _ _ h σ1 a1 w1 Q k3 (hG.mono k4.sub) k1 k2 (fK hn k4.size) λσ2 a2 w2 g1 g2 g3 g4=>hQ σ2 a2 w2 g1 g2 g3 (k4.trans g4)
  ·rename_i dQ;have hx:x≠ .normal:=by rintro rfl;exact dQ R' W' h
   exact wpIn_seq (Fq gJ.1 _ _ _ _ _ h σ a w _ hW hG hR hM hn λσ1 a1 w1 k1 k2 k3 k4=>HP hx (hQ σ1 a1 w1 k1 k2 k3 k4))
 |cond o b c Fq ihc=>
  intro gJ x R W R' W' h σ a w Q hW hG hR hM hn hQ;simp only[fI,bm]at gJ;obtain⟨⟨h1,h2⟩,h3⟩:=gJ;have hv:=Ab hR hG h1;unfold bA at h;split at h
  ·rename_i he;rw[he]at hv;exact wpIn_cond_true hv.fA (Fq h2 _ _ _ _ _ h σ a w Q hW hG hR hM hn hQ)
  ·rename_i he;rw[he]at hv;exact wpIn_cond_false hv.fA (ihc h3 _ _ _ _ _ h σ a w Q hW hG hR hM hn hQ)
  ·cases h
 |block id b ih=>
  intro gJ x R W R' W' h σ a w Q hW hG hR hM hn hQ;simp only[fI]at gJ;unfold bA at h;split at h
  ·rename_i i R1 W1 h1;refine wpIn_block (ih gJ _ _ _ _ _ h1 σ a w _ hW hG hR hM hn λσ1 a1 w1 k1 k2 k3 k4=>E8 ?_);simp only;split at h
   ·rename_i hi;injection h with h;injection h with e1 e2;injection e2 with e2 e3;subst e1;subst e2;subst e3;rw[ax hi];exact hQ σ1 a1 w1 k1 k2 k3 k4
   ·rename_i hi;injection h with h;injection h with e1 e2;injection e2 with e2 e3;subst e1;subst e2;subst e3;rw[ay hi];exact hQ σ1 a1 w1 k1 k2 k3 k4
  ·rename_i dQ;refine wpIn_block (ih gJ _ _ _ _ _ h σ a w _ hW hG hR hM hn λσ1 a1 w1 k1 k2 k3 k4=>E8 ?_);cases x with
   |normal=>exact hQ σ1 a1 w1 k1 k2 k3 k4
   |exit i=>exact absurd h (dQ i R' W')
   |ret=>exact hQ σ1 a1 w1 k1 k2 k3 k4
 |loop b ih=>intro gJ x R W R' W' h σ a w Q hW hG hR hM hn hQ;simp only[fI]at gJ;unfold bA at h;exact wpIn_loop_rounds _ ((MI (λx R W R' W' hh=>ih gJ x R W R' W' hh) _ x R W R' W' h).2 σ a w Q hW hG hR hM hn hQ)
 |rangeFunc f ps ajb bd _ _=>
  intro gJ x R W R' W' h σ a w Q hW hG hR hM hn hQ;simp only[fI,bm]at gJ;obtain⟨⟨⟨h1,h2⟩,h3⟩,h4⟩:=gJ;unfold bA at h;split at h
  ·cases h
  have DK:ro=none:=lT rfl;subst DK;split at h;case h_2=>cases h
  rename_i i0 fs0 cs0 hf0;rw[AW.cF]at h;split at h;case h_2=>cases h
  rename_i u W2 Yo;split at h;case h_2=>cases h
  rename_i st jF R9 HF Is Io H1 dL;obtain⟨p1,p2⟩:=hW.push (.deferred (some [])) (λ_ _ _ e=>by cases e);let w0:ap:={w with heap:=w.heap.push (.deferred (some []))};let A8:Nat->Loop:=λfn=>{state:=.ready,pending:=none,fn,tmps:=a.tmps,params:=ps,assign:=ajb,body:=bd,defers:=w.heap.size}
  refine wpIn_rangeFunc λfn _=>?_
  have EC:Sub σ (bu σ W.next ⟨w0.heap.size,0,1⟩):=cA hW.fresh;obtain⟨q1,q2⟩:=aX.alloc (w:=w0) p1 (o:=.loop .ready none R nt ps ajb bd) (x:=.loop (A8 fn)) (e:=1)
   ⟨rfl,rfl,A8 fn,by simp,rfl,rfl,hR.mono EC,rfl,rfl,rfl,⟨by rw[<-HU];exact hG.mono EC,by rw[<-HU];exact h3⟩,⟨by rw[<-HU];exact hG.mono EC,by rw[<-HU];exact h4⟩,h2⟩
  have hfv:=(Ab hR hG h1).mono EC;rw[hf0]at hfv;have bY:LR (bu σ W.next ⟨w0.heap.size,0,1⟩) [.func (.yield W.next) #[] #[]] [.func (.yield w0.heap.size) #[] #[]]:=
   .cons (.func _ _ _ _ _ _ (.yield _ _ cz) rfl (λi v v' x=>by simp at x) rfl (λi v v' x=>by simp at x)) .nil
  have hcv:=hc _ _ _ _ _ Yo _ {w0 with heap:=w0.heap.push (.loop (A8 fn))} _ _ q1 (hG.mono EC) hfv bY;have adZ:w0.heap.size=w.heap.size+1:=by simp[w0]
  have U8:mn n0 (bu σ W.next ⟨w0.heap.size,0,1⟩) {w0 with heap:=w0.heap.push (.loop (A8 fn))} ([{target:=.collected w.heap.size,args:=#[]}]++a.defers):=by
   refine⟨⟨w.heap.size,rfl,hn,?_,?_,?_⟩,(hM.ext p2).ext q2⟩
   ·show(w0.heap.push _)[w.heap.size]? =_;rw[nz,bX];simp[w0]
   ·intro b g hg e;unfold bu at hg;split at hg
    ·injection hg with hg;subst hg;simp at e;omega
    ·have:=(hW.lH b g hg).2;omega
   ·intro d' fx r' ht e;have:∀{ds:List cH},mn n0 σ w ds->∀d'∈ds,∀r',d'.target=.collected r'->r'<w.heap.size:=by
     intro ds;induction ds with
     |nil=>intro _ d' fx;cases fx
     |cons d ds ih=>
      rintro⟨⟨r,e1,e2,e3,_⟩,PD⟩ d' fx r' ht;rcases cP.1 fx with rfl|fx
      ·rw[e1]at ht;injection ht with ht;subst ht;exact(cQ.1 e3).1
      ·exact ih PD d' fx r' ht
    have:=this hM d' fx r' ht;omega
  unfold rf at hcv;split at hcv;case h_3=>exact hcv.elim
  ·rename_i fv i fs cs rM;obtain⟨c1,c2⟩:=hcv;refine⟨w0.heap.size,[{target:=.collected w.heap.size,args:=#[]}],{w0 with heap:=w0.heap.push (.loop (A8 fn))},{target:=.fn (.func i) cs,args:=fs++#[.func (.yield w0.heap.size) #[] #[]]},{w0 with heap:=w0.heap.push (.loop (A8 fn))},i,fs++#[.func (.yield w0.heap.size) #[] #[]]++cs,{w0 with heap:=w0.heap.push (.loop (A8 fn))},?_,?_,λ_ _=>trivial,?_,λhd=>by rw[xB]at hd;simp at hd,?_⟩
   ·show(Instr.enterLoop fn a.tmps ps ajb bd none).run P w=_;rw[run_enterLoop_outer,adZ];rfl
   ·show(resolve a.eval (rangeCall f w0.heap.size) 0).run P _=.ok _ {w0 with heap:=w0.heap.push (.loop (A8 fn))};have:a.eval f=.func (.func i) fs cs:=rM;have aeO:a.eval (.const (.func (.yield w0.heap.size) #[] #[]))=.func (.yield w0.heap.size) #[] #[]:=rfl;simp[resolve,this,Deferred.ofValue,aeO]
   ·show(invoke (.fn (.func i) cs) (fs++#[.func (.yield w0.heap.size) #[] #[]])).run P _=_;have c1':(callFunc i (fs++#[.func (.yield w0.heap.size) #[] #[]]++cs)).run P {w0 with heap:=w0.heap.push (.loop (A8 fn))}=_:=c1;simpa[invoke]using c1'
   ·refine kh (yQ c2) ?_;rintro e w' ⟨v',rfl,σ',k1,k2,k3⟩;obtain⟨hz,SQ⟩:σ' W.next=some ⟨w0.heap.size,0,1⟩/\True:=⟨k3.sub _ _ cz,aF⟩;obtain⟨_,_,r,r1,r2,r3,r4,r5,r6,r7,r8,r9,cd⟩:=k2.obj _ _ _ dL hz;have aeh:st≠ .busy:=by rintro rfl;simp at h
    have acu:=run_endLoop (P:=P) r1 (by rw[r2];exact aeh);obtain⟨s1,s2⟩:=k2.setObj (w:=w') (o':=.loop .exhausted jF R9 HF Is Io H1) (x:=.loop {r with state:=.exhausted}) dL (λ_=>by simp) hz ⟨rfl,rfl⟩ (λc t fr e=>by rw[r1]at e;cases e)
     ⟨rfl,rfl,{r with state:=.exhausted},by simp[(k2.lH _ _ hz).2],rfl,r3,r4,r5,r6,r7,r8,r9,cd⟩
    obtain⟨t1,t2⟩:=aX.kill (w:={w' with heap:=w'.heap.setIfInBounds w0.heap.size (.loop {r with state:=.exhausted})}) s1 (b:=W.next) (g0:=⟨w0.heap.size,0,1⟩) (λcs=>by rw[AW.bH];simp) hz;have aaC:(W2.put W.next (.loop .exhausted jF R9 HF Is Io H1)).kill W.next=W2.kill W.next:=by simp only[AW.kill,AW.put];congr 1;exact T.set_set _ _ _ _
    rw[aaC]at t1 t2;have Er:dE σ W w σ' (W2.kill W.next) {w' with heap:=w'.heap.setIfInBounds w0.heap.size (.loop {r with state:=.exhausted})}:=
     (((p2.trans q2).trans k3).trans s2).trans t2
    have Th:mn n0 σ' {w' with heap:=w'.heap.setIfInBounds w0.heap.size (.loop {r with state:=.exhausted})} ([{target:=.collected w.heap.size,args:=#[]}]++a.defers):=
     ((U8.ext k3).ext s2).ext t2
    refine⟨jF,{w' with heap:=w'.heap.setIfInBounds w0.heap.size (.loop {r with state:=.exhausted})},by rw[acu,r3];rfl,?_⟩;have wQ:∀x',x=x'->R'=R->W'=W2.kill W.next->Q x'.to {a with defers:=[{target:=.collected w.heap.size,args:=#[]}]++a.defers} {w' with heap:=w'.heap.setIfInBounds w0.heap.size (.loop {r with state:=.exhausted})}:=by rintro x' rfl rfl rfl;exact hQ σ' _ _ (hR.mono Er.sub) Th t1 Er
    cases jF with
    |none=>
     have:x=.normal/\R'=R/\W'=W2.kill W.next:=by cases st<;>simp at h<;>simp_all
     exact wQ .normal this.1 this.2.1 this.2.2
    |some cc=>
     cases cc<;>first
      |(exfalso;cases st<;>simp at h;done)
      |skip
     ·rename_i id;have:x=.exit id/\R'=R/\W'=W2.kill W.next:=by cases st<;>simp at h<;>simp_all
      exact wpIn_exit (wQ (.exit id) this.1 this.2.1 this.2.2)
     ·have:x=.ret/\R'=R/\W'=W2.kill W.next:=by cases st<;>simp at h<;>simp_all
      exact wpIn_ret (wQ .ret this.1 this.2.1 this.2.2)
  ·rename_i fv l fs cs rM;exfalso;obtain⟨zT,pV,bP,k1,_,_,k4⟩:=hfv.iA;cases k1;rw[rM]at k4;cases k4
end
end
section
variable [aj]
def eD:Nat->List ae->aj.Fr->aj.Fr
 |_,[],R=>R
 |k,v::l,R=>eD (k+1) l (De R k v)
def jZ:List Tmp->List ae->aj.Fr->aj.Fr
 |t::ts,v::l,R=>jZ ts l (De R t v)
 |_,_,R=>R
def zL(P:ag)(W:AW)(R:aj.Fr):List ResultVar->Option (List ae)
 |[]=>some []
 |.tmp t::l=>match zL P W R l with
  |some vs=>some (ch R t::vs)
  |none=>none
 |.cell a t::l=>match gK P W t (ch R a)with
  |some v=>match zL P W R l with
   |some vs=>some (v::vs)
   |none=>none
  |none=>none
def nf(P:ag)(W:AW)(R:aj.Fr)(rs:Array ResultVar):Option ae:=
 match zL P W R rs.toList with
 |some [v]=>some v
 |some vs=>some (.tuple vs.toArray)
 |none=>none
def Aw(nt:Nat):ResultVar->Bool
 |.tmp t=>Nat.blt t nt
 |.cell a _=>Nat.blt a nt
def HQ(ng:List Nat)(fn:dV):Bool:=
 match fn.body with
 |some c=>fI fn.ntmps ng c&&fn.results.toList.all (Aw fn.ntmps)&& !(fn.name== "runtime.NumGoroutine")
 |none=>true
def i9(ng:List Nat)(bad:List Nat):Nat->List dV->Bool
 |_,[]=>true
 |i,fn::l=>(El i bad||HQ ng fn)&&i9 ng bad (i+1) l
def hO(P:ag)(bad:List Nat)(spec call:Callee):Callee:=λf args W=>
 match f with
 |.func (.func i) fs cs=>match El i bad with
  |true=>spec (.func (.func i) fs cs) args W
  |false=>match P.funcs[i]? with
   |some fn=>match fn.body with
    |some c=>match Nat.ble (fs.toList.length+(args.length+cs.toList.length)) fn.ntmps with
     |true=>match bA P call true fn.ntmps c (eD 0 (fs.toList++(args++cs.toList)) aj.blank) W with
      |some (x,R,W')=>match x with
       |.exit _=>none
       |_=>match nf P W' R fn.results with
        |some v=>some (v,W')
        |none=>none
      |none=>none
     |false=>none
    |none=>none
   |none=>none
 |.func (.yield l) fs _=>match W.get l with
  |some (.loop .ready none R nt ps ajb bd)=>match Nat.beq (fs.toList.length+args.length) ps.size with
   |true=>match bA P call false nt ajb (jZ ps.toList (fs.toList++args) R) W with
    |some (.normal,R1,W1)=>match W1.get l with
     |some (.loop .ready Mq R9 HF Is Io H1)=>match bA P call false nt bd R1 (W1.put l (.loop .busy Mq R9 HF Is Io H1))with
      |some (x,_,W2)=>match W2.get l with
       |some (.loop _ _ R8 QD Pu PX Qn)=>match x with
        |.normal=>some (.bool true,W2.put l (.loop .ready none R8 QD Pu PX Qn))
        |x=>some (.bool false,W2.put l (.loop .done x.jump R8 QD Pu PX Qn))
       |_=>none
      |none=>none
     |_=>none
    |_=>none
   |false=>none
  |_=>none
 |_=>none
def Fx(P:ag)(bad:List Nat)(spec:Callee):Nat->Callee
 |0=>λ_ _ _=>none
 |n+1=>hO P bad spec (Fx P bad spec n)
def G4{ng:List Nat}{bad:List Nat}:∀(l:List dV) (k:Nat),i9 ng bad k l=true->∀(i:Nat) (fn:dV),l[i]? =some fn->El (k+i) bad=false->HQ ng fn=true:=by
 intro l;induction l with
 |nil=>intro k _ i fn h;simp at h
 |cons f l ih=>
  intro k h i fn hi hb;simp only[i9,bm,kL]at h;cases i with
  |zero=>
   simp at hi;subst hi;rcases h.1 with h1|h1
   ·simp at hb;rw[h1]at hb;cases hb
   ·exact h1
  |succ i=>simp at hi;exact ih (k+1) h.2 i fn hi (by rw[<-hb];congr 1;omega)
def P7(t:Nat):ch aj.blank t=ai:=aj.uv t
def KC:∀(l:List ae) (k:Nat) (R:aj.Fr) (t:Nat),ch (eD k l R) t=if k<=t/\t<k+l.length then l.getD (t-k) ai else ch R t:=by
 intro l;induction l with
 |nil=>intro k R t;simp[eD];intro h1 h2;omega
 |cons v l ih=>
  intro k R t;simp only[eD,ih,dB];by_cases h:k=t
  ·subst h;rw[bX,oM,qo];simp
  ·rw[n9 _ _ h];by_cases h2:k+1<=t/\t<k+1+l.length
   ·rw[ax h2,oM];obtain⟨j,hj⟩:∃j,t-k=j+1:=⟨t-k-1,by omega⟩;have:t-(k+1)=j:=by omega
    rw[this,hj];simp
   ·rw[ay h2,bX]
section
variable {P:ag} {σ:cm} {W:AW} {w:ap}
def LJ{nt:Nat}{l:List ae}{a:Array ae}(h:LR σ l a.toList)(hn:l.length<=nt):dn nt σ (eD 0 l aj.blank) (a++Array.replicate (nt-a.size) ai):=by
 have dy:l.length=a.size:=by have:=h.1;simpa using this
 refine⟨by simp;omega,λt ht=>?_⟩;rw[KC];by_cases fy:t<l.length
 ·rw[oM];have h1:l[t]? =some l[t]:=cx fy;obtain⟨v',e,hv⟩:=h.get h1;have e1:l.getD (t-0) ai=l[t]:=by simp[fy]
  have e2:(a++Array.replicate (nt-a.size) ai).getD t ai=v':=by
   rw[pm]at e;have:t<a.size:=by omega
   simp[tQ,this];rw[ft this]at e;injection e
  rw[e1,e2];exact hv
 ·rw[bX,P7];have e2:(a++Array.replicate (nt-a.size) ai).getD t ai=ai:=by simp only[pU,tQ];rw[bX];simp[Array.getElem?_replicate];split<;>rfl
  rw[e2];exact .undef
def PN{nt:Nat}:∀(ts:List Tmp) (l l':List ae) (R:aj.Fr) (tm:Array ae),LR σ l l'->ts.all (λt=>Nat.blt t nt)=true->dn nt σ R tm->
 dn nt σ (jZ ts l R) ((ts.zip l').foldl (λtmps (x:Tmp×ae)=>tmps.setIfInBounds x.1 x.2) tm):=by
 intro ts;induction ts with
 |nil=>intro l l' R tm h _ hR;cases l<;>exact hR
 |cons t ts ih=>
  intro l l' R tm h ha hR;cases l with
  |nil=>have:=h.of_nil;subst this;exact hR
  |cons v l=>obtain⟨v',Qw,rfl,hv,hl⟩:=h.of_cons;simp only[fa,bm]at ha;exact ih l Qw _ _ hl ha.2 (hR.set t hv)
def Eg(hW:aX σ W w.heap){t:ah}{x x' v:ae}(h:gK P W t x=some v)(hx:VR σ x x'):
 ∃v',(do loadVar t (<-asAddr x'):Sem ae).run P w=.ok v' w/\VR σ v v':=by
 obtain⟨v',h1,h2⟩:=Al hW h hx;refine⟨v',?_,h2⟩;rw[<-h1];unfold gK at h;split at h
 ·obtain⟨g,hg,hs,rfl⟩:=hx.sK;simp[asAddr,Instr.loadAt,Instr.sureAddr]
 ·cases h
def A7(tmps:Array ae)(r:ResultVar):Sem ae:=
 match r with
 |.tmp t=>pure (tmps.getD t ai)
 |.cell a t=>do loadVar t (<-asAddr (tmps.getD a ai))
def GR(fn:dV)(tmps:Array ae):results fn tmps=(do let vs<-fn.results.mapM (A7 tmps);pure (if h:vs.size=1 then vs[0]else .tuple vs)):=rfl
def Ln(hW:aX σ W w.heap){nt:Nat}{R:aj.Fr}{tmps:Array ae}(hR:dn nt σ R tmps):∀(rs:List ResultVar) (vs:List ae),rs.all (Aw nt)=true->zL P W R rs=some vs->
 ∃zb,LR σ vs zb/\(rs.mapM (A7 tmps)).run P w=.ok zb w:=by
 intro rs;induction rs with
 |nil=>intro vs _ h;injection h with h;subst h;exact⟨[],.nil,by simp⟩
 |cons r rs ih=>
  intro vs gJ h;simp only[fa,bm]at gJ;cases r with
  |tmp t=>
   unfold zL at h;split at h
   ·rename_i vs0 h0;injection h with h;subst h;obtain⟨zb,k1,k2⟩:=ih vs0 gJ.2 h0;refine⟨_,.cons (hR.2 t (by simpa[Aw,gO]using gJ.1)) k1,?_⟩;have h1:(A7 tmps (.tmp t)).run P w=.ok (tmps.getD t ai) w:=rfl;rw[List.mapM_cons,bJ,h1,bG,bJ,k2,bG];rfl
   ·cases h
  |cell a t=>
   unfold zL at h;split at h
   ·rename_i v hv;split at h
    ·rename_i vs0 h0;injection h with h;subst h;obtain⟨zb,k1,k2⟩:=ih vs0 gJ.2 h0;obtain⟨v',k3,k4⟩:=Eg hW hv (hR.2 a (by simpa[Aw,gO]using gJ.1));refine⟨_,.cons k4 k1,?_⟩;have h1:(A7 tmps (.cell a t)).run P w=.ok v' w:=k3;rw[List.mapM_cons,bJ,h1,bG,bJ,k2,bG];rfl
    ·cases h
   ·cases h
def Bz(hW:aX σ W w.heap){fn:dV}{R:aj.Fr}{tmps:Array ae}{v:ae}(gJ:fn.results.toList.all (Aw fn.ntmps)=true)(hR:dn fn.ntmps σ R tmps)(h:nf P W R fn.results=some v):
 ∃v',(results fn tmps).run P w=.ok v' w/\VR σ v v':=by
 unfold nf at h;have key:∀vs,zL P W R fn.results.toList=some vs->∃zb,LR σ vs zb/\(results fn tmps).run P w=.ok (if h:zb.toArray.size=1 then zb.toArray[0]else .tuple zb.toArray) w:=by intro vs hvs;obtain⟨zb,k1,k2⟩:=Ln hW hR _ _ gJ hvs;refine⟨zb,k1,?_⟩;rw[GR,bJ,Array.mapM_eq_mapM_toList,Sem.run_map,k2];rfl
 split at h
 ·rename_i u hu;injection h with h;subst h;obtain⟨zb,k1,k2⟩:=key _ hu;obtain⟨v',l',rfl,k3,k4⟩:=k1.of_cons;have:=k4.of_nil;subst this;exact⟨v',by rw[k2];simp,k3⟩
 ·rename_i vs dQ hvs;injection h with h;subst h;obtain⟨zb,k1,k2⟩:=key _ hvs;refine⟨.tuple zb.toArray,?_,VR.tuple' (by simpa using k1)⟩;rw[k2];have:zb.toArray.size≠1:=by
   intro e;have e2:vs.length=1:=by have:=k1.1;simp at e;omega
   match vs,e2 with
   |[u],_=>exact dQ u rfl
  rw[dif_neg this]
 ·cases h
end
section
variable {P:ag} {σ σ0:cm} {W W0:AW} {w w0:ap}
def dE.other(he:dE σ0 W0 w0 σ W w){r:Nat}(hr:w0.heap.size<=r){x y:Obj}(hy:w.heap[r]? =some y)(hx:∀c t fr,x≠ .cells c t fr)(Lt:∀c t fr,y≠ .cells c t fr):dE σ0 W0 w0 σ W (w.putObj r x):=
 ⟨he.sub,he.ro,by simpa[World.putObj]using he.size,he.os,he.tape,he.output,λB hB hm=>by rw[World.putObj_heap_other (by omega)];exact he.dD B hB hm,he.ghost,he.grow⟩
def U9{fn:dV}{R:aj.Fr}{tmps:Array ae}{v:ae}(gJ:fn.results.toList.all (Aw fn.ntmps)=true)(hR:dn fn.ntmps σ R tmps)(h:nf P W R fn.results=some v):
 ∀(ds:List cH) (w:ap),mn w0.heap.size σ w ds->aX σ W w.heap->dE σ0 W0 w0 σ W w->
  LeavesInM (FE none) 0 P fn tmps (λe w'=>∃v',e=.returned v'/\∃σ',VR σ' v v'/\aX σ' W w'.heap/\dE σ0 W0 w0 σ' W w') ds .returning w:=by
 intro ds;induction ds with
 |nil=>intro w _ hW he;obtain⟨v',k1,k2⟩:=Bz hW gJ hR h;exact⟨v',k1,v',rfl,σ,k2,hW,he⟩
 |cons d ds ih=>
  rintro w ⟨⟨r,e1,e2,e3,e4,e5⟩,PD⟩ hW he;refine⟨by simp,.inl ⟨r,w.putObj r (.deferred none),by rw[e1],run_takeDeferred e3,ih _ ?_ (hW.other e4 _) (he.other e2 e3 (λ_ _ _ e=>by cases e) (λ_ _ _ e=>by cases e))⟩⟩;have:∀{ds:List cH},(∀d'∈ds,∀r',d'.target=.collected r'->r'≠r)->mn w0.heap.size σ w ds->mn w0.heap.size σ (w.putObj r (.deferred none)) ds:=by
   intro ds;induction ds with
   |nil=>intro _ _;trivial
   |cons d ds ih=>rintro dQ ⟨⟨r',a1,a2,a3,a4,a5⟩,PD⟩;exact⟨⟨r',a1,a2,by rw[World.putObj_heap_other (dQ d (by simp) r' (by rw[a1]))];exact a3,a4,a5⟩,ih (λd' fx=>dQ d' (by simp[fx])) PD⟩
  exact this e5 PD
end
end
section
variable [aj]
def Gt(l:Nat):(FE none).inRound l=FE (some l):=rfl
def dJ{P:ag}{f:fo}{fn:dV}{c:ba}(hf:P.funcs[f]? =some fn)(mR:(fn.name== "runtime.NumGoroutine")=false)(hb:fn.body=some c)(args:Array ae)(w:ap):
 (callFunc f args).run P w=.ok (.enter f args) w:=by
 have h1:fn.name≠ "runtime.NumGoroutine" :=by simpa using mR
 simp[callFunc,hf,h1,hb]
def vP{P:ag}(hm:P.follows .mixedOrders=true){ng:List Nat}(HU:ng=aj.ng){bad:List Nat}(hP:i9 ng bad 0 P.funcs.toList=true){spec:Callee}(hs:bB P ng spec){call:Callee}(ih:bB P ng call):
 bB P ng (hO P bad spec call):=by
 intro f args W v W' h σ w f' cw hW hG hf bY
 unfold hO at h
 split at h
 ·
  rename_i i fs cs;split at h
  ·exact hs _ _ _ _ _ h σ w f' cw hW hG hf bY
  rename_i adS;split at h;case h_2=>cases h
  rename_i fn Ee;split at h;case h_2=>cases h
  rename_i c L1;split at h;case h_2=>cases h
  rename_i dy;split at h;case h_2=>cases h
  rename_i x R W1 XS;have OW:HQ ng fn=true:=G4 _ _ hP i fn (by rw[pm];exact Ee) (by simpa using adS);unfold HQ at OW;rw[L1]at OW;simp only[bm,sa]at OW;obtain⟨⟨hco,aeC⟩,mR⟩:=OW;obtain⟨zT,pV,bP,zA,MO,mI,rfl⟩:=hf.iA;cases zA;have hx:(∀id,x≠ .exit id)/\∃v0,nf P W1 R fn.results=some v0/\v0=v/\W1=W':=by
   cases x with
   |exit id=>cases h
   |normal=>
    refine⟨λid e=>X.noConfusion e,?_⟩;simp only at h;split at h
    ·rename_i v0 K5;injection h with h;injection h with h1 h2;exact⟨v0,K5,h1,h2⟩
    ·cases h
   |ret=>
    refine⟨λid e=>X.noConfusion e,?_⟩;simp only at h;split at h
    ·rename_i v0 K5;injection h with h;injection h with h1 h2;exact⟨v0,K5,h1,h2⟩
    ·cases h
  obtain⟨hxe,v0,K5,rfl,rfl⟩:=hx;have oP:LR σ (fs.toList++(args++cs.toList)) (pV++cw.toArray++bP).toList:=by have h1:=(MO.append (bY.append mI));simpa[pM]using h1
  have Zh:(fs.toList++(args++cs.toList)).length<=fn.ntmps:=by have:=Nat.le_of_ble_eq_true dy;simpa using this
  refine⟨dJ Ee mR L1 _ w,?_⟩;refine callsIn_of_wp_marks Ee L1 trivial ?_;refine pP hm HU ih (n0:=w.heap.size) (λ_=>rfl) c hco x _ _ _ _ XS σ _ w _ hW hG (LJ oP Zh) trivial (aS _) λσ' a' w' k1 k2 k3 k4=>?_
  have hl:=U9 aeC k1 K5 a'.defers w' k2 k3 k4;cases x with
  |exit id=>exact absurd rfl (hxe id)
  |normal=>exact hl
  |ret=>exact hl
 ·
  rename_i l fs cs;split at h;case h_2=>cases h
  rename_i R nt ps ajb bd dL;split at h;case h_2=>cases h
  rename_i dy;split at h;case h_2=>cases h
  rename_i R1 W1 TV;split at h;case h_2=>cases h
  rename_i Mq R9 HF Is Io H1 Q0;split at h;case h_2=>cases h
  rename_i x R2 W2 Tb;split at h;case h_2=>cases h
  rename_i WV pd8 R8 QD Pu PX Qn QY;obtain⟨zT,pV,bP,zA,MO,mI,rfl⟩:=hf.iA;cases zA with
  |yield _ g hg=>
  obtain⟨g1,g2,r,r1,r2,r3,r4,r5,r6,r7,⟨hG1,S2⟩,⟨hG2,Ei⟩,hps⟩:=hW.obj _ _ _ dL hg;have oP:LR σ (fs.toList++args) (pV++cw.toArray).toList:=by have h1:=MO.append bY;simpa using h1
  have mK:(pV++cw.toArray).size=r.params.size:=by have h1:=oP.1;have h2:fs.toList.length+args.length=ps.size:=uZ dy;rw[dj,h2,Array.length_toList]at h1;rw[r5];exact h1.symm
  refine⟨r.fn,_,r.assign,r.body,run_yield r1 mK,?_⟩;rw[r6,r7];refine roundIn_of_wpIn trivial ?_;have hR0:dn nt σ (jZ ps.toList (fs.toList++args) R) ((r.params.zip (pV++cw.toArray)).foldl (λtmps (x:Tmp×ae)=>tmps.setIfInBounds x.1 x.2) r.tmps):=by have:=PN ps.toList _ _ R r.tmps oP hps r4;rw[r5,<-Array.foldl_toList,Array.toList_zip];exact this
  rw[<-HU]at S2 Ei;rw[Gt];refine pP hm HU ih (n0:=w.heap.size) (ro:=some g.B) (λe=>by cases e) ajb S2 .normal _ _ _ _ TV σ _ w _ hW hG hR0 trivial (aS _) λσ1 a1 w1 k1 k2 k3 k4=>?_
  have hg1:σ1 l=some g:=k4.sub _ _ hg;obtain⟨_,_,rr,q1,q2,q3,q4,q5,q6,q7,q8,q9,q10⟩:=k3.obj _ _ _ Q0 hg1;have WW:g.s=0/\g.e=1:=⟨g1,g2⟩;obtain⟨s1,s2⟩:=k3.setObj (w:=w1) (o':=.loop .busy Mq R9 HF Is Io H1) (x:=.loop {rr with state:=.busy}) Q0 (λ_=>by simp) hg1 WW (λc t fr e=>by rw[q1]at e;cases e)
   ⟨g1,g2,{rr with state:=.busy},by simp[(k3.lH _ _ hg1).2],rfl,q3,q4,q5,q6,q7,q8,q9,q10⟩
  refine⟨_,run_beginRound q1 q2,?_⟩;refine pP hm HU ih (n0:=w.heap.size) (ro:=some g.B) (λe=>by cases e) bd Ei x _ _ _ _ Tb σ1 a1 (w1.putObj g.B (.loop {rr with state:=.busy})) _ s1 (hG.mono k4.sub) k1 (k2.ext s2) (by have:=k4.size;simpa using this) λσ2 a2 w2 _ _ t3 t4=>?_
  have D3:σ2 l=some g:=t4.sub _ _ hg1;obtain⟨_,_,r8,u1,u2,u3,u4,u5,u6,u7,u8,u9,u10⟩:=t3.obj _ _ _ QY D3;have wQ:∀(jump:Option ba) (Pt:LoopState),Pt=(if jump.isNone then .ready else .done)->v=.bool jump.isNone->W'=W2.put l (.loop Pt jump R8 QD Pu PX Qn)->
   ∃v' w',(Instr.endRound g.B jump).run P w2=.ok v' w'/\∃v'',Ending.returned v'=.returned v''/\∃σ',VR σ' v v''/\aX σ' W' w'.heap/\dE σ W w σ' W' w':=by
   intro jump Pt my hv T7;subst my;subst hv;subst T7;obtain⟨z1,z2⟩:=t3.setObj (w:=w2) (o':=.loop (if jump.isNone then .ready else .done) jump R8 QD Pu PX Qn) (x:=.loop {r8 with state:=if jump.isNone then .ready else .done,pending:=jump}) QY (λ_=>by simp) D3 WW (λc t fr e=>by rw[u1]at e;cases e)
    ⟨g1,g2,{r8 with state:=if jump.isNone then .ready else .done,pending:=jump},by simp[(t3.lH _ _ D3).2],rfl,rfl,u4,u5,u6,u7,u8,u9,u10⟩
   exact⟨_,_,run_endRound jump u1,_,rfl,σ2,.bool _,z1,((k4.trans s2).trans t4).trans z2⟩
  cases x with
  |normal=>simp only at h;injection h with h;injection h with h1 h2;exact wQ none .ready rfl h1.symm h2.symm
  |exit id=>simp only at h;injection h with h;injection h with h1 h2;exact wQ (some (.exit id)) .done rfl h1.symm h2.symm
  |ret=>simp only at h;injection h with h;injection h with h1 h2;exact wQ (some .ret) .done rfl h1.symm h2.symm
 ·cases h
def AF{P:ag}(hm:P.follows .mixedOrders=true){ng:List Nat}(HU:ng=aj.ng){bad:List Nat}(hP:i9 ng bad 0 P.funcs.toList=true){spec:Callee}(hs:bB P ng spec):
 ∀n,bB P ng (Fx P bad spec n)
 |0=>λf args W v W' h=>by cases h
 |n+1=>vP hm HU hP hs (AF hm HU hP hs n)
end
section
variable [aj]
def iy(P:ag)(ok:Bool)(s:Sem Next):Option ae:=
 if ok then match sC (bI P s)with
  |some v=>if a7 v then some v else none
  |none=>none
 else none
def i8(v:ae)(W:AW):Option (ae×AW):=some (v,W)
def bU(c a b:ae)(W:AW):Option (ae×AW):=match c with
 |.bool true=>some (a,W)
 |.bool false=>some (b,W)
 |_=>none
def bh(P:ag)(t:ah)(W:AW):Option (ae×AW):=match iu P t with
 |some z=>some (.pointer (some ⟨W.next,0,none⟩),W.add (jL t z.cells.toList))
 |none=>none
def cN(x:ae)(W:AW):Option (ae×AW):=some (.pointer (some ⟨W.next,0,none⟩),W.add (.cells x.cells.toList))
def TL(P:ag)(t:ah)(vs:List (Nat×ae)):Option ae:=
 match iu P t,P.underlying t with
 |some z,some (.struct fs)=>match m8 P fs.toList with
  |some pl=>(wh (pl.toArray[·]?) z.cells vs).map .agg
  |none=>none
 |some z,some (.array _ e)=>match jq P e with
  |some n=>(wh (λi=>some (i*n,n)) z.cells vs).map .agg
  |none=>none
 |_,_=>none
def cn(P:ag)(t:ah)(vs:List (Nat×ae))(W:AW):Option (ae×AW):=(TL P t vs).map λv=>(v,W)
def aC(P:ag)(t:ah)(len:Nat)(vs:List (Nat×ae))(W:AW):Option (ae×AW):=
 match P.underlying t with
 |some (.slice e)=>match jq P e,iu P e with
  |some n,some z=>
   if len*n<=16777216/\len<eS/\(Nat.beq z.cells.size n&&z.cells.toList.all bZ)=true then
    match wh (λi=>some (i*n,n)) (zN z.cells.toList len).toArray vs with
    |some c=>some (Value.slice (some ⟨W.next,0,none⟩) len len,W.add (.cells c.toList))
    |none=>none
   else none
  |_,_=>none
 |_=>none
def ic(P:ag)(t:ah)(a:ae)(W:AW):Option (ae×AW):=(gK P W t a).map λv=>(v,W)
def vf(W:AW)(b off:Nat)(vs:List ae):Option AW:=match W.get b with
 |some (.cells cs)=>(match xn cs off vs with
  |some l=>some (W.put b (.cells l))
  |none=>none)
 |_=>none
def yK(W:AW)(b off:Nat)(vs:List ae):vf W b off vs=match W.get b with
 |some (.cells cs)=>if off+vs.length<=cs.length/\vs.all one=true then some (W.put b (.cells (fh cs off vs)))else none
 |_=>none:=by
 unfold vf;split
 ·rename_i cs mI;rw[vo];by_cases h:off+vs.length<=cs.length/\vs.all one=true
  ·rw[ax h,ax h]
  ·rw[ay h,ay h]
 ·rfl
def JE{W W':AW}{b off:Nat}{vs:List ae}(h:vf W b off vs=some W'):jQ W b off vs=some W':=by
 unfold vf at h;unfold jQ;split at h
 ·rename_i cs mI;rw[mI];exact h
 ·cases h
def tG(P:ag)(W:AW)(t:ah)(x v:ae):Option AW:=
 match x with
 |.pointer (some a)=>match jq P t with
  |some n=>if v.cells.size=n then vf W a.block a.off v.cells.toList else none
  |none=>none
 |_=>none
def GD{P:ag}{W W':AW}{t:ah}{x v:ae}(h:tG P W t x v=some W'):rT P W t x v=some W':=by
 unfold tG at h;unfold rT;split at h
 ·split at h
  ·rename_i n hn;simp only[hn];split at h
   ·rename_i hc;rw[ax hc];exact JE h
   ·cases h
  ·cases h
 ·cases h
def UX(P:ag)(t:ah)(a x:ae)(W:AW):Option (ae×AW):=(tG P W t a x).map λW'=>(ai,W')
def aR(x:ae)(W:AW):Option (ae×AW):=match x with
 |.pointer (some a)=>some (.pointer (some a),W)
 |.func (.func f) a b=>some (.func (.func f) a b,W)
 |.func (.yield l) a b=>some (.func (.yield l) a b,W)
 |.iface t v=>some (.iface t v,W)
 |_=>none
def Wd:Bool->ao
 |true=>.const ai
 |false=>.tmp 0
def im:ao->Bool:=Operand.rec (λ_=>false) (λ_=>true) (λ_=>false) (λ_=>false)
def zX(op:BinOp)(t:ah)(x y:ao)(a b:ae):eqGuard op t x y a b=eqGuard op t (Wd (im x)) (Wd (im y)) a b:=by cases x<;>cases y<;>rfl
def az(P:ag)(op:BinOp)(t:ah)(a b:Bool)(vx vy:ae)(W:AW):Option (ae×AW):=
 match lK P W op t vx vy with
 |some v=>some (v,W)
 |none=>(iy P (a7 vx&&(a7 vy&&true)) (do pure (.value (<-(do eqGuard op t (Wd a) (Wd b) vx vy;binOp op t vx vy))))).map λv=>(v,W)
def IE(P:ag)(op:UnOp)(x:ae)(W:AW):Option (ae×AW):=
 (iy P (a7 x&&true) (do pure (.value (<-Op.unary op x)))).map λv=>(v,W)
def wg(P:ag)(s d:ah)(x:ae)(W:AW):Option (ae×AW):=
 (xP P W s d x (iy P (a7 x&&true) (do pure (.value (<-convert s d x))))).map λv=>(v,W)
def MZ(P:ag)(t:ah)(x:ae)(W:AW):Option (ae×AW):=match P.underlying t with
 |some (.interface _)=>none
 |some _=>some (.iface t x,W)
 |none=>none
def sP(fn:Fn)(first gd:Array ae)(W:AW):Option (ae×AW):=match fn with
 |.func f=>some (.func (.func f) first gd,W)
 |_=>none
def kI(P:ag)(t:ah)(r:Option ae)(W:AW):Option (ae×AW):=match r with
 |none=>some (Value.map (some W.next),W.add (.map [] 0))
 |some h=>match P.underlying t,h with
  |some (.map _ _),.int _ _=>some (Value.map (some W.next),W.add (.map [] 0))
  |_,_=>none
def xu(P:ag)(t:ah)(l c:ae)(W:AW):Option (ae×AW):=
 match P.underlying t with
 |some (.slice e)=>match jq P e,iu P e,(P.info? e).map (·.bytes),l,c with
  |some n,some z,some bytes,.int _ (.ofNat l),.int _ (.ofNat c)=>
   if l<=c/\c<9223372036854775808/\c*bytes<=281474976710656/\(hX z (c*n)).toList.all bZ=true then
    some (Value.slice (some ⟨W.next,0,none⟩) l c,W.add (.cells (hX z (c*n)).toList))
   else none
  |_,_,_,_,_=>none
 |_=>none
def dX(P:ag)(t:ah)(x:ae)(lo hi mx:Option ae)(W:AW):Option (ae×AW):=
 match jS P t x lo hi mx with
 |some v=>some (v,W)
 |none=>(iy P ((x::(lo.toList++(hi.toList++mx.toList))).all a7) (do pure (.value (<-Instr.sliceAt t x lo hi mx)))).map λv=>(v,W)
def G8(P:ag)(s:ah)(x:ae)(f:Nat)(W:AW):Option (ae×AW):=match P.underlying s,x with
 |some (.struct fs),.pointer (some a)=>match fs[f]? with
  |some fl=>match jq P fl.type with
   |some (_+1)=>some (.pointer (some (a.add fl.offset)),W)
   |_=>none
  |none=>none
 |_,_=>none
def T1(P:ag)(t:ah)(x:ae)(f:Nat)(W:AW):Option (ae×AW):=match P.underlying t,x with
 |some (.struct fs),.agg cs=>match fs[f]? with
  |some fl=>(sE P fl.type cs fl.offset).map λv=>(v,W)
  |none=>none
 |_,_=>none
def GC(P:ag)(t:ah)(x i:ae)(W:AW):Option (ae×AW):=match P.underlying t,x,iX i with
 |some (.slice e),.slice (some a) len _,some n=>match jq P e with
  |some z=>if n<len then some (.pointer (some (a.add (n*z))),W)else none
  |none=>none
 |some (.array len e),.pointer (some a),some n=>match jq P e with
  |some z=>if n<len then some (.pointer (some (a.add (n*z))),W)else none
  |none=>none
 |_,_,_=>none
def fR(P:ag)(t:ah)(x i:ae)(W:AW):Option (ae×AW):=match P.underlying t,x,iX i with
 |some (.array len e),.agg cs,some n=>match jq P e with
  |some z=>if n<len then(sE P e cs (n*z)).map λv=>(v,W)else none
  |none=>none
 |_,_,_=>(iy P (a7 x&&(a7 i&&true)) (do pure (.value (<-Instr.index t x i)))).map λv=>(v,W)
def fO(P:ag)(t:ah)(m k:ae)(ok:Bool)(W:AW):Option (ae×AW):=(jv P W t m k ok).map λv=>(v,W)
def ge(P:ag)(t:ah)(m k v:ae)(W:AW):Option (ae×AW):=(gR P W t m k v).map λW'=>(ai,W')
def au(x:ae)(i:Nat)(W:AW):Option (ae×AW):=match x with
 |.tuple vs=>(vs[i]?).map λv=>(v,W)
 |_=>none
def Pm(P:ag)(x:ae)(t:ah)(ok:Bool)(W:AW):Option (ae×AW):=match P.underlying t,x with
 |some (.interface _),_=>none
 |some _,.iface u v=>if u=t then some (if ok then .tuple #[v,.bool true]else v,W)else none
 |_,_=>none
def ur(P:ag)(t:ah)(x:ae)(W:AW):Option (ae×AW):=match P.underlying t,x with
 |some .string,.string s=>some (Value.pointer (some ⟨W.next,0,none⟩),W.add (.jy s 0))
 |_,_=>none
def Nv(it:ae)(W:AW):Option (ae×AW):=match it with
 |.pointer (some ⟨b,0,_⟩)=>match W.get b with
  |some (.jy s pos)=>if pos<s.size then some (.tuple #[.bool true,goInt pos,.int .i32 (Utf8.decode s pos).1],W.put b (.jy s (pos+(Utf8.decode s pos).2)))else some (.tuple #[.bool false],W)
  |_=>none
 |_=>none
def aD(P:ag)(b:Builtin)(ts:Array ah)(ty:ah)(cf:Array Bool)(args:List ae)(W:AW):Option (ae×AW):=
 match b,args with
 |.len,[.slice _ n _]=>match(ts[0]?).bind P.underlying with
  |some (.slice _)=>some (goInt n,W)
  |_=>none
 |.len,[.map none]=>match(ts[0]?).bind P.underlying with
  |some (.map _ _)=>some (goInt 0,W)
  |_=>none
 |.len,[.map (some r)]=>match(ts[0]?).bind P.underlying,W.get r with
  |some (.map _ _),some (.map es _)=>some (goInt es.length,W)
  |_,_=>none
 |.append,[s,x]=>tR P W ts s x
 |.copy,[d,x]=>If P W ts d x
 |.clear,[x]=>(Ci P W ts x).map λW'=>(.tuple #[],W')
 |.delete,[m,k]=>(ku P W ts m k).map λW'=>(.tuple #[],W')
 |.unsafeSliceData,[x]=>(ox x).map λv=>(v,W)
 |.unsafeString,[p,n]=>jr P W ts p n
 |_,_=>(iy P (args.all a7) (builtin b ts ty cf args.toArray)).map λv=>(v,W)
def O7(P:ag)(call:Callee)(r:ae)(name:String)(args:List ae)(W:AW):Option (ae×AW):=match r with
 |.iface t v=>match na P t name with
  |some f=>call (.func (.func f) #[] #[]) (v::args) W
  |none=>none
 |_=>none
def Ra(x:ao)(P:ag)(call:Callee)(o:am)(R:aj.Fr)(W:AW):Option (ae×AW):=i8 (aw R x) W
def ZU(c a b:ao)(P:ag)(call:Callee)(o:am)(R:aj.Fr)(W:AW):Option (ae×AW):=bU (aw R c) (aw R a) (aw R b) W
def VK(t:ah)(P:ag)(call:Callee)(o:am)(R:aj.Fr)(W:AW):Option (ae×AW):=bh P t W
def ael(t:ah)(x:ao)(P:ag)(call:Callee)(o:am)(R:aj.Fr)(W:AW):Option (ae×AW):=cN (aw R x) W
def SW(t:ah)(ps:Array (Nat×ao))(P:ag)(call:Callee)(o:am)(R:aj.Fr)(W:AW):Option (ae×AW):=cn P t (kV R ps) W
def DA(t:ah)(n:Nat)(ps:Array (Nat×ao))(P:ag)(call:Callee)(o:am)(R:aj.Fr)(W:AW):Option (ae×AW):=aC P t n (kV R ps) W
def Qh(_t:ah)(_m _k _v:ao)(P:ag)(call:Callee)(o:am)(R:aj.Fr)(W:AW):Option (ae×AW):=none
def XD(t:ah)(a:ao)(P:ag)(call:Callee)(o:am)(R:aj.Fr)(W:AW):Option (ae×AW):=ic P t (aw R a) W
def T8(t:ah)(a x:ao)(P:ag)(call:Callee)(o:am)(R:aj.Fr)(W:AW):Option (ae×AW):=UX P t (aw R a) (aw R x) W
def aat(_g:Nat)(P:ag)(call:Callee)(o:am)(R:aj.Fr)(W:AW):Option (ae×AW):=none
def IR(x:ao)(P:ag)(call:Callee)(o:am)(R:aj.Fr)(W:AW):Option (ae×AW):=aR (aw R x) W
def Ut(op:BinOp)(t:ah)(x y:ao)(yt:ah)(P:ag)(call:Callee)(o:am)(R:aj.Fr)(W:AW):Option (ae×AW):=az P op t (im x) (im y) (aw R x) (aw R y) W
def aa9(op:UnOp)(t:ah)(x:ao)(P:ag)(call:Callee)(o:am)(R:aj.Fr)(W:AW):Option (ae×AW):=IE P op (aw R x) W
def Nc(s d:ah)(x:ao)(P:ag)(call:Callee)(o:am)(R:aj.Fr)(W:AW):Option (ae×AW):=wg P s d (aw R x) W
def kTO(_d:ah)(_x:ao)(P:ag)(call:Callee)(o:am)(R:aj.Fr)(W:AW):Option (ae×AW):=none
def yd(t:ah)(x:ao)(P:ag)(call:Callee)(o:am)(R:aj.Fr)(W:AW):Option (ae×AW):=MZ P t (aw R x) W
def Ji(fn:Fn)(first gd:Array ao)(P:ag)(call:Callee)(o:am)(R:aj.Fr)(W:AW):Option (ae×AW):=sP fn (first.map (aw R)) (gd.map (aw R)) W
def L3(t:ah)(r:Option ao)(P:ag)(call:Callee)(o:am)(R:aj.Fr)(W:AW):Option (ae×AW):=kI P t (r.map (aw R)) W
def FP(t:ah)(l c:ao)(P:ag)(call:Callee)(o:am)(R:aj.Fr)(W:AW):Option (ae×AW):=xu P t (aw R l) (aw R c) W
def UB(t:ah)(x:ao)(lo hi mx:Option ao)(P:ag)(call:Callee)(o:am)(R:aj.Fr)(W:AW):Option (ae×AW):=dX P t (aw R x) (lo.map (aw R)) (hi.map (aw R)) (mx.map (aw R)) W
def FN(s:ah)(x:ao)(f:Nat)(P:ag)(call:Callee)(o:am)(R:aj.Fr)(W:AW):Option (ae×AW):=G8 P s (aw R x) f W
def Vx(t:ah)(x:ao)(f:Nat)(P:ag)(call:Callee)(o:am)(R:aj.Fr)(W:AW):Option (ae×AW):=T1 P t (aw R x) f W
def GX(t:ah)(x i:ao)(P:ag)(call:Callee)(o:am)(R:aj.Fr)(W:AW):Option (ae×AW):=GC P t (aw R x) (aw R i) W
def VD(t:ah)(x i:ao)(P:ag)(call:Callee)(o:am)(R:aj.Fr)(W:AW):Option (ae×AW):=fR P t (aw R x) (aw R i) W
def Pd(t:ah)(m k:ao)(ok:Bool)(P:ag)(call:Callee)(o:am)(R:aj.Fr)(W:AW):Option (ae×AW):=fO P t (aw R m) (aw R k) ok W
def F3(t:ah)(m k v:ao)(P:ag)(call:Callee)(o:am)(R:aj.Fr)(W:AW):Option (ae×AW):=ge P t (aw R m) (aw R k) (aw R v) W
def ad7(_t:ah)(_m _k:ao)(P:ag)(call:Callee)(o:am)(R:aj.Fr)(W:AW):Option (ae×AW):=none
def YJ(_t:ah)(_m _s _v:ao)(P:ag)(call:Callee)(o:am)(R:aj.Fr)(W:AW):Option (ae×AW):=none
def SL(t:ah)(x:ao)(P:ag)(call:Callee)(o:am)(R:aj.Fr)(W:AW):Option (ae×AW):=ur P t (aw R x) W
def Zu(it:ao)(s:Bool)(P:ag)(call:Callee)(o:am)(R:aj.Fr)(W:AW):Option (ae×AW):=match s with
 |true=>Nv (aw R it) W
 |false=>none
def kO(_it:ao)(P:ag)(call:Callee)(o:am)(R:aj.Fr)(W:AW):Option (ae×AW):=none
def E1(x:ao)(_t a:ah)(ok:Bool)(P:ag)(call:Callee)(o:am)(R:aj.Fr)(W:AW):Option (ae×AW):=Pm P (aw R x) a ok W
def Mo(x:ao)(i:Nat)(P:ag)(call:Callee)(o:am)(R:aj.Fr)(W:AW):Option (ae×AW):=au (aw R x) i W
def ZN(c:Call)(P:ag)(call:Callee)(o:am)(R:aj.Fr)(W:AW):Option (ae×AW):=
 match c.callee with
 |.builtin b=>aD P b c.argTypes o.type (c.args.map im) (c.args.toList.map (aw R)) W
 |.value f=>call (aw R f) (c.args.toList.map (aw R)) W
 |.invoke r name=>O7 P call (aw R r) name (c.args.toList.map (aw R)) W
def kC(_c:Call)(P:ag)(call:Callee)(o:am)(R:aj.Fr)(W:AW):Option (ae×AW):=none
def kOO(_c _x:ao)(P:ag)(call:Callee)(o:am)(R:aj.Fr)(W:AW):Option (ae×AW):=none
def abc(_t:ah)(_c:ao)(_ok:Bool)(P:ag)(call:Callee)(o:am)(R:aj.Fr)(W:AW):Option (ae×AW):=none
def Ph(_cs:Array SelectCase)(_bl:Bool)(P:ag)(call:Callee)(o:am)(R:aj.Fr)(W:AW):Option (ae×AW):=none
def adQ:Op->ag->Callee->am->aj.Fr->AW->Option (ae×AW):=
 Op.rec (motive:=λ_=>ag->Callee->am->aj.Fr->AW->Option (ae×AW)) Ra Ra ZU VK ael SW DA Qh XD T8 aat aat IR Ut aa9 Nc kTO yd Ji L3 kTO FP UB FN Vx GX VD Pd F3 ad7 YJ SL Zu kO E1 Mo ZN kC kC kO kOO abc Ph
def OS(P:ag)(call:Callee)(o:am)(R:aj.Fr)(W:AW):Option (ae×AW):=adQ o.op P call o R W
def qp{P:ag}{R:aj.Fr}{o:am}(hs:qu o.op=true):fZ P R o=iy P (o.op.operands.toList.all λx=>a7 (aw R x)) (execOp (aw R) o):=by unfold fZ iy;rw[hs,nW];rfl
def all_map{α β:Type}(f:α->β)(p:β->Bool)(l:List α):(l.map f).all p=l.all λx=>p (f x):=by rw[List.all_map];rfl
def Fa(P:ag)(call:Callee)(dst:Option Tmp)(b:Builtin)(args:Array ao)(ts:Array ah)(ty:ah)(pos:String)(after:Array Edge)(guard:Option (Nat×Bool))(R:aj.Fr)(W:AW):
 aD P b ts ty (args.map im) (args.toList.map (aw R)) W=fS P ⟨dst,.call ⟨.builtin b,args,ts⟩,ty,pos,after,guard⟩ b ts (args.toList.map (aw R)) R W:=by
 have hf:iy P ((args.toList.map (aw R)).all a7) (builtin b ts ty (args.map im) (args.toList.map (aw R)).toArray)=fZ P R ⟨dst,.call ⟨.builtin b,args,ts⟩,ty,pos,after,guard⟩:=by
  rw[qp rfl];have h1:((args.toList.map (aw R)).all a7)=((Op.call {callee:=Callee.builtin b,args:=args,argTypes:=ts}).operands.toList.all λx=>a7 (aw R x)):=by
   rw[all_map];have:(Op.call {callee:=.builtin b,args:=args,argTypes:=ts}).operands=args:=by simp[Op.operands,Call.operands]
   rw[this]
  have h2:builtin b ts ty (args.map im) (args.toList.map (aw R)).toArray=execOp (aw R) ⟨dst,.call ⟨.builtin b,args,ts⟩,ty,pos,after,guard⟩:=by
   have h4:args.map im=args.map (λ|.const _=>true|_=>false):=by congr 1;funext x;cases x<;>rfl
   have h3:(args.toList.map (aw R)).toArray=args.map (aw R):=by apply mA.1;simp
   rw[h4,h3];symm;simp[execOp,resolve,invoke];rfl
  rw[h1,h2]
 unfold aD fS;rw[hf];rfl
def It:Op->Bool
 |.store .. =>true
 |_=>false
def Uu(P:ag)(call:Callee)(o:am)(R:aj.Fr)(W:AW)(hs:It o.op=false):OS P call o R W=mE P call o R W:=by
 rw[qt];obtain⟨dst,op,type,pos,after,guard⟩:=o;cases op with
 |store t a x=>cases hs
 |pick c a b=>rfl
 |alloc t=>show bh P t W=_;(simp only[fg,zW,bh,AW.cF];try rfl)
 |box t x=>show cN (aw R x) W=_;simp only[fg,zW,cN,AW.cF]
 |buildSlice t len ps=>show aC P t len (kV R ps) W=_;(simp only[fg,zW,aC,g9,AW.cF];try rfl)
 |binOp op t x y yt=>show az P op t (im x) (im y) (aw R x) (aw R y) W=_;simp only[fg,zW,az];rw[qp rfl,<-zX];rfl
 |unOp op t x=>show IE P op (aw R x) W=_;simp only[fg,zW,IE];rw[qp rfl];rfl
 |convert s d x=>show wg P s d (aw R x) W=_;simp only[fg,zW,wg];rw[qp rfl];rfl
 |makeFunc fn a b=>cases fn<;>rfl
 |makeMap t r=>
  cases r with
  |none=>show kI P t none W=_;(simp only[fg,zW,kI,AW.cF];try rfl)
  |some r=>show kI P t (some (aw R r)) W=_;(simp only[fg,zW,kI,AW.cF];try rfl)
 |makeSlice t l c=>show xu P t (aw R l) (aw R c) W=_;(simp only[fg,zW,xu,jm,AW.cF];try rfl)
 |slice t x lo hi mx=>
  show dX P t (aw R x) (lo.map (aw R)) (hi.map (aw R)) (mx.map (aw R)) W=_;simp only[fg,zW,dX];rw[qp rfl];have:(aw R x::((lo.map (aw R)).toList++((hi.map (aw R)).toList++(mx.map (aw R)).toList))).all a7=((Op.slice t x lo hi mx).operands.toList.all λx=>a7 (aw R x)):=by cases lo<;>cases hi<;>cases mx<;>simp[Op.operands]
  rw[this];rfl
 |index t x i=>show fR P t (aw R x) (aw R i) W=_;simp only[fg,zW,fR];rw[qp rfl];rfl
 |range t x=>show ur P t (aw R x) W=_;(simp only[fg,zW,ur,AW.cF];try rfl)
 |next it s=>cases s<;>rfl
 |call c=>
  obtain⟨callee,args,ts⟩:=c;cases callee with
  |builtin b=>exact Fa P call dst b args ts type pos after guard R W
  |value f=>rfl
  |invoke r name=>rfl
 |_=>rfl
def Fv{P:ag}{call:Callee}{o:am}{R:aj.Fr}{W:AW}{r:ae×AW}(h:OS P call o R W=some r):mE P call o R W=some r:=by
 cases hs:It o.op with
 |false=>rw[<-Uu P call o R W hs];exact h
 |true=>
  rw[qt];obtain⟨dst,op,type,pos,after,guard⟩:=o;cases op<;>(try cases hs);rename_i t a x;have h':(tG P W t (aw R a) (aw R x)).map (λW'=>(ai,W'))=some r:=h;simp only[fg,zW];cases hc:tG P W t (aw R a) (aw R x)with
  |none=>rw[hc]at h';cases h'
  |some W'=>rw[hc]at h';rw[GD hc];exact h'
def aY(x:ae)(W:AW):Option (ae×AW):=(match x with
 |.pointer (some a)=>(match aH W a.block with
  |some cs=>Qs cs a.off
  |none=>none)
 |_=>none).map λv=>(v,W)
def b9(n:Nat)(x:ae)(W:AW):Option (ae×AW):=(match x with
 |.pointer (some a)=>(iZ W a.block a.off n).map λ(l:List ae)=>Value.agg l.toArray
 |_=>none).map λv=>(v,W)
def cS(n:Nat)(x v:ae)(W:AW):Option (ae×AW):=(match x with
 |.pointer (some a)=>if v.cells.size=n then vf W a.block a.off v.cells.toList else none
 |_=>none).map λW'=>(ai,W')
def bq(off:Nat)(x:ae)(W:AW):Option (ae×AW):=match x with
 |.pointer (some a)=>some (.pointer (some (a.add off)),W)
 |_=>none
def j0(z:Nat)(x i:ae)(W:AW):Option (ae×AW):=match x,iX i with
 |.slice (some a) len _,some n=>if n<len then some (.pointer (some (a.add (n*z))),W)else none
 |_,_=>none
def Ik(len z:Nat)(x i:ae)(W:AW):Option (ae×AW):=match x,iX i with
 |.pointer (some a),some n=>if n<len then some (.pointer (some (a.add (n*z))),W)else none
 |_,_=>none
end
section
variable [aj]
def aa3:∃f:(∀(α ρ:Type),Option α->(α->Option ρ)->Option ρ),f=λ_ _ x g=>x.bind g:=⟨_,rfl⟩
def ak{α ρ:Type}(x:Option α)(g:α->Option ρ):Option ρ:=Classical.choose aa3 α ρ x g
def xM{α ρ:Type}(x:Option α)(g:α->Option ρ):ak x g=x.bind g:=by unfold ak;rw[ul aa3]
abbrev KT(ρ:Type):=X->aj.Fr->AW->Option ρ
abbrev LT:=X×aj.Fr×AW
def bi(v:ae)(w:Bool):Bool:=match v with|.bool b=>b==w|_=>false
def CV(ops:Array am)(R:aj.Fr)(o:am):Bool:=match o.guard with
 |none=>true
 |some (j,w)=>match(ops[j]?).bind (·.dst)with
  |some t=>bi (ch R t) w
  |none=>false
def DS(ops:Array am)(R:aj.Fr)(o:am):CV ops R o=fp ops R o:=by
 unfold CV fp;cases o.guard with
 |none=>rfl
 |some p=>obtain⟨j,w⟩:=p;simp only;cases(ops[j]?).bind (·.dst)<;>rfl
def a8{ρ:Type}(c:Bool)(a b:ρ):ρ:=Bool.rec (motive:=λ_=>ρ) b a c
def oH(P:ag)(call:Callee)(ops:Array am)(o:am)(R:aj.Fr)(W:AW):Option (ae×AW):=
 a8 (CV ops R o) (OS P call o R W) (some (ai,W))
def mvO:Op->Option ao:=Op.rec (motive:=λ_=>Option ao) some some (λ_ _ _=>none) (λ_=>none) (λ_ _=>none) (λ_ _=>none) (λ_ _ _=>none) (λ_ _ _ _=>none) (λ_ _=>none) (λ_ _ _=>none) (λ_=>none) (λ_=>none) (λ_=>none) (λ_ _ _ _ _=>none) (λ_ _ _=>none) (λ_ _ _=>none) (λ_ _=>none) (λ_ _=>none) (λ_ _ _=>none) (λ_ _=>none) (λ_ _=>none) (λ_ _ _=>none) (λ_ _ _ _ _=>none) (λ_ _ _=>none) (λ_ _ _=>none) (λ_ _ _=>none) (λ_ _ _=>none) (λ_ _ _ _=>none) (λ_ _ _ _=>none) (λ_ _ _=>none) (λ_ _ _ _=>none) (λ_ _=>none) (λ_ _=>none) (λ_=>none) (λ_ _ _ _=>none) (λ_ _=>none) (λ_=>none) (λ_=>none) (λ_=>none) (λ_=>none) (λ_ _=>none) (λ_ _ _=>none) (λ_ _=>none)
def Q9(o:am):Option ao:=Option.rec (motive:=λ_=>Option ao) (mvO o.op) (λ_=>none) o.guard
def Dt(P:ag)(call:Callee)(ops:Array am){ρ:Type}(K:aj.Fr->AW->Option ρ)(l:List am):aj.Fr->AW->Option ρ:=
 List.rec (motive:=λ_=>aj.Fr->AW->Option ρ) (λR W=>K R W) (λo _ ih R W=>Option.rec (motive:=λ_=>Option ρ) (ak (oH P call ops o R W) λr=>ih (dw R o.dst r.1) r.2) (λx=>ih (dw R o.dst (aw R x)) W) (Q9 o)) l
def Oy(w:Bool)(r:Option (ae×AW))(v:ae):Bool:=a8 w (match r with|some (u,_)=>gu u v|none=>false) true
def agN(w:Bool)(r:Option (ae×AW)):Bool:=a8 w r.isSome true
def uy(P:ag)(call:Callee)(ops:Array am)(R:aj.Fr)(W:AW)(j:Nat):Bool:=match ops[j]? with
 |none=>false
 |some o=>match o.dst with
  |some t=>Oy (CV ops R o) (OS P call o R W) (ch R t)
  |none=>agN (CV ops R o) (OS P call o R W)
def E5(P:ag)(call:Callee)(ops:Array am){ρ:Type}(K:aj.Fr->AW->Option ρ)(l:List (Nat×List Nat)):aj.Fr->AW->Option ρ:=
 List.rec (motive:=λ_=>aj.Fr->AW->Option ρ) (λR W=>K R W) (λp _ ih R W=>match ops[p.1]? with
  |none=>none
  |some o=>Option.rec (motive:=λ_=>Option ρ) (ak (oH P call ops o R W) λr=>a8 (p.2.all (uy P call ops (dw R o.dst r.1) r.2)) (ih (dw R o.dst r.1) r.2) none) (λx=>ih (dw R o.dst (aw R x)) W) (List.rec (motive:=λ_=>Option ao) (Q9 o) (λ_ _ _=>none) p.2)) l
def bN(R:aj.Fr)(l:List (Nat×ae)):aj.Fr:=List.rec (motive:=λ_=>aj.Fr->aj.Fr) (λR=>R) (λp _ ih R=>ih (dw R (some p.1) p.2)) l R
def oG{ρ:Type}(x:X)(a b:Option ρ):Option ρ:=X.rec (motive:=λ_=>Option ρ) a (λ_=>b) b x
def eQ{ρ:Type}(id:Nat)(x:X)(a b:Option ρ):Option ρ:=X.rec (motive:=λ_=>Option ρ) b (λi=>a8 (Nat.beq i id) a b) b x
def ahp{ρ:Type}(x:X)(a:Option ρ):Option ρ:=X.rec (motive:=λ_=>Option ρ) a (λ_=>none) a x
def bp{ρ:Type}(v:ae)(a b:Option ρ):Option ρ:=match v with|.bool c=>a8 c a b|_=>none
abbrev CT:=∀ρ:Type,aj.Fr->AW->KT ρ->Option ρ
def j7:KT LT:=λx R W=>some (x,R,W)
def Vd:CT:=λ_ R W K=>K .normal R W
def xT(P:ag)(call:Callee)(id:Nat)(ops:Array am)(uW:Bool):CT:=λ_ R W K=>match uW with
 |false=>Dt P call ops (K .normal) ops.toList R W
 |true=>match aj.D id ops with
  |none=>Dt P call ops (K .normal) ops.toList R W
  |some pl=>E5 P call ops (K .normal) pl R W
def ZD(_ _:ba)(ia ib:CT):CT:=λρ R W K=>ia ρ R W λx R' W'=>X.rec (motive:=λ_=>Option ρ) (ib ρ R' W' K) (λ_=>K x R' W') (K x R' W') x
def Uh(c:ao)(_ _:ba)(ia ib:CT):CT:=λρ R W K=>bp (aw R c) (ia ρ R W K) (ib ρ R W K)
def Pc(id:Nat)(_:ba)(ib:CT):CT:=λρ R W K=>ib ρ R W λx R' W'=>X.rec (motive:=λ_=>Option ρ) (K x R' W') (λi=>Bool.rec (motive:=λ_=>Option ρ) (K x R' W') (K .normal R' W') (Nat.beq i id)) (K x R' W') x
def aaf(i:Nat):List Nat->List Nat:=List.rec [i] λx l ih=>Bool.rec (x::ih) (x::l) (Nat.beq x i)
def F1(a b:List Nat):List Nat:=List.rec b (λx _ ih=>aaf x ih) a
def Zo(i:Nat)(a:List Nat):List Nat:=List.rec [] (λx _ ih=>Bool.rec (x::ih) ih (Nat.beq x i)) a
def K3:ba->List Nat×Bool:=
 Code.rec (motive:=λ_=>List Nat×Bool) ([],false) (λ_ _ _=>([],false)) (λ_ _ a b=>(F1 a.1 b.1,a.2||b.2)) (λ_ _ _ a b=>(F1 a.1 b.1,a.2||b.2)) (λi _ b=>(Zo i b.1,b.2)) (λ_ b=>b)
  (λ_ _ _ _ a b=>(F1 a.1 b.1,a.2||b.2)) (λi=>([i],false)) (λ_ b=>b) (λ_=>([],false)) (λ_=>([],false)) ([],true) (λ_=>([],false))
def jG{ρ:Type}(x:X)(a:Option ρ):Option ρ:=X.rec (motive:=λ_=>Option ρ) none (λ_=>none) a x
def pj{ρ:Type}(x:X)(k:X->Option ρ)(ret:Bool)(l:List Nat):Option ρ:=
 List.rec (motive:=λ_=>Option ρ) (a8 ret (jG x (k .ret)) none) (λi _ ih=>eQ i x (k (.exit i)) ih) l
def ja{ρ:Type}{x:X}{k:X->Option ρ}{ret:Bool}{r:ρ}:∀{l:List Nat},pj x k ret l=some r->k x=some r
 |[],h=>by
  cases ret with
  |false=>cases h
  |true=>cases x<;>first|exact h|cases h
 |i::l,h=>by
  cases x with
  |normal=>exact ja (l:=l) h
  |ret=>exact ja (l:=l) h
  |exit j=>
   have h':a8 (Nat.beq j i) (k (.exit i)) (pj (.exit j) k ret l)=some r:=h;cases hb:Nat.beq j i with
   |true=>rw[hb]at h';have:=uZ hb;subst this;exact h'
   |false=>rw[hb]at h';exact ja (l:=l) h'
def QZ:∃f:(aj.Fr->AW->Option LT)->Nat->aj.Fr->AW->Option LT,f=gF:=⟨gF,rfl⟩
def dP:(aj.Fr->AW->Option LT)->aj.Fr->AW->Option LT:=λf=>Classical.choose QZ f 1000000
def EO(f:aj.Fr->AW->Option LT):dP f=gF f 1000000:=by unfold dP;rw[ul QZ]
def Vl(b:ba)(ib:CT):CT:=λ_ R W K=>ak (dP (λR W=>ib LT R W j7) R W) λr=>pj r.1 (λx=>K x r.2.1 r.2.2) (K3 b).2 (K3 b).1
def gQ(call:Callee)(f:ae)(obj:de)(W:AW):Option (X×AW):=match f with
 |.func (.func i) fs cs=>match call (.func (.func i) fs cs) [.func (.yield W.next) #[] #[]] (W.add obj)with
  |some (_,W2)=>match W2.get W.next with
   |some (.loop st jF _ _ _ _ _)=>(match st with
    |.busy=>none
    |_=>match jF with
     |none=>some (.normal,W2.kill W.next)
     |some (.exit i)=>some (.exit i,W2.kill W.next)
     |some .ret=>some (.ret,W2.kill W.next)
     |_=>none)
   |_=>none
  |none=>none
 |_=>none
def Cp(call:Callee)(top:Bool)(nt:Nat)(f:ao)(ps:Array Tmp)(ajb bd:ba)(_ _:CT):CT:=λ_ R W K=>match top with
 |false=>none
 |true=>ak (gQ call (aw R f) (.loop .ready none R nt ps ajb bd) W) λr=>oG r.1 (K .normal R r.2) (pj r.1 (λx=>K x R r.2) (K3 bd).2 (K3 bd).1)
def Vj(id:Nat):CT:=λ_ R W K=>K (.exit id) R W
def Zr:CT:=λ_ R W K=>K .ret R W
def Qy(_:Nat):CT:=λ_ R W K=>K .normal R W
def SD(_:Nat):CT:=λ_ _ _ _=>none
def QO(_:ba)(_:CT):CT:=λ_ _ _ _=>none
def Lp(_:String):CT:=λ_ _ _ _=>none
def eZ(P:ag)(call:Callee)(top:Bool)(nt:Nat):ba->CT:=
 Code.rec (motive:=λ_=>CT) Vd (xT P call) ZD Uh Pc Vl (Cp call top nt) Vj QO Qy SD Zr Lp
section
variable {P:ag} {call:Callee}
def zi{ops:Array am}{o:am}{R:aj.Fr}{W:AW}{r:ae×AW}(h:oH P call ops o R W=some r):gV P call ops o R W=some (dw R o.dst r.1,r.2):=by
 unfold oH at h;unfold gV;rw[DS]at h;cases hw:fp ops R o with
 |true=>rw[hw]at h;rw[ax rfl];have h':OS P call o R W=some r:=h;rw[Fv h']
 |false=>rw[hw]at h;rw[ay (by simp)];have h':some (ai,W)=some r:=h;injection h' with h';subst h';rfl
def N0{op:Op}{x:ao}(h:mvO op=some x):op=.move x\/op=.assign x:=by cases op<;>first|(injection h with h;subst h;first|exact .inl rfl|exact .inr rfl)|cases h
def HH{ops:Array am}{o:am}{R:aj.Fr}{W:AW}{x:ao}(h:Q9 o=some x):gV P call ops o R W=some (dw R o.dst (aw R x),W):=by
 have hk:oH P call ops o R W=some (aw R x,W):=by
  obtain⟨dst,op,type,pos,after,guard⟩:=o;cases guard with
  |some g=>cases h
  |none=>rcases N0 h with rfl|rfl<;>rfl
 rw[zi hk]
def H0{ops:Array am}{ρ:Type}{K:aj.Fr->AW->Option ρ}{r:ρ}:∀(l:List am) (R:aj.Fr) (W:AW),Dt P call ops K l R W=some r->(kR P call ops l R W).bind (λq=>K q.1 q.2)=some r:=by
 intro l;induction l with
 |nil=>intro R W h;exact h
 |cons o l ih=>
  intro R W h;cases hm:Q9 o with
  |some x=>have h':Option.rec (motive:=λ_=>Option ρ) (ak (oH P call ops o R W) λr=>Dt P call ops K l (dw R o.dst r.1) r.2) (λx=>Dt P call ops K l (dw R o.dst (aw R x)) W) (Q9 o)=some r:=h;rw[hm]at h';rw[kR,HH hm];exact ih _ _ h'
  |none=>
  have h0:Option.rec (motive:=λ_=>Option ρ) (ak (oH P call ops o R W) λr=>Dt P call ops K l (dw R o.dst r.1) r.2) (λx=>Dt P call ops K l (dw R o.dst (aw R x)) W) (Q9 o)=some r:=h;rw[hm]at h0;have h':ak (oH P call ops o R W) (λr=>Dt P call ops K l (dw R o.dst r.1) r.2)=some r:=h0;rw[xM]at h';cases hk:oH P call ops o R W with
  |none=>rw[hk]at h';cases h'
  |some q=>rw[hk]at h';rw[kR,zi hk];exact ih _ _ h'
def IS{ops:Array am}{R:aj.Fr}{W:AW}(j:Nat)(h:uy P call ops R W j=true):mh P call ops R W j=true:=by
 unfold uy at h;unfold mh;cases ho:ops[j]? with
 |none=>rw[ho]at h;cases h
 |some o=>
  rw[ho]at h;simp only at h|-;rw[DS]at h;cases hd:o.dst with
  |none=>
   rw[hd]at h;simp only[agN]at h;simp only;cases hw:fp ops R o with
   |false=>rfl
   |true=>rw[hw]at h;have h':(OS P call o R W).isSome=true:=h;obtain⟨q,hq⟩:=Option.isSome_iff_exists.1 h';rw[Fv hq];rfl
  |some t=>
   rw[hd]at h;simp only[Oy]at h;simp only;cases hw:fp ops R o with
   |false=>rfl
   |true=>
    rw[hw]at h;have h':(match OS P call o R W with|some (u,_)=>gu u (ch R t)|none=>false)=true:=h;cases hq:OS P call o R W with
    |none=>rw[hq]at h';cases h'
    |some q=>rw[hq]at h';rw[Fv hq];exact h'
def LQ{ops:Array am}{ρ:Type}{K:aj.Fr->AW->Option ρ}{r:ρ}:∀(l:List (Nat×List Nat)) (R:aj.Fr) (W:AW),E5 P call ops K l R W=some r->(gI P call ops l R W).bind (λq=>K q.1 q.2)=some r:=by
 intro l;induction l with
 |nil=>intro R W h;exact h
 |cons p l ih=>
  intro R W h;obtain⟨i,re⟩:=p
  have h0:(match ops[i]? with
   |none=>none
   |some o=>Option.rec (motive:=λ_=>Option ρ) (ak (oH P call ops o R W) λr=>a8 (re.all (uy P call ops (dw R o.dst r.1) r.2)) (E5 P call ops K l (dw R o.dst r.1) r.2) none) (λx=>E5 P call ops K l (dw R o.dst (aw R x)) W) (List.rec (motive:=λ_=>Option ao) (Q9 o) (λ_ _ _=>none) re))=some r:=h;rw[gI];cases ho:ops[i]? with
  |none=>rw[ho]at h0;cases h0
  |some o=>
   rw[ho]at h0;simp only at h0|-;cases hm:(List.rec (motive:=λ_=>Option ao) (Q9 o) (λ_ _ _=>none) re:Option ao)with
   |some x=>
    rw[hm]at h0;cases re with
    |cons _ _=>cases hm
    |nil=>rw[HH hm];exact ih _ _ h0
   |none=>
   rw[hm]at h0;have h':ak (oH P call ops o R W) (λr=>a8 (re.all (uy P call ops (dw R o.dst r.1) r.2)) (E5 P call ops K l (dw R o.dst r.1) r.2) none)=some r:=h0;rw[xM]at h';cases hk:oH P call ops o R W with
   |none=>rw[hk]at h';cases h'
   |some q=>
    rw[hk]at h';rw[zi hk];simp only[bl]at h'|-;cases ha:re.all (uy P call ops (dw R o.dst q.1) q.2)with
    |false=>rw[ha]at h';cases h'
    |true=>
     rw[ha]at h';have:re.all (mh P call ops (dw R o.dst q.1) q.2)=true:=by rw[bV]at ha|-;exactλj hj=>IS j (ha j hj)
     rw[ax this];exact ih _ _ h'
def yJ{f g:aj.Fr->AW->Option LT}(h:∀R W r,f R W=some r->g R W=some r):∀(n:Nat) (R:aj.Fr) (W:AW) (r:LT),gF f n R W=some r->gF g n R W=some r:=by
 intro n;induction n with
 |zero=>intro R W r hr;cases hr
 |succ n ih=>
  intro R W r hr;unfold gF at hr|-;cases hf:f R W with
  |none=>rw[hf]at hr;cases hr
  |some q=>
   rw[h _ _ _ hf];rw[hf]at hr;obtain⟨x,R',W'⟩:=q;cases x with
   |normal=>exact ih _ _ _ hr
   |exit i=>exact hr
   |ret=>exact hr
def DG{top:Bool}{nt:Nat}:∀(c:ba) (ρ:Type) (R:aj.Fr) (W:AW) (K:KT ρ) (r:ρ),eZ P call top nt c ρ R W K=some r->(bA P call top nt c R W).bind (λr=>K r.1 r.2.1 r.2.2)=some r:=by
 intro c;induction c with
 |skip=>intro ρ R W K r h;exact h
 |label l=>intro ρ R W K r h;exact h
 |exit id=>intro ρ R W K r h;exact h
 |ret=>intro ρ R W K r h;exact h
 |goto l=>intro ρ R W K r h;exact h
 |scope b _=>intro ρ R W K r h;cases h
 |refuse s=>intro ρ R W K r h;cases h
 |region id ops uW=>
  intro ρ R W K r h;have h:xT P call id ops uW ρ R W K=some r:=h;unfold xT at h;unfold bA;cases uW with
  |false=>
   simp only at h|-;have:=H0 _ _ _ h;cases ha:kR P call ops ops.toList R W with
   |none=>rw[ha]at this;cases this
   |some q=>rw[ha]at this;exact this
  |true=>
   simp only at h|-;cases hd:aj.D id ops with
   |none=>
    rw[hd]at h;simp only at h|-;have:=H0 _ _ _ h;cases ha:kR P call ops ops.toList R W with
    |none=>rw[ha]at this;cases this
    |some q=>rw[ha]at this;exact this
   |some pl=>
    rw[hd]at h;simp only at h|-;have:=LQ _ _ _ h;cases ha:gI P call ops pl R W with
    |none=>rw[ha]at this;cases this
    |some q=>rw[ha]at this;exact this
 |seq a b Ox Fq=>
  intro ρ R W K r h;have h1:=Ox ρ R W _ r h;rw[bA];cases ha:bA P call top nt a R W with
  |none=>rw[ha]at h1;cases h1
  |some q=>
   rw[ha]at h1;obtain⟨x,R',W'⟩:=q;cases x with
   |normal=>exact Fq _ _ _ _ _ h1
   |exit i=>exact h1
   |ret=>exact h1
 |cond c a b Ox Fq=>
  intro ρ R W K r h;have h':bp (aw R c) (eZ P call top nt a ρ R W K) (eZ P call top nt b ρ R W K)=some r:=h;rw[bA];cases hc:aw R c with
  |bool d=>
   rw[hc]at h';cases d with
   |true=>exact Ox _ _ _ _ _ h'
   |false=>exact Fq _ _ _ _ _ h'
  |_=>rw[hc]at h';cases h'
 |block id b ih=>
  intro ρ R W K r h;have h1:=ih ρ R W _ r h;rw[bA];cases ha:bA P call top nt b R W with
  |none=>rw[ha]at h1;cases h1
  |some q=>
   rw[ha]at h1;obtain⟨x,R',W'⟩:=q;cases x with
   |normal=>exact h1
   |ret=>exact h1
   |exit i=>
    have h2:a8 (Nat.beq i id) (K .normal R' W') (K (.exit i) R' W')=some r:=h1;by_cases hi:i=id
    ·subst hi;rw[mu]at h2;simp only[bc,bl];exact h2
    ·have:Nat.beq i id=false:=by
      cases hb:Nat.beq i id with
      |true=>exact absurd (uZ hb) hi
      |false=>rfl
     rw[this]at h2;simp only[ay hi,bl];exact h2
 |loop b ih=>
  intro ρ R W K r h;have h':ak (dP (λR W=>eZ P call top nt b LT R W j7) R W) (λq=>pj q.1 (λx=>K x q.2.1 q.2.2) (K3 b).2 (K3 b).1)=some r:=h;rw[xM,EO]at h';cases hl:gF (λR W=>eZ P call top nt b LT R W j7) 1000000 R W with
  |none=>rw[hl]at h';cases h'
  |some q=>
   rw[hl]at h';have:=yJ (g:=bA P call top nt b) (λR W q hq=>by
    have:=ih LT R W j7 q hq;cases ha:bA P call top nt b R W with
    |none=>rw[ha]at this;cases this
    |some q'=>rw[ha]at this;exact this) _ _ _ _ hl;rw[bA,this];exact ja (show pj q.1 (λx=>K x q.2.1 q.2.2) (K3 b).2 (K3 b).1=some r from h')
 |rangeFunc f ps ajb bd _ _=>
  intro ρ R W K r h;have h':Cp call top nt f ps ajb bd (eZ P call top nt ajb) (eZ P call top nt bd) ρ R W K=some r:=h;unfold Cp at h';cases top with
  |false=>cases h'
  |true=>
   simp only[xM]at h';have h2:(gQ call (aw R f) (.loop .ready none R nt ps ajb bd) W).bind (λq=>K q.1 R q.2)=some r:=by
    cases ho:gQ call (aw R f) (.loop .ready none R nt ps ajb bd) W with
    |none=>rw[ho]at h';cases h'
    |some q=>
     rw[ho]at h';obtain⟨x,W'⟩:=q;cases x with
     |normal=>exact h'
     |exit i=>exact ja (show pj (.exit i) (λx=>K x R W') (K3 bd).2 (K3 bd).1=some r from h')
     |ret=>exact ja (show pj .ret (λx=>K x R W') (K3 bd).2 (K3 bd).1=some r from h')
   rw[<-h2];unfold bA gQ;simp only;cases aw R f with
   |func fn fs cs=>
    cases fn with
    |func i=>
     simp only[AW.cF];cases call (.func (.func i) fs cs) [.func (.yield W.next) #[] #[]] (W.add (.loop .ready none R nt ps ajb bd))with
     |none=>rfl
     |some r=>
      obtain⟨v,W2⟩:=r;simp only;cases W2.get W.next with
      |none=>rfl
      |some obj=>
       cases obj with
       |loop st jF tm n p a b=>
        cases st<;>simp only<;>(cases jF with
         |none=>rfl
         |some c=>cases c<;>rfl)
       |_=>rfl
    |_=>rfl
   |_=>rfl
def AE{top:Bool}{nt:Nat}{c:ba}{R:aj.Fr}{W:AW}{r:LT}(h:eZ P call top nt c LT R W j7=some r):bA P call top nt c R W=some r:=by
 have:=DG c LT R W j7 r h;cases ha:bA P call top nt c R W with
 |none=>rw[ha]at this;cases this
 |some q=>rw[ha]at this;exact this
end
def oF(P:ag)(W:AW):List (ae×Option ah)->Option (List ae)
 |[]=>some []
 |(v,none)::l=>match oF P W l with
  |some vs=>some (v::vs)
  |none=>none
 |(a,some t)::l=>match gK P W t a with
  |some v=>match oF P W l with
   |some vs=>some (v::vs)
   |none=>none
  |none=>none
def aG(P:ag)(l:List (ae×Option ah))(W:AW):Option (ae×AW):=match oF P W l with
 |some [v]=>some (v,W)
 |some vs=>some (.tuple vs.toArray,W)
 |none=>none
def rv(R:aj.Fr):ResultVar->ae×Option ah:=ResultVar.rec (λt=>(ch R t,none)) (λa t=>(ch R a,some t))
def zc(P:ag)(W:AW)(R:aj.Fr):∀l:List ResultVar,zL P W R l=oF P W (l.map (rv R))
 |[]=>rfl
 |.tmp t::l=>by show(match zL P W R l with|some vs=>some (ch R t::vs)|none=>none)=(match oF P W (l.map (rv R))with|some vs=>some (ch R t::vs)|none=>none);rw[zc P W R l]
 |.cell a t::l=>by show(match gK P W t (ch R a)with|some v=>(match zL P W R l with|some vs=>some (v::vs)|none=>none)|none=>none)=(match gK P W t (ch R a)with|some v=>(match oF P W (l.map (rv R))with|some vs=>some (v::vs)|none=>none)|none=>none);rw[zc P W R l]
def PK(P:ag)(call:Callee)(nt:Nat)(c:ba)(rs:Array ResultVar)(ad9:List ae)(W:AW):Option (ae×AW):=
 eZ P call true nt c (ae×AW) (eD 0 ad9 aj.blank) W λx R W'=>X.rec (motive:=λ_=>Option (ae×AW)) (aG P (rs.toList.map (rv R)) W') (λ_=>none) (aG P (rs.toList.map (rv R)) W') x
def JQ{P:ag}{bad:List Nat}{spec call:Callee}{i:Nat}{fn:dV}{c:ba}(hb:El i bad=false)(hf:P.funcs[i]? =some fn)(hc:fn.body=some c){fs cs:Array ae}{args:List ae}
 (hn:Nat.ble (fs.toList.length+(args.length+cs.toList.length)) fn.ntmps=true){W:AW}{r:ae×AW}(h:PK P call fn.ntmps c fn.results (fs.toList++(args++cs.toList)) W=some r):
 hO P bad spec call (.func (.func i) fs cs) args W=some r:=by
 unfold PK at h;have h1:=DG _ _ _ _ _ _ h;unfold hO;simp only[hb,hf,hc,hn];cases ha:bA P call true fn.ntmps c (eD 0 (fs.toList++(args++cs.toList)) aj.blank) W with
 |none=>rw[ha]at h1;cases h1
 |some q=>
  rw[ha]at h1;obtain⟨x,R,W'⟩:=q;simp only[bl]at h1;rw[<-h1];unfold nf aG;simp only[zc];cases x with
  |exit id=>rfl
  |normal=>simp only[];rcases oF P W' (fn.results.toList.map (rv R))with _|_|⟨v,_|⟨u,l⟩⟩<;>rfl
  |ret=>simp only[];rcases oF P W' (fn.results.toList.map (rv R))with _|_|⟨v,_|⟨u,l⟩⟩<;>rfl
def Ch(P:ag)(call:Callee)(l:Nat)(nt:Nat)(ajb bd:ba)(R:aj.Fr)(W:AW):Option (ae×AW):=
 (eZ P call false nt ajb LT R W j7).bind λr1=>oG r1.1 (match r1.2.2.get l with
  |some (.loop .ready Mq R9 HF Is Io H1)=>(eZ P call false nt bd LT r1.2.1 (r1.2.2.put l (.loop .busy Mq R9 HF Is Io H1)) j7).bind λr2=>(match r2.2.2.get l with
   |some (.loop _ _ R8 QD Pu PX Qn)=>(match r2.1 with
    |.normal=>some (.bool true,r2.2.2.put l (.loop .ready none R8 QD Pu PX Qn))
    |x=>some (.bool false,r2.2.2.put l (.loop .done x.jump R8 QD Pu PX Qn)))
   |_=>none)
  |_=>none) none
def C2{P:ag}{bad:List Nat}{spec call:Callee}{l nt:Nat}{R:aj.Fr}{ps:Array Tmp}{ajb bd:ba}{W:AW}(hl:W.get l=some (.loop .ready none R nt ps ajb bd)){fs cs:Array ae}{args:List ae}(hn:fs.toList.length+args.length=ps.size)
 {r:ae×AW}(h:Ch P call l nt ajb bd (jZ ps.toList (fs.toList++args) R) W=some r):
 hO P bad spec call (.func (.yield l) fs cs) args W=some r:=by
 unfold Ch at h;have hb:Nat.beq (fs.toList.length+args.length) ps.size=true:=by rw[hn];exact mu _
 unfold hO;simp only[hl,hb];cases h1:eZ P call false nt ajb LT (jZ ps.toList (fs.toList++args) R) W j7 with
 |none=>rw[h1]at h;cases h
 |some q=>
  rw[h1]at h;rw[AE h1];obtain⟨x,R1,W1⟩:=q;simp only[bl]at h;cases x with
  |exit id=>cases h
  |ret=>cases h
  |normal=>
   simp only[oG]at h|-;cases hg:W1.get l with
   |none=>rw[hg]at h;cases h
   |some obj=>
    rw[hg]at h;cases obj with
    |loop st Mq R9 HF Is Io H1=>
     cases st with
     |ready=>
      simp only at h|-;cases h2:eZ P call false nt bd LT R1 (W1.put l (.loop .busy Mq R9 HF Is Io H1)) j7 with
      |none=>rw[h2]at h;cases h
      |some q2=>
       rw[h2]at h;rw[AE h2];obtain⟨x2,R2,W2⟩:=q2;simp only[bl]at h|-;cases D3:W2.get l with
       |none=>rw[D3]at h;cases h
       |some afa=>
        rw[D3]at h;cases afa with
        |loop WV pd8 R8 QD Pu PX Qn=>cases x2<;>exact h
        |_=>cases h
     |_=>cases h
    |_=>cases h
end
def Mk(R:Nat->ae)(t:Nat)(v:ae):Nat->ae:=λu=>Bool.rec (motive:=λ_=>ae) (R u) v (Nat.beq u t)
def Sk:Nat->ae:=λ_=>ai
def Kj(R:Nat->ae)(t:Nat)(v:ae):Mk R t v t=v:=by unfold Mk;rw[mu]
def Pl(R:Nat->ae)(t u:Nat)(v:ae)(h:t≠u):Mk R t v u=R u:=by
 unfold Mk;have:Nat.beq u t=false:=by
  cases hb:Nat.beq u t with
  |true=>exact absurd (uZ hb).symm h
  |false=>rfl
 rw[this]
@[reducible] noncomputable def UP (D:Nat->Array am->Option (List (Nat×List Nat))) (ng:List Nat) (ex:ah->Bool:=λ_=>false):aj where
 D:=D
 ex:=ex
 ng:=ng
 Fr:=Nat->ae
 G9:=λR t=>R t
 NK:=Mk
 blank:=Sk
 iC:=Kj
 eL:=Pl
 uv:=λ_=>rfl
def Yf(g:Nat):ae:=.pointer (some ⟨g,0,none⟩)
def cV(f:fo):ae:=.func (.func f) #[] #[]
def Tl(l:List Nat):ByteArray:=⟨(l.map UInt8.ofNat).toArray⟩
def xU(l:List Nat):ae:=.string (Tl l)
def FA(P:ag)(i:Nat):ba:=match P.funcs[i]? with
 |some fn=>(match fn.body with
  |some c=>c
  |none=>.skip)
 |none=>.skip
def Rt(P:ag)(i:Nat):Array ResultVar:=match P.funcs[i]? with
 |some fn=>fn.results
 |none=>#[]
def CP:List Nat->ba->ba
 |[],c=>c
 |n::p,c=>match c with
  |.seq a b=>CP p (if n=0 then a else b)
  |.cond _ a b=>CP p (if n=0 then a else b)
  |.rangeFunc _ _ a b=>CP p (if n=0 then a else b)
  |.block _ b=>CP p b
  |.loop b=>CP p b
  |.scope b=>CP p b
  |_=>.skip
section
variable [aj]
def D9(c d:Callee):Prop:=∀f a W r,c f a W=some r->d f a W=some r
def D9.refl(c:Callee):D9 c c:=λ_ _ _ _ h=>h
def D9.trans{a b c:Callee}(h:D9 a b)(k:D9 b c):D9 a c:=λf x W r e=>k _ _ _ _ (h _ _ _ _ e)
section
variable {P:ag}
def EZ(P:ag)(o:am)(R:aj.Fr)(W:AW):(∀c d:Callee,mE P c o R W=mE P d o R W)\/∃f a,∀c:Callee,mE P c o R W=c f a W:=by
 simp only[qt];obtain⟨dst,op,type,pos,after,guard⟩:=o;cases op with
 |call k=>
  obtain⟨callee,args,ts⟩:=k;cases callee with
  |builtin b=>exact .inl λ_ _=>rfl
  |value f=>exact .inr ⟨_,_,λ_=>rfl⟩
  |invoke r name=>
   simp only[fg];cases aw R r with
   |iface t v=>
    simp only;cases na P t name with
    |none=>exact .inl λ_ _=>rfl
    |some f=>exact .inr ⟨_,_,λ_=>rfl⟩
   |_=>exact .inl λ_ _=>rfl
 |_=>exact .inl λ_ _=>rfl
def H2{c d:Callee}(h:D9 c d){o:am}{R:aj.Fr}{W:AW}{r:ae×AW}(e:mE P c o R W=some r):mE P d o R W=some r:=by
 rcases EZ P o R W with hd|⟨f,a,hd⟩
 ·rw[<-e];exact hd _ _
 ·rw[hd]at e|-;exact h _ _ _ _ e
def tJ{c d:Callee}(h:D9 c d){ops:Array am}{o:am}{R:aj.Fr}{W:AW}{r:aj.Fr×AW}(e:gV P c ops o R W=some r):gV P d ops o R W=some r:=by
 unfold gV at e|-;split
 ·rename_i hw;rw[ax hw]at e;cases ho:mE P c o R W with
  |none=>rw[ho]at e;cases e
  |some q=>rw[ho]at e;rw[H2 h ho];exact e
 ·rename_i hw;rw[ay hw]at e;exact e
def BU{c d:Callee}(h:D9 c d){ops:Array am}:∀{l:List am} {R:aj.Fr} {W:AW} {r:aj.Fr×AW},kR P c ops l R W=some r->kR P d ops l R W=some r:=by
 intro l;induction l with
 |nil=>intro R W r e;exact e
 |cons o l ih=>
  intro R W r e;rw[kR]at e|-;cases hs:gV P c ops o R W with
  |none=>rw[hs]at e;cases e
  |some q=>rw[hs]at e;rw[tJ h hs];exact ih e
def sy{c d:Callee}(h:D9 c d){ops:Array am}{R:aj.Fr}{W:AW}{j:Nat}(e:mh P c ops R W j=true):mh P d ops R W j=true:=by
 unfold mh at e|-;cases hj:ops[j]? with
 |none=>rw[hj]at e;cases e
 |some o=>
  rw[hj]at e;simp only at e|-;split
  ·rename_i hw;rw[ax hw]at e;cases ho:mE P c o R W with
   |none=>rw[ho]at e;cases e
   |some q=>rw[ho]at e;rw[H2 h ho];exact e
  ·rfl
def D0{c d:Callee}(h:D9 c d){ops:Array am}:∀{l:List (Nat×List Nat)} {R:aj.Fr} {W:AW} {r:aj.Fr×AW},gI P c ops l R W=some r->gI P d ops l R W=some r:=by
 intro l;induction l with
 |nil=>intro R W r e;exact e
 |cons p l ih=>
  intro R W r e;obtain⟨i,re⟩:=p;rw[gI]at e|-;cases hi:ops[i]? with
  |none=>rw[hi]at e;cases e
  |some o=>
   rw[hi]at e;simp only at e|-;cases hs:gV P c ops o R W with
   |none=>rw[hs]at e;cases e
   |some q=>
    rw[hs]at e;rw[tJ h hs];simp only at e|-;split at e
    ·rename_i hr;rw[ax (bV.2 λj hj=>sy h (bV.1 hr j hj))];exact ih e
    ·cases e
def ik{c d:Callee}(h:D9 c d){top:Bool}{nt:Nat}:∀(k:ba) {R:aj.Fr} {W:AW} {r:LT},bA P c top nt k R W=some r->bA P d top nt k R W=some r:=by
 intro k;induction k with
 |skip=>intro R W r e;exact e
 |label l=>intro R W r e;exact e
 |exit id=>intro R W r e;exact e
 |ret=>intro R W r e;exact e
 |goto l=>intro R W r e;exact e
 |scope b _=>intro R W r e;exact e
 |refuse s=>intro R W r e;exact e
 |region id ops uW=>
  intro R W r e;unfold bA at e|-;cases uW with
  |false=>
   simp only at e|-;cases hs:kR P c ops ops.toList R W with
   |none=>rw[hs]at e;cases e
   |some q=>rw[hs]at e;rw[BU h hs];exact e
  |true=>
   simp only at e|-;cases hD:aj.D id ops with
   |none=>
    rw[hD]at e;simp only at e|-;cases hs:kR P c ops ops.toList R W with
    |none=>rw[hs]at e;cases e
    |some q=>rw[hs]at e;rw[BU h hs];exact e
   |some pl=>
    rw[hD]at e;simp only at e|-;cases hs:gI P c ops pl R W with
    |none=>rw[hs]at e;cases e
    |some q=>rw[hs]at e;rw[D0 h hs];exact e
 |seq a b Ox Fq=>
  intro R W r e;rw[bA]at e|-;cases ha:bA P c top nt a R W with
  |none=>rw[ha]at e;cases e
  |some q=>
   rw[ha]at e;rw[Ox ha];obtain⟨x,R',W'⟩:=q;cases x with
   |normal=>exact Fq e
   |exit i=>exact e
   |ret=>exact e
 |cond o a b Ox Fq=>
  intro R W r e;rw[bA]at e|-;cases ho:aw R o with
  |bool t=>rw[ho]at e;cases t with
   |true=>exact Ox e
   |false=>exact Fq e
  |_=>rw[ho]at e;cases e
 |block id b ih=>
  intro R W r e;rw[bA]at e|-;cases hb:bA P c top nt b R W with
  |none=>rw[hb]at e;cases e
  |some q=>rw[hb]at e;rw[ih hb];exact e
 |loop b ih=>intro R W r e;rw[bA]at e|-;exact yJ (λR W q hq=>ih hq) _ _ _ _ e
 |rangeFunc f ps ajb bd _ _=>
  intro R W r e;unfold bA at e|-;cases top with
  |false=>cases e
  |true=>
   simp only at e|-;cases hf:aw R f with
   |func fn fs cs=>
    rw[hf]at e;cases fn with
    |func i=>
     simp only[AW.cF]at e|-;cases hc:c (.func (.func i) fs cs) [.func (.yield W.next) #[] #[]] (W.add (.loop .ready none R nt ps ajb bd))with
     |none=>rw[hc]at e;cases e
     |some q=>rw[hc]at e;rw[h _ _ _ _ hc];exact e
    |_=>cases e
   |_=>rw[hf]at e;cases e
def Mg{bad:List Nat}{spec c d:Callee}(h:D9 c d):D9 (hO P bad spec c) (hO P bad spec d):=by
 intro f a W r e;unfold hO at e|-;cases f with
 |func fn fs cs=>
  cases fn with
  |func i=>
   simp only at e|-;cases hb:El i bad with
   |true=>rw[hb]at e;exact e
   |false=>
    rw[hb]at e;simp only at e|-;cases hf:P.funcs[i]? with
    |none=>rw[hf]at e;cases e
    |some fn=>
     rw[hf]at e;simp only at e|-;cases hc:fn.body with
     |none=>rw[hc]at e;cases e
     |some k=>
      rw[hc]at e;simp only at e|-;cases hl:Nat.ble (fs.toList.length+(a.length+cs.toList.length)) fn.ntmps with
      |false=>rw[hl]at e;cases e
      |true=>
       rw[hl]at e;simp only at e|-;cases hk:bA P c true fn.ntmps k (eD 0 (fs.toList++(a++cs.toList)) aj.blank) W with
       |none=>rw[hk]at e;cases e
       |some q=>rw[hk]at e;rw[ik h k hk];exact e
  |yield l=>
   simp only at e|-;split at e;case h_2=>cases e
   rename_i R nt ps ajb bd hl;cases hn:Nat.beq (fs.toList.length+a.length) ps.size with
   |false=>rw[hn]at e;cases e
   |true=>
    rw[hn]at e;simp only at e|-;cases h1:bA P c false nt ajb (jZ ps.toList (fs.toList++a) R) W with
    |none=>rw[h1]at e;cases e
    |some q=>
     rw[h1]at e;rw[ik h ajb h1];obtain⟨x,R1,W1⟩:=q;cases x with
     |normal=>
      simp only at e|-;split at e;case h_2=>cases e
      rename_i Mq R9 HF Is Io H1 hg;cases h2:bA P c false nt bd R1 (W1.put l (.loop .busy Mq R9 HF Is Io H1))with
      |none=>rw[h2]at e;cases e
      |some q2=>rw[h2]at e;rw[ik h bd h2];exact e
     |exit i=>cases e
     |ret=>cases e
  |_=>cases e
 |_=>cases e
section
variable {c:Nat->Callee} {o:Callee}
structure Lb (c:Nat->Callee) (o:Callee):Prop where
 up:∀n,D9 (c n) (c (n+1))
 of:∀f a W r,o f a W=some r->∃n,c n f a W=some r
def Lb.le(h:Lb c o){m n:Nat}(hmn:m<=n):D9 (c m) (c n):=by
 induction hmn with
 |refl=>exact .refl _
 |step _ ih=>exact ih.trans (h.up _)
def E7(h:Lb c o){op:am}{R:aj.Fr}{W:AW}{r:ae×AW}(e:mE P o op R W=some r):∃n,mE P (c n) op R W=some r:=by
 rcases EZ P op R W with hd|⟨f,a,hd⟩
 ·exact⟨0,by rw[<-e];exact hd _ _⟩
 ·rw[hd]at e;obtain⟨n,hn⟩:=h.of _ _ _ _ e;exact⟨n,by rw[hd];exact hn⟩
def Ax(h:Lb c o){ops:Array am}{op:am}{R:aj.Fr}{W:AW}{r:aj.Fr×AW}(e:gV P o ops op R W=some r):∃n,gV P (c n) ops op R W=some r:=by
 unfold gV at e|-;split at e
 ·rename_i hw;cases ho:mE P o op R W with
  |none=>rw[ho]at e;cases e
  |some q=>rw[ho]at e;obtain⟨n,hn⟩:=E7 h ho;exact⟨n,by rw[ax hw,hn];exact e⟩
 ·rename_i hw;exact⟨0,by rw[ay hw];exact e⟩
def Ff(h:Lb c o){ops:Array am}:∀{l:List am} {R:aj.Fr} {W:AW} {r:aj.Fr×AW},kR P o ops l R W=some r->∃n,kR P (c n) ops l R W=some r:=by
 intro l;induction l with
 |nil=>intro R W r e;exact⟨0,e⟩
 |cons op l ih=>
  intro R W r e;rw[kR]at e;cases hs:gV P o ops op R W with
  |none=>rw[hs]at e;cases e
  |some q=>rw[hs]at e;obtain⟨n,hn⟩:=Ax h hs;obtain⟨m,hm⟩:=ih e;refine⟨max n m,?_⟩;rw[kR,tJ (h.le (nQ n m)) hn];exact BU (h.le (qC n m)) hm
def I4(h:Lb c o){ops:Array am}{R:aj.Fr}{W:AW}{j:Nat}(e:mh P o ops R W j=true):∃n,mh P (c n) ops R W j=true:=by
 unfold mh at e|-;cases hj:ops[j]? with
 |none=>rw[hj]at e;cases e
 |some op=>
  rw[hj]at e;simp only at e|-;split at e
  ·rename_i hw;cases ho:mE P o op R W with
   |none=>rw[ho]at e;cases e
   |some q=>rw[ho]at e;obtain⟨n,hn⟩:=E7 h ho;exact⟨n,by rw[ax hw,hn];exact e⟩
  ·rename_i hw;exact⟨0,by rw[ay hw]⟩
def zY(h:Lb c o){ops:Array am}{R:aj.Fr}{W:AW}:∀{l:List Nat},l.all (mh P o ops R W)=true->∃n,l.all (mh P (c n) ops R W)=true:=by
 intro l;induction l with
 |nil=>intro _;exact⟨0,rfl⟩
 |cons j l ih=>intro e;simp only[fa,bm]at e;obtain⟨n,hn⟩:=I4 h e.1;obtain⟨m,hm⟩:=ih e.2;refine⟨max n m,?_⟩;simp only[fa,bm];exact⟨sy (h.le (nQ n m)) hn,bV.2 λj hj=>sy (h.le (qC n m)) (bV.1 hm j hj)⟩
def JP(h:Lb c o){ops:Array am}:∀{l:List (Nat×List Nat)} {R:aj.Fr} {W:AW} {r:aj.Fr×AW},gI P o ops l R W=some r->∃n,gI P (c n) ops l R W=some r:=by
 intro l;induction l with
 |nil=>intro R W r e;exact⟨0,e⟩
 |cons p l ih=>
  intro R W r e;obtain⟨i,re⟩:=p;rw[gI]at e;cases hi:ops[i]? with
  |none=>rw[hi]at e;cases e
  |some op=>
   rw[hi]at e;simp only at e;cases hs:gV P o ops op R W with
   |none=>rw[hs]at e;cases e
   |some q=>
    rw[hs]at e;simp only at e;split at e
    ·rename_i hr;obtain⟨n,hn⟩:=Ax h hs;obtain⟨m,hm⟩:=zY h hr;obtain⟨k,hk⟩:=ih e;refine⟨max n (max m k),?_⟩;rw[gI,hi];simp only;rw[tJ (h.le (nQ n _)) hn];simp only;rw[ax (bV.2 λj hj=>sy (h.le (by omega)) (bV.1 hm j hj))];exact D0 (h.le (by omega)) hk
    ·cases e
def Ju(h:Lb c o){top:Bool}{nt:Nat}{k:ba}(ih:∀{R:aj.Fr} {W:AW} {r:LT},bA P o top nt k R W=some r->∃n,bA P (c n) top nt k R W=some r):
 ∀(m:Nat) {R:aj.Fr} {W:AW} {r:LT},gF (bA P o top nt k) m R W=some r->∃n,gF (bA P (c n) top nt k) m R W=some r:=by
 intro m;induction m with
 |zero=>intro R W r e;cases e
 |succ m ihm=>
  intro R W r e;unfold gF at e;cases hb:bA P o top nt k R W with
  |none=>rw[hb]at e;cases e
  |some q=>
   rw[hb]at e;obtain⟨n,hn⟩:=ih hb;obtain⟨x,R',W'⟩:=q;cases x with
   |normal=>obtain⟨j,hj⟩:=ihm e;refine⟨max n j,?_⟩;unfold gF;rw[ik (h.le (nQ n j)) k hn];exact yJ (λR W q hq=>ik (h.le (qC n j)) k hq) _ _ _ _ hj
   |exit i=>exact⟨n,by unfold gF;rw[hn];exact e⟩
   |ret=>exact⟨n,by unfold gF;rw[hn];exact e⟩
def vg(h:Lb c o){top:Bool}{nt:Nat}:∀(k:ba) {R:aj.Fr} {W:AW} {r:LT},bA P o top nt k R W=some r->∃n,bA P (c n) top nt k R W=some r:=by
 intro k;induction k with
 |skip=>intro R W r e;exact⟨0,e⟩
 |label l=>intro R W r e;exact⟨0,e⟩
 |exit id=>intro R W r e;exact⟨0,e⟩
 |ret=>intro R W r e;exact⟨0,e⟩
 |goto l=>intro R W r e;exact⟨0,e⟩
 |scope b _=>intro R W r e;exact⟨0,e⟩
 |refuse s=>intro R W r e;exact⟨0,e⟩
 |region id ops uW=>
  intro R W r e;unfold bA at e|-;cases uW with
  |false=>
   simp only at e|-;cases hs:kR P o ops ops.toList R W with
   |none=>rw[hs]at e;cases e
   |some q=>rw[hs]at e;obtain⟨n,hn⟩:=Ff h hs;exact⟨n,by rw[hn];exact e⟩
  |true=>
   simp only at e|-;cases hD:aj.D id ops with
   |none=>
    rw[hD]at e;simp only at e|-;cases hs:kR P o ops ops.toList R W with
    |none=>rw[hs]at e;cases e
    |some q=>rw[hs]at e;obtain⟨n,hn⟩:=Ff h hs;exact⟨n,by rw[hn];exact e⟩
   |some pl=>
    rw[hD]at e;simp only at e|-;cases hs:gI P o ops pl R W with
    |none=>rw[hs]at e;cases e
    |some q=>rw[hs]at e;obtain⟨n,hn⟩:=JP h hs;exact⟨n,by rw[hn];exact e⟩
 |seq a b Ox Fq=>
  intro R W r e;rw[bA]at e;cases ha:bA P o top nt a R W with
  |none=>rw[ha]at e;cases e
  |some q=>
   rw[ha]at e;obtain⟨n,hn⟩:=Ox ha;obtain⟨x,R',W'⟩:=q;cases x with
   |normal=>obtain⟨m,hm⟩:=Fq e;refine⟨max n m,?_⟩;rw[bA,ik (h.le (nQ n m)) a hn];exact ik (h.le (qC n m)) b hm
   |exit i=>exact⟨n,by rw[bA,hn];exact e⟩
   |ret=>exact⟨n,by rw[bA,hn];exact e⟩
 |cond q a b Ox Fq=>
  intro R W r e;rw[bA]at e;cases ho:aw R q with
  |bool t=>rw[ho]at e;cases t with
   |true=>obtain⟨n,hn⟩:=Ox e;exact⟨n,by rw[bA,ho];exact hn⟩
   |false=>obtain⟨n,hn⟩:=Fq e;exact⟨n,by rw[bA,ho];exact hn⟩
  |_=>rw[ho]at e;cases e
 |block id b ih=>
  intro R W r e;rw[bA]at e;cases hb:bA P o top nt b R W with
  |none=>rw[hb]at e;cases e
  |some q=>rw[hb]at e;obtain⟨n,hn⟩:=ih hb;exact⟨n,by rw[bA,hn];exact e⟩
 |loop b ih=>intro R W r e;rw[bA]at e;obtain⟨n,hn⟩:=Ju h (λe=>ih e) _ e;exact⟨n,by rw[bA];exact hn⟩
 |rangeFunc f ps ajb bd _ _=>
  intro R W r e;unfold bA at e|-;cases top with
  |false=>cases e
  |true=>
   simp only at e|-;cases hf:aw R f with
   |func fn fs cs=>
    rw[hf]at e;cases fn with
    |func i=>
     simp only[AW.cF]at e|-;cases hc:o (.func (.func i) fs cs) [.func (.yield W.next) #[] #[]] (W.add (.loop .ready none R nt ps ajb bd))with
     |none=>rw[hc]at e;cases e
     |some q=>rw[hc]at e;obtain⟨n,hn⟩:=h.of _ _ _ _ hc;exact⟨n,by rw[hn];exact e⟩
    |_=>cases e
   |_=>rw[hf]at e;cases e
def Kl(h:Lb c o){bad:List Nat}{spec:Callee}{f:ae}{a:List ae}{W:AW}{r:ae×AW}(e:hO P bad spec o f a W=some r):∃n,hO P bad spec (c n) f a W=some r:=by
 unfold hO at e|-;cases f with
 |func fn fs cs=>
  cases fn with
  |func i=>
   simp only at e|-;cases hb:El i bad with
   |true=>rw[hb]at e;exact⟨0,e⟩
   |false=>
    rw[hb]at e;simp only at e|-;cases hf:P.funcs[i]? with
    |none=>rw[hf]at e;cases e
    |some fn=>
     rw[hf]at e;simp only at e|-;cases hc:fn.body with
     |none=>rw[hc]at e;cases e
     |some k=>
      rw[hc]at e;simp only at e|-;cases hl:Nat.ble (fs.toList.length+(a.length+cs.toList.length)) fn.ntmps with
      |false=>rw[hl]at e;cases e
      |true=>
       rw[hl]at e;simp only at e|-;cases hk:bA P o true fn.ntmps k (eD 0 (fs.toList++(a++cs.toList)) aj.blank) W with
       |none=>rw[hk]at e;cases e
       |some q=>rw[hk]at e;obtain⟨n,hn⟩:=vg h k hk;exact⟨n,by rw[hn];exact e⟩
  |yield l=>
   simp only at e|-;split at e;case h_2=>cases e
   rename_i R nt ps ajb bd hl;cases hn:Nat.beq (fs.toList.length+a.length) ps.size with
   |false=>rw[hn]at e;cases e
   |true=>
    rw[hn]at e;simp only at e|-;cases h1:bA P o false nt ajb (jZ ps.toList (fs.toList++a) R) W with
    |none=>rw[h1]at e;cases e
    |some q=>
     rw[h1]at e;obtain⟨n,XE⟩:=vg h ajb h1;obtain⟨x,R1,W1⟩:=q;cases x with
     |normal=>
      simp only at e;split at e;case h_2=>cases e
      rename_i Mq R9 HF Is Io H1 hg;cases h2:bA P o false nt bd R1 (W1.put l (.loop .busy Mq R9 HF Is Io H1))with
      |none=>rw[h2]at e;cases e
      |some q2=>rw[h2]at e;obtain⟨m,hm⟩:=vg h bd h2;refine⟨max n m,?_⟩;rw[ik (h.le (nQ n m)) ajb XE];simp only;rw[hg];simp only;rw[ik (h.le (qC n m)) bd hm];exact e
     |exit i=>cases e
     |ret=>cases e
  |_=>cases e
 |_=>cases e
end
end
end
section
variable [aj]
def N6.back{σ σ':cm}(hs:Sub σ σ'){f u u':Fn}(h:N6 σ f u)(k:N6 σ' f u'):N6 σ f u':=by
 cases h with
 |func f=>cases k;exact .func f
 |yield l g hg=>
  cases k with
  |yield _ g' wB=>have:=(hs _ _ hg).symm.trans wB;injection this with this;subst this;exact .yield l g hg
def VR.back{σ σ':cm}(hs:Sub σ σ'){v u:ae}(h:VR σ v u):∀{u':ae},VR σ' v u'->VR σ v u':=by
 induction h with
 |bool b=>intro u' k;cases k;exact .bool b
 |int k n=>intro u' k;cases k;exact .int _ _
 |float k n=>intro u' k;cases k;exact .float _ _
 |string s=>intro u' k;cases k;exact .string s
 |Ez=>intro u' k;cases k;exact .Ez
 |ptr a g hg mb=>
  intro u' k;cases k with
  |ptr _ g' wB Z6=>have:=(hs _ _ hg).symm.trans wB;injection this with this;subst this;exact .ptr a g hg mb
 |zn l c=>intro u' k;cases k;exact .zn _ _
 |slice a l c c' g hg mb hc=>
  intro u' k;cases k with
  |slice _ _ _ c2 g' wB Z6 qU=>have:=(hs _ _ hg).symm.trans wB;injection this with this;subst this;exact .slice a l c c2 g hg mb qU
  |cD _ a' _ g' wB qU=>have:=(hs _ _ hg).symm.trans wB;injection this with this;subst this;exact .cD a a' c g hg qU
 |cD a a' c g hg hc=>
  intro u' k;cases k with
  |slice _ _ _ c2 g' wB Z6 qU=>have:=(hs _ _ hg).symm.trans wB;injection this with this;subst this;exact .slice a 0 c c2 g hg Z6 qU
  |cD _ a2 _ g' wB qU=>exact .cD a a2 c g hg qU
 |FW=>intro u' k;cases k;exact .FW
 |map r g hg=>
  intro u' k;cases k with
  |map _ g' wB=>have:=(hs _ _ hg).symm.trans wB;injection this with this;subst this;exact .map r g hg
 |nilFunc=>intro u' k;cases k;exact .nilFunc
 |func fn zT fs pV cs bP hf h1 _ h3 _ ih1 ih2=>
  intro u' k;cases k with
  |func _ fn2 _ fs2 _ zS kf k1 k2 k3 k4=>
   refine .func _ _ _ _ _ _ (hf.back hs kf) k1 (λi v v' a b=>?_) k3 (λi v v' a b=>?_)
   ·have hi:i<pV.size:=by rw[<-h1];exact(cQ.1 a).1
    exact ih1 i v _ a (ft hi) (k2 i v v' a b)
   ·have hi:i<bP.size:=by rw[<-h3];exact(cQ.1 a).1
    exact ih2 i v _ a (ft hi) (k4 i v v' a b)
 |nilIface=>intro u' k;cases k;exact .nilIface
 |iface t v v' _ ih=>
  intro u' k;cases k with
  |iface _ _ v2 k=>exact .iface t v v2 (ih k)
 |agg cs bP h1 _ ih=>
  intro u' k;cases k with
  |agg _ zS k1 k2=>
   refine .agg _ _ k1 λi v v' a b=>?_
   have hi:i<bP.size:=by rw[<-h1];exact(cQ.1 a).1
   exact ih i v _ a (ft hi) (k2 i v v' a b)
 |tuple cs bP h1 _ ih=>
  intro u' k;cases k with
  |tuple _ zS k1 k2=>
   refine .tuple _ _ k1 λi v v' a b=>?_
   have hi:i<bP.size:=by rw[<-h1];exact(cQ.1 a).1
   exact ih i v _ a (ft hi) (k2 i v v' a b)
def jh.back{σ σ':cm}(hs:Sub σ σ'){h h':Array Obj}{g:pY}{o:de}(a:jh σ h g o)(b:jh σ' h' g o):jh σ h' g o:=by
 cases o with
 |cells cs=>obtain⟨c1,t1,_,_,_,_,_,e4⟩:=a;obtain⟨c2,t2,fr2,f1,f0,f2,f3,f4⟩:=b;refine⟨c2,t2,fr2,f1,f0,f2,f3,λi v hv=>?_⟩;obtain⟨v1,_,x⟩:=e4 i v hv;obtain⟨v2,y1,y2⟩:=f4 i v hv;exact⟨v2,y1,x.back hs y2⟩
 |ro cs=>obtain⟨c1,t1,fr1,_,_,e4⟩:=a;obtain⟨c2,t2,fr2,f1,f2,f4⟩:=b;refine⟨c2,t2,fr2,f1,f2,λi v hv=>?_⟩;obtain⟨v1,_,x⟩:=e4 i v hv;obtain⟨v2,y1,y2⟩:=f4 i v hv;exact⟨v2,y1,x.back hs y2⟩
 |map es gU=>
  obtain⟨e1,e2,es1,_,⟨e3,e4⟩⟩:=a;obtain⟨f1,f2,Pj,f3,⟨f4,f5⟩⟩:=b;refine⟨f1,f2,Pj,f3,f4,λi e e' x y=>?_⟩;have hi:i<es1.toList.length:=by rw[<-e3];exact(cr.1 x).1
  obtain⟨p1,p2,_⟩:=e4 i e _ x (cx hi);obtain⟨q1,q2,q3⟩:=f5 i e e' x y;exact⟨p1.back hs q1,p2.back hs q2,q3⟩
 |loop st jF R nt ps ajb bd=>obtain⟨_,_,r1,_,_,_,⟨_,e4⟩,_,_,_,e8,e9,e10⟩:=a;obtain⟨f1,f2,r2,f3,f4,f5,⟨f6,f7⟩,f8,f9,f10,_,_,_⟩:=b;exact⟨f1,f2,r2,f3,f4,f5,⟨f6,λt ht=>(e4 t ht).back hs (f7 t ht)⟩,f8,f9,f10,e8,e9,e10⟩
 |jy s pos=>exact b
 |tc t cs=>obtain⟨_,_,_,c1,_,_,_,e4⟩:=a;obtain⟨b1,b2,b3,c2,f1,f2,f3,f4⟩:=b;refine⟨b1,b2,b3,c2,f1,f2,f3,λi v hv=>?_⟩;obtain⟨v1,_,x⟩:=e4 i v hv;obtain⟨v2,y1,y2⟩:=f4 i v hv;exact⟨v2,y1,x.back hs y2⟩
structure Le (W W':AW):Prop where
 next:W.next<=W'.next
 get:∀b,b<W.next->W'.get b=W.get b
def Le.refl(W:AW):Le W W:=⟨aS _,λ_ _=>rfl⟩
def Le.trans{A B C:AW}(h:Le A B)(k:Le B C):Le A C:=⟨fK h.next k.next,λb hb=>(k.get b (ef hb h.next)).trans (h.get b hb)⟩
def Le.add{W W':AW}(h:Le W W')(o:de):Le W (W'.add o):=
 ⟨fK h.next (by rw[AW.aJ];omega),λb hb=>by rw[AW.aZ _ _ (by have:=h.next;omega)];exact h.get b hb⟩
def Le.put{W W':AW}(h:Le W W'){b:Nat}(hb:W.next<=b)(o:de):Le W (W'.put b o):=
 ⟨h.next,λc hc=>by rw[AW.aE _ _ (by omega)];exact h.get c hc⟩
def Le.kill{W W':AW}(h:Le W W'){b:Nat}(hb:W.next<=b):Le W (W'.kill b):=
 ⟨h.next,λc hc=>by rw[AW.db _ (by omega)];exact h.get c hc⟩
def Ps{σ σ':cm}{W W':AW}{w w':ap}(hW:aX σ W w.heap)(bk:Le W W')(h1:aX σ' W' w'.heap)(he:dE σ W w σ' W' w'):aX σ W w'.heap/\dE σ W w σ W w':=by
 have fy:∀b o,W.get b=some o->b<W.next:=λb o hb=>by
  rcases qF b W.next with h|h
  ·exact h
  ·rw[hW.free b h]at hb;cases hb
 refine⟨⟨hW.free,λb g hg=>⟨(hW.lH b g hg).1,ef (hW.lH b g hg).2 he.size⟩,λb o g hb hg=>?_,λb1 b2 o1 o2 g1 g2 dQ a1 a2 k1 k2 hr=>?_⟩,
  ⟨.refl _,λ_ _ h=>h,he.size,he.os,he.tape,he.output,he.dD,λ_ _ h k=>⟨h,k⟩,λb g hg _=>.inl hg⟩⟩
 ·exact(hW.obj b o g hb hg).back he.sub (h1.obj b o g (by rw[bk.get b (fy b o hb)];exact hb) (he.sub _ _ hg))
 ·exact hW.lP b1 b2 o1 o2 g1 g2 dQ a1 a2 k1 k2 hr
def VS:ae->Bool
 |.tuple vs=>vs.isEmpty
 |_=>false
def gc(W:AW)(r:ae×AW):ae×AW:=
 open Classical in if(a7 r.1&& !VS r.1)=true/\Le W r.2 then(r.1,W)else r
def sW{W W':AW}{v:ae}(hv:(a7 v&& !VS v)=true)(h:Le W W'):gc W (v,W')=(v,W):=by unfold gc;rw[ax ⟨hv,h⟩]
def uD{W W':AW}{v:ae}(hv:(a7 v&& !VS v)=false):gc W (v,W')=(v,W'):=by unfold gc;rw[ay (by simp only[hv];simp)]
def Tz(f:ae)(W:AW)(r:ae×AW):ae×AW:=match f with
 |.func (.func _) _ _=>gc W r
 |_=>r
def abg{P:ag}{ng:List Nat}{c:Callee}(hc:bB P ng c):bB P ng λf a W=>(c f a W).map (Tz f W):=by
 intro f args W v W' h σ w f' cw hW hG hf bY;simp only at h;cases hr:c f args W with
 |none=>rw[hr]at h;cases h
 |some q=>
  rw[hr]at h;obtain⟨v1,W1⟩:=q;have hk:=hc f args W v1 W1 hr σ w f' cw hW hG hf bY;simp only[bR,fb]at h;unfold Tz at h;split at h;case h_2=>injection h with e1 e2;subst e1;subst e2;exact hk
  unfold gc at h;split at h
  ·rename_i hp;injection h with e1 e2;subst e1;subst e2;have np:a7 v1=true:=(bm _ _▸hp.1).1;have key:∀(R R':ae->ap->Prop),(∀v' w',R v' w'->R' v' w')->rf P f' cw w R->rf P f' cw w R':=by
    intro R R' hRR hC;unfold rf at hC|-;split at hC
    ·exact⟨hC.1,kh hC.2 λe w' ⟨u,hu,hr⟩=>⟨u,hu,hRR _ _ hr⟩⟩
    ·obtain⟨f,tmps,ajb,bd,k1,k2⟩:=hC;exact⟨f,tmps,ajb,bd,k1,RoundIn.mono k2 λe w' ⟨u,hu,hr⟩=>⟨u,hu,hRR _ _ hr⟩⟩
    ·exact hC.elim
   refine key _ _ (λv' w' ⟨σ',k1,k2,k3⟩=>?_) hk;obtain⟨d1,d2⟩:=Ps hW hp.2 k2 k3;have:v'=v1:=dU np k1;subst this;exact⟨σ,fX np,d1,d2⟩
  ·injection h with e1 e2;subst e1;subst e2;exact hk
section
variable (P:ag) (bad:List Nat) (spec:Callee)
def gC:Nat->Callee
 |0=>λ_ _ _=>none
 |n+1=>λf a W=>(hO P bad spec (gC n) f a W).map (Tz f W)
def Yh:∀n,D9 (gC P bad spec n) (gC P bad spec (n+1)):=by
 intro n;induction n with
 |zero=>intro f a W r h;cases h
 |succ n ih=>
  intro f a W r h;have h':(hO P bad spec (gC P bad spec n) f a W).map (Tz f W)=some r:=h;show(hO P bad spec (gC P bad spec (n+1)) f a W).map (Tz f W)=some r;cases hb:hO P bad spec (gC P bad spec n) f a W with
  |none=>rw[hb]at h';cases h'
  |some q=>rw[hb]at h';rw[Mg ih _ _ _ _ hb];exact h'
def om:Callee:=λf a W=>open Classical in if h:∃r n,gC P bad spec n f a W=some r then some (Classical.choose h)else none
def Bu:Lb (gC P bad spec) (om P bad spec):=by
 refine⟨Yh P bad spec,λf a W r h=>?_⟩;unfold om at h;split at h
 ·rename_i hx;injection h with h;subst h;exact ul hx
 ·cases h
def Ze{n:Nat}{f:ae}{a:List ae}{W:AW}{r:ae×AW}(h:gC P bad spec n f a W=some r):om P bad spec f a W=some r:=by have hx:∃r n,gC P bad spec n f a W=some r:=⟨r,n,h⟩;unfold om;rw[dif_pos hx];obtain⟨m,hm⟩:=ul hx;have h1:=(Bu P bad spec).le (nQ n m) _ _ _ _ h;have h2:=(Bu P bad spec).le (qC n m) _ _ _ _ hm;rw[h1]at h2;exact h2.symm
def BO{f:ae}{a:List ae}{W:AW}{r:ae×AW}(h:hO P bad spec (om P bad spec) f a W=some r):om P bad spec f a W=some (Tz f W r):=by obtain⟨n,hn⟩:=Kl (Bu P bad spec) h;refine Ze P bad spec (n:=n+1) ?_;show(hO P bad spec (gC P bad spec n) f a W).map (Tz f W)=_;rw[hn];rfl
variable {P bad spec}
def RH(hm:P.follows .mixedOrders=true)(hP:i9 aj.ng bad 0 P.funcs.toList=true)(hs:bB P aj.ng spec):∀n,bB P aj.ng (gC P bad spec n)
 |0=>λf args W v W' h=>by cases h
 |n+1=>abg (vP hm rfl hP hs (RH hm hP hs n))
def aaz(hm:P.follows .mixedOrders=true)(hP:i9 aj.ng bad 0 P.funcs.toList=true)(hs:bB P aj.ng spec):bB P aj.ng (om P bad spec):=by intro f args W v W' h;obtain⟨n,hn⟩:=(Bu P bad spec).of _ _ _ _ h;exact RH hm hP hs n f args W v W' hn
def Tq{i:Nat}{fn:dV}{c:ba}(hb:El i bad=false)(hf:P.funcs[i]? =some fn)(hc:fn.body=some c){fs cs:Array ae}{args:List ae}
 (hn:Nat.ble (fs.toList.length+(args.length+cs.toList.length)) fn.ntmps=true){W:AW}{r:ae×AW}(h:PK P (om P bad spec) fn.ntmps c fn.results (fs.toList++(args++cs.toList)) W=some r):
 om P bad spec (.func (.func i) fs cs) args W=some (gc W r):=BO P bad spec (JQ hb hf hc hn h)
def MU{l nt:Nat}{R:aj.Fr}{ps:Array Tmp}{ajb bd:ba}{W:AW}(hl:W.get l=some (.loop .ready none R nt ps ajb bd)){fs cs:Array ae}{args:List ae}(hn:fs.toList.length+args.length=ps.size)
 {r:ae×AW}(h:Ch P (om P bad spec) l nt ajb bd (jZ ps.toList (fs.toList++args) R) W=some r):om P bad spec (.func (.yield l) fs cs) args W=some r:=BO P bad spec (C2 hl hn h)
def BL{i:Nat}(hb:El i bad=true){fs cs:Array ae}{args:List ae}{W:AW}{r:ae×AW}(h:spec (.func (.func i) fs cs) args W=some r):
 om P bad spec (.func (.func i) fs cs) args W=some (gc W r):=by
 refine BO P bad spec ?_;unfold hO;simp only[hb];exact h
end
end
section
variable [aj]
def sL{α ρ:Type}(a:α)(g:α->Option ρ):ak (some a) g=g a:=by rw[xM];rfl
section
variable {P:ag} {W:AW}
def Ux(v:ae):i8 v W=some (v,W):=aL rfl rfl
def gH(cs:Array ae):cN (.agg cs) W=some (.pointer (some ⟨W.next,0,none⟩),W.add (.cells cs.toList)):=aL rfl rfl
def Db(k:aK)(n:Int):cN (.int k n) W=some (.pointer (some ⟨W.next,0,none⟩),W.add (.cells [.int k n])):=aL rfl rfl
def J1(b:Bool):cN (.bool b) W=some (.pointer (some ⟨W.next,0,none⟩),W.add (.cells [.bool b])):=aL rfl rfl
def EX(s:ByteArray):cN (.string s) W=some (.pointer (some ⟨W.next,0,none⟩),W.add (.cells [.string s])):=aL rfl rfl
def yf(a:Option aM)(l c:Nat):cN (.slice a l c) W=some (.pointer (some ⟨W.next,0,none⟩),W.add (.cells [.slice a l c])):=aL rfl rfl
def Ke(f:Fn)(a b:Array ae):cN (.func f a b) W=some (.pointer (some ⟨W.next,0,none⟩),W.add (.cells [.func f a b])):=aL rfl rfl
def FY(f:fo)(a b:Array ae):sP (.func f) a b W=some (.func (.func f) a b,W):=aL rfl rfl
def Be(a b:ae):au (.tuple #[a,b]) 0 W=some (a,W):=aL rfl rfl
def BD(a b:ae):au (.tuple #[a,b]) 1 W=some (b,W):=aL rfl rfl
def BJ(a b c:ae):au (.tuple #[a,b,c]) 0 W=some (a,W):=aL rfl rfl
def Bp(a b c:ae):au (.tuple #[a,b,c]) 1 W=some (b,W):=aL rfl rfl
def BV(a b c:ae):au (.tuple #[a,b,c]) 2 W=some (c,W):=aL rfl rfl
def Ol(b:Bool):bi (.bool b) true=b:=by cases b<;>exact aL rfl rfl
def IG(b:Bool):bi (.bool b) false= !b:=by cases b<;>exact aL rfl rfl
def Md{ρ:Type}(a b:ρ):a8 true a b=a:=aL rfl rfl
def Jy{ρ:Type}(a b:ρ):a8 false a b=b:=aL rfl rfl
def Ny{ρ:Type}(c:Bool)(a b:Option ρ):bp (.bool c) a b=a8 c a b:=aL rfl rfl
def Gl(c:Bool)(a b:ae):bU (.bool c) a b W=some (a8 c a b,W):=by cases c<;>exact aL rfl rfl
def BR{ρ:Type}(a b:Option ρ):oG X.normal a b=a:=aL rfl rfl
def FD{ρ:Type}(i:Nat)(a b:Option ρ):oG (X.exit i) a b=b:=aL rfl rfl
def JO{ρ:Type}(a b:Option ρ):oG X.ret a b=b:=aL rfl rfl
def GZ{ρ:Type}(i:Nat)(a b:Option ρ):eQ i (X.exit i) a b=a:=by show Bool.rec b a (Nat.beq i i)=a;rw[mu]
def JZ{ρ:Type}(i:Nat)(a b:Option ρ):eQ i X.ret a b=b:=aL rfl rfl
def By{ρ:Type}(i:Nat)(a b:Option ρ):eQ i X.normal a b=b:=aL rfl rfl
def Kp{ρ:Type}(a:Option ρ):jG X.ret a=a:=aL rfl rfl
def P0(b:Bool):IE P .not (.bool b) W=some (.bool (!b),W):=aL rfl rfl
def R6(f:fo):cV f=.func (.func f) #[] #[]:=aL rfl rfl
def iE{op:BinOp}{t:ah}{c d:Bool}{k:aK}{a b:Int}{v:ae}(h:zU op k a b=some v):az P op t c d (.int k a) (.int k b) W=some (v,W):=by unfold az lK;simp only[ax,h]
def sZ{n:Int}(h1: -9223372036854775808<=n)(h2:n<9223372036854775808):IntKind.i64.wrap n=n:=by unfold IntKind.wrap;simp only[IntKind.bits,IntKind.signed,nW];split<;>rename_i h<;>simp at h<;>omega
def dg{t:ah}{c d:Bool}{a b:Int}(h1: -9223372036854775808<=a+b)(h2:a+b<9223372036854775808):az P .add t c d (.af a) (.af b) W=some (.af (a+b),W):=
 iE (by simp only[zU,m0,tf,sZ h1 h2])
def pz{t:ah}{c d:Bool}{a b:Int}(h1: -9223372036854775808<=a-b)(h2:a-b<9223372036854775808):az P .sub t c d (.af a) (.af b) W=some (.af (a-b),W):=
 iE (by simp only[zU,m0,tf,sZ h1 h2])
def Dd{t:ah}{c d:Bool}{a b:Int}(h1: -9223372036854775808<=a*b)(h2:a*b<9223372036854775808):az P .mul t c d (.af a) (.af b) W=some (.af (a*b),W):=
 iE (by simp only[zU,m0,tf,sZ h1 h2])
def N4{t:ah}{c d:Bool}{k:aK}{a b:Int}:az P .lss t c d (.int k a) (.int k b) W=some (.bool (decide (a<b)),W):=iE rfl
def M7{t:ah}{c d:Bool}{k:aK}{a b:Int}:az P .leq t c d (.int k a) (.int k b) W=some (.bool (decide (a<=b)),W):=iE rfl
def NT{t:ah}{c d:Bool}{k:aK}{a b:Int}:az P .gtr t c d (.int k a) (.int k b) W=some (.bool (decide (b<a)),W):=iE rfl
def Mm{t:ah}{c d:Bool}{k:aK}{a b:Int}:az P .geq t c d (.int k a) (.int k b) W=some (.bool (decide (b<=a)),W):=iE rfl
def No{t:ah}{c d:Bool}{k:aK}{a b:Int}:az P .eql t c d (.int k a) (.int k b) W=some (.bool (decide (a=b)),W):=iE rfl
def Mc{t:ah}{c d:Bool}{k:aK}{a b:Int}:az P .neq t c d (.int k a) (.int k b) W=some (.bool (!decide (a=b)),W):=iE rfl
def CU{s:Sem ae}{v:ae}(h:bI P s=some v):sC (bI P (do pure (.value (<-s))))=some v:=by
 induction s with
 |pure a=>simp only[bI]at h;injection h with h;subst h;rfl
 |program k ih=>exact ih P h
 |_=>simp[bI]at h
def uT{op:BinOp}{t:ah}{c d:Bool}{x y v:ae}(h0:lK P W op t x y=none)(hx:a7 x=true)(hy:a7 y=true)(hv:a7 v=true)
 (hp:bI P (do eqGuard op t (Wd c) (Wd d) x y;binOp op t x y:Sem ae)=some v):az P op t c d x y W=some (v,W):=by
 unfold az;rw[h0];simp only[iy,hx,hy,qA,bc,CU hp,hv,bR]
def xQ{t:ah}{c d:Bool}{k:aK}{a b:Int}(hb:b≠0):az P .rem t c d (.int k a) (.int k b) W=some (.int k (a.tmod b),W):=by refine uT (by simp[lK,zU]) rfl rfl rfl ?_;simp[eqGuard,binOp,Op.intDiv,hb];rfl
def Je{op:BinOp}(ho:op=.and\/op=.or\/op=.xor\/op=.andNot){t:ah}{c d:Bool}{k:aK}{a b n:Int}(h:bI P (Op.intBits op k a b)=some (.int k n)):az P op t c d (.int k a) (.int k b) W=some (.int k n,W):=by refine uT (by rcases ho with rfl|rfl|rfl|rfl<;>simp[lK,zU]) rfl rfl rfl ?_;rcases ho with rfl|rfl|rfl|rfl<;>simpa[eqGuard,binOp]using h
def Oe{t:ah}{c d:Bool}{k:aK}{a b:Int}:az P .and t c d (.int k a) (.int k b) W=some (.int k (k.wrap (BitVec.ofInt k.bits a&&&BitVec.ofInt k.bits b).toNat),W):=Je (.inl rfl) rfl
def dM{α β:Type}(s:Sem α)(f:α->Sem β):bI P (s>>=f)=(bI P s).bind λa=>bI P (f a):=by
 induction s with
 |pure a=>rfl
 |program k ih=>exact ih P
 |_=>rfl
def eF{α:Type}(a:α):bI P (pure a:Sem α)=some a:=aL rfl rfl
def wM:bI P (program:Sem ag)=some P:=aL rfl rfl
def dT{t:ah}{d:TypeDesc}(h:P.underlying t=some d):bI P (underlying t)=some d:=by unfold underlying;simp only[dM,wM,bl,h,eF]
def vj{t:ah}{c d:Bool}{a b:ByteArray}:az P .eql t c d (.string a) (.string b) W=some (.bool (a.toList==b.toList),W):=by
 refine uT ?_ rfl rfl rfl ?_
 ·simp only[lK];have h1:jB P W t (.string a) (.string b)=none:=by unfold jB;split<;>first|rfl|simp_all
  rw[h1];rfl
 ·rfl
def Jl{ts:Array ah}{ty:ah}{cf:Array Bool}{e:ah}(h:(ts[0]?).bind P.underlying=some (.slice e))(a:Option aM)(n c:Nat):aD P .len ts ty cf [.slice a n c] W=some (.af n,W):=by unfold aD;simp only[h];rfl
def Gx(v:ae):aG P [(v,none)] W=some (v,W):=aL rfl rfl
def Gr(v u:ae):aG P [(v,none),(u,none)] W=some (.tuple #[v,u],W):=aL rfl rfl
def FH(v u x:ae):aG P [(v,none),(u,none),(x,none)] W=some (.tuple #[v,u,x],W):=aL rfl rfl
def Nh:aG P [] W=some (.tuple #[],W):=aL rfl rfl
def dN{b o:Nat}{cs:List ae}{v:ae}(h:aH W b=some cs)(hv:cs[o]? =some v):aY (.pointer (some ⟨b,o,none⟩)) W=some (v,W):=by unfold aY;simp only[h,BB,hv,bR]
def fJ{n b o:Nat}{cs:List ae}(h:aH W b=some cs)(hv:((cs.drop o).take n).length=n):b9 n (.pointer (some ⟨b,o,none⟩)) W=some (.agg ((cs.drop o).take n).toArray,W):=by unfold b9;simp only[fG,h,hv,bc,bR]
def bw{b:Nat}{cs:List ae}(h:W.get b=some (.cells cs)):aH W b=some cs:=by unfold aH;rw[h]
def yM{b:Nat}{cs:List ae}(h:W.get b=some (.ro cs)):aH W b=some cs:=by unfold aH;rw[h]
def bO{cs:List ae}:aH (W.add (.cells cs)) W.next=some cs:=bw (W.bf _)
def vI{b:Nat}(o:de)(h:b<W.next):aH (W.add o) b=aH W b:=by unfold aH;rw[W.aZ o (by omega)]
def mg{b:Nat}(cs:List ae):aH (W.put b (.cells cs)) b=some cs:=bw (W.bH _ _)
def pC{b c:Nat}(o:de)(h:b≠c):aH (W.put b o) c=aH W c:=by unfold aH;rw[W.aE o h]
def Le.aH{W W':AW}(h:Le W W'){b:Nat}(hb:b<W.next):aH W' b=aH W b:=by unfold Eng.aH;rw[h.get b hb]
def uF{n b o:Nat}{cs:List ae}{v:ae}(h:W.get b=some (.cells cs))(hn:v.cells.size=n)(hl:o+v.cells.toList.length<=cs.length)(h1:v.cells.toList.all one=true):
 cS n (.pointer (some ⟨b,o,none⟩)) v W=some (ai,W.put b (.cells (fh cs o v.cells.toList))):=by
 unfold cS;simp only[hn,bc,yK,h,ax (show o+v.cells.toList.length<=cs.length/\v.cells.toList.all one=true from⟨hl,h1⟩),bR]
def Sd{b o off:Nat}:bq off (.pointer (some ⟨b,o,none⟩)) W=some (.pointer (some ⟨b,o+off,none⟩),W):=by unfold bq;simp only[cO]
def BS{z b o l c i:Nat}{k:aK}(h:i<l):j0 z (.slice (some ⟨b,o,none⟩) l c) (.int k (i:Int)) W=some (.pointer (some ⟨b,o+i*z,none⟩),W):=by unfold j0;simp only[iX,ax h,cO]
def BP{len z b o i:Nat}{k:aK}(h:i<len):Ik len z (.pointer (some ⟨b,o,none⟩)) (.int k (i:Int)) W=some (.pointer (some ⟨b,o+i*z,none⟩),W):=by unfold Ik;simp only[iX,ax h,cO]
end
section
variable {P:ag} {W:AW}
def Mv{b o:Nat}:aY (.pointer (some ⟨b,o,none⟩)) W=(aH W b).bind λcs=>(cs[o]?).map λv=>(v,W):=by
 unfold aY;simp only;cases aH W b with
 |none=>rfl
 |some cs=>simp only[bl,BB]
def G6{n b o:Nat}:b9 n (.pointer (some ⟨b,o,none⟩)) W=(aH W b).bind λcs=>if((cs.drop o).take n).length=n then some (.agg ((cs.drop o).take n).toArray,W)else none:=by
 unfold b9;simp only[fG];cases aH W b with
 |none=>rfl
 |some cs=>
  simp only[bl];by_cases h:((cs.drop o).take n).length=n
  ·rw[ax h,ax h];rfl
  ·rw[ay h,ay h];rfl
def aA(W:AW)(b:Nat):Option (List ae):=match W.get b with|some (.cells cs)=>some cs|_=>none
def ez{b:Nat}{cs:List ae}(h:aA W b=some cs):aH W b=some cs:=by
 unfold aA at h;split at h
 ·rename_i bP hg;injection h with h;subst h;exact bw hg
 ·cases h
def gb{b:Nat}{cs:List ae}(h:W.get b=some (.cells cs)):aA W b=some cs:=by unfold aA;rw[h]
def bz{cs:List ae}:aA (W.add (.cells cs)) W.next=some cs:=gb (W.bf _)
def eJ{b:Nat}(o:de)(h:b<W.next):aA (W.add o) b=aA W b:=by unfold aA;rw[W.aZ o (by omega)]
def bt{b:Nat}(cs:List ae):aA (W.put b (.cells cs)) b=some cs:=gb (W.bH _ _)
def aW{b c:Nat}(o:de)(h:b≠c):aA (W.put b o) c=aA W c:=by unfold aA;rw[W.aE o h]
def Le.aA{W W':AW}(h:Le W W'){b:Nat}(hb:b<W.next):aA W' b=aA W b:=by unfold Eng.aA;rw[h.get b hb]
def FX{n b o:Nat}{v:ae}:cS n (.pointer (some ⟨b,o,none⟩)) v W=(aA W b).bind λcs=>if v.cells.size=n/\o+v.cells.toList.length<=cs.length/\v.cells.toList.all one=true then some (ai,W.put b (.cells (fh cs o v.cells.toList)))else none:=by
 unfold cS aA;simp only[yK];by_cases h:v.cells.size=n
 ·rw[ax h];cases hg:W.get b with
  |none=>rfl
  |some obj=>
   cases obj with
   |cells cs=>
    simp only[bl];by_cases h2:o+v.cells.toList.length<=cs.length/\v.cells.toList.all one=true
    ·rw[ax h2,ax ⟨h,h2⟩];rfl
    ·rw[ay h2,ay (λx=>h2 x.2)];rfl
   |_=>rfl
 ·rw[ay h];cases hg:W.get b with
  |none=>rfl
  |some obj=>
   cases obj with
   |cells cs=>simp only[bl];rw[ay (λx=>h x.1)];rfl
   |_=>rfl
def rQ(P:ag)(t:ah):Option Nat:=match P.underlying t with
 |some (.slice e)=>jq P e
 |_=>none
def sm{t:ah}{z:Nat}(h:rQ P t=some z):∃e,P.underlying t=some (.slice e)/\jq P e=some z:=by
 unfold rQ at h;split at h
 ·rename_i e hu;exact⟨e,hu,h⟩
 ·cases h
def Ah{t:ah}{z:Nat}(hz:rQ P t=some z){b o l c h:Nat}{k:aK}(h1:h<=c)(h2:c<eS):
 dX P t (.slice (some ⟨b,o,none⟩) l c) none (some (.int k (h:Int))) none W=some (.slice (some ⟨b,o,none⟩) h c,W):=by
 obtain⟨e,he,hz⟩:=sm hz;have hb:¬(c=eS+z/\0<z):=λx=>by omega
 have h0:((⟨b,o,none⟩:aM).add (0*z))=⟨b,o,none⟩:=by rw[cO];simp
 unfold dX jS;simp only[he,hz,eW,iX,Nat.zero_le,bc,ay hb,ax (aI h2 h1),Nat.sub_zero,h0,ite_self]
def iY(P:ag)(ts:Array ah)(z bytes:Nat):Bool:=match ts.toList with
 |[t0,t1]=>Nat.beq t0 t1&&(match g8 P t0 with
  |some e=>(match jq P e,(P.info? e).map (λi=>(i.zero,i.bytes))with
   |some z',some (some zv,Sa)=>Nat.beq z' z&&Nat.beq Sa bytes&&Nat.blt 0 z&&Nat.beq zv.cells.size z
   |_,_=>false)
  |none=>false)
 |_=>false
def jb{ts:Array ah}{z bytes:Nat}(h:iY P ts z bytes=true):∃t e zv,ts.toList=[t,t]/\g8 P t=some e/\jq P e=some z/\(P.info? e).map (λi=>(i.zero,i.bytes))=some (some zv,bytes)/\0<z/\zv.cells.size=z:=by
 unfold iY at h;split at h;case h_2=>cases h
 rename_i t0 t1 hl;simp only[bm,dp]at h;obtain⟨h0,h⟩:=h;subst h0;split at h;case h_2=>cases h
 rename_i e he;split at h;case h_2=>cases h
 rename_i z' zv b' h1 h2;simp only[bm,dp,gO]at h;obtain⟨⟨⟨h3,h4⟩,h5⟩,h6⟩:=h;subst h3;subst h4;exact⟨t0,e,zv,hl,he,h1,h2,h5,h6⟩
def wN{ts:Array ah}{z bytes:Nat}(hk:iY P ts z bytes=true){b o n c:Nat}{cs new:List ae}(hc:aH W b=some cs)(hn:new=(cs.drop o).take (n*z))(hl:new.length=n*z)(h0:0<n)(h1:new.all one=true)
 (hb:n<1099511627776)(gW:(2*n+192)*bytes<=281474976710656):
 aN P W ts (.slice none 0 0) (.slice (some ⟨b,o,none⟩) n c)=some (.slice (some ⟨W.next,0,none⟩) n (eS+z),W.add (.cells new)):=by
 obtain⟨t,e,zv,k1,k2,k3,k4,k5,k6⟩:=jb hk;have hr:iZ W b o (n*z)=some new:=by rw[fG,hc];simp only;rw[ax (by rw[<-hn];exact hl),hn]
 have hB:(0:Nat)<eS:=by unfold eS;omega
 have Ia:¬(0:Nat)=eS+z:=by unfold eS;omega
 have R3:bC W (.slice (some ⟨b,o,none⟩) n c) (n*z)=some new:=by unfold bC;simp only;rw[ay (by have:=jp h0 k5;omega),bX];exact hr
 have KQ:bC W (.slice none 0 0) (0*z)=some []:=by unfold bC;simp
 unfold aN;simp only[k1,k2,k3,k4,bc,aU,ax (aI k5 (aI k6 (aI hb gW))),ay (show¬n=0 by omega),R3,KQ,h1,ay Ia,ax hB,md,mB,AW.cF]
def Ht{ts:Array ah}{z bytes:Nat}(hk:iY P ts z bytes=true){b o n c:Nat}{cs new:List ae}(hc:aH W b=some cs)(hn:new=(cs.drop o).take (n*z))(hl:new.length=n*z)(h0:0<n)(h1:new.all one=true)
 {B m:Nat}{lI:List ae}(ho:W.get B=some (.cells lI))(La:lI.length=m*z)
 (hb:m+n<1099511627776)(gW:(2*(m+n)+192)*bytes<=281474976710656)(hm:0<m):
 aN P W ts (.slice (some ⟨B,0,none⟩) m (eS+z)) (.slice (some ⟨b,o,none⟩) n c)=some (.slice (some ⟨W.next,0,none⟩) (m+n) (eS+z),(W.kill B).add (.cells (lI++new))):=by
 obtain⟨t,e,zv,k1,k2,k3,k4,k5,k6⟩:=jb hk;have hr:iZ W b o (n*z)=some new:=by rw[fG,hc];simp only;rw[ax (by rw[<-hn];exact hl),hn]
 have R3:bC W (.slice (some ⟨b,o,none⟩) n c) (n*z)=some new:=by unfold bC;simp only;rw[ay (by have:=jp h0 k5;omega),bX];exact hr
 have lT:iZ W B 0 (m*z)=some lI:=by rw[fG,bw ho];simp only[ol];rw[mz (by omega),ax La]
 have KQ:bC W (.slice (some ⟨B,0,none⟩) m (eS+z)) (m*z)=some lI:=by unfold bC;simp only;rw[ay (by have:=jp hm k5;omega),bX];exact lT
 unfold aN;simp only[k1,k2,k3,k4,bc,ax (aI k5 (aI k6 (aI hb gW))),ay (show¬n=0 by omega),R3,KQ,h1,ho,AW.cF,AW.dm]
end
def Gs{body:aj.Fr->AW->Option LT}:∀(n m:Nat) (I:Nat->aj.Fr->AW->Prop) (Q:LT->Prop) (R:aj.Fr) (W:AW),n<m->I 0 R W->
 (∀k R W,k<n->I k R W->∃r,body R W=some r/\((r.1=.normal/\I (k+1) r.2.1 r.2.2)\/(r.1≠ .normal/\Q r)))->
 (∀R W,I n R W->∃r,body R W=some r/\r.1≠ .normal/\Q r)->∃r,gF body m R W=some r/\r.1≠ .normal/\Q r:=by
 intro n;induction n with
 |zero=>
  intro m I Q R W hm h0 _ he;obtain⟨m,rfl⟩:∃k,m=k+1:=⟨m-1,by omega⟩;obtain⟨⟨x,R',W'⟩,h1,h2,h3⟩:=he R W h0;refine⟨_,?_,h2,h3⟩;unfold gF;rw[h1];cases x with
  |normal=>exact absurd rfl h2
  |exit i=>rfl
  |ret=>rfl
 |succ n ih=>
  intro m I Q R W hm h0 hs he;obtain⟨m,rfl⟩:∃k,m=k+1:=⟨m-1,by omega⟩;obtain⟨⟨x,R',W'⟩,h1,h2⟩:=hs 0 R W (by omega) h0;rcases h2 with⟨h2,h3⟩|⟨h2,h3⟩
  ·simp only at h2 h3;subst h2;obtain⟨r,k1,k2,k3⟩:=ih m (λk=>I (k+1)) Q R' W' (by omega) h3 (λk R W hk hI=>hs (k+1) R W (by omega) hI) he;refine⟨r,?_,k2,k3⟩;unfold gF;rw[h1];exact k1
  ·refine⟨_,?_,h2,h3⟩;unfold gF;rw[h1];cases x with
   |normal=>exact absurd rfl h2
   |exit i=>rfl
   |ret=>rfl
def I6{body:aj.Fr->AW->Option LT}(n:Nat)(hn:n<1000000)(I:Nat->aj.Fr->AW->Prop)(Q:LT->Prop){R:aj.Fr}{W:AW}(h0:I 0 R W)
 (hs:∀k R W,k<n->I k R W->∃r,body R W=some r/\((r.1=.normal/\I (k+1) r.2.1 r.2.2)\/(r.1≠ .normal/\Q r)))
 (he:∀R W,I n R W->∃r,body R W=some r/\r.1≠ .normal/\Q r):∃r,dP body R W=some r/\Q r:=by
 rw[EO];obtain⟨r,h1,_,h2⟩:=Gs n 1000000 I Q R W hn h0 hs he;exact⟨r,h1,h2⟩
end
section
variable [aj]
def WQ(P:ag)(i nt n:Nat):Bool:=match P.funcs[i]? with
 |some fn=>fn.body.isSome&&(Nat.beq fn.ntmps nt&&Nat.ble n nt)
 |none=>false
def b8{P:ag}{bad:List Nat}{spec:Callee}{i nt n:Nat}(hb:El i bad=false)(hk:WQ P i nt n=true){fs cs:Array ae}{args:List ae}(hn:fs.toList.length+(args.length+cs.toList.length)=n){W:AW}{r:ae×AW}
 (h:PK P (om P bad spec) nt (FA P i) (Rt P i) (fs.toList++(args++cs.toList)) W=some r):om P bad spec (.func (.func i) fs cs) args W=some (gc W r):=by
 unfold WQ at hk;unfold FA Rt at h;cases hf:P.funcs[i]? with
 |none=>rw[hf]at hk;cases hk
 |some fn=>
  rw[hf]at hk h;simp only[bm,dp]at hk h;obtain⟨h1,h2,h3⟩:=hk;cases hc:fn.body with
  |none=>rw[hc]at h1;cases h1
  |some c=>rw[hc]at h;simp only at h;subst h2;exact Tq hb hf hc (by rw[hn];exact h3) h
end
section
variable [aj]
@[congr] theorem VN {α ρ:Type} {x y:Option α} {g:α->Option ρ} (h:x=y):ak x g=ak y g:=by rw[h]
@[congr] theorem V6 {ρ:Type} {c d:Bool} {a b:ρ} (h:c=d):a8 c a b=a8 d a b:=by rw[h]
@[congr] theorem Wg {ρ:Type} {c d:ae} {a b:Option ρ} (h:c=d):bp c a b=bp d a b:=by rw[h]
@[congr] theorem QT {ρ:Type} {i:Nat} {x y:X} {a b:Option ρ} (h:x=y):eQ i x a b=eQ i y a b:=by rw[h]
@[congr] theorem Rb {ρ:Type} {x y:X} {a b:Option ρ} (h:x=y):oG x a b=oG y a b:=by rw[h]
@[congr] theorem Rv {ρ:Type} {x y:X} {a:Option ρ} (h:x=y):jG x a=jG y a:=by rw[h]
theorem Uy{W W':AW}{k:aK}{n:Int}(h:Le W W'):gc W (.int k n,W')=(.int k n,W):=sW rfl h
def w6{W W':AW}{b:Bool}(h:Le W W'):gc W (.bool b,W')=(.bool b,W):=sW rfl h
section
variable {P:ag} {W:AW}
def Jk{k:aK}{n:Int}(h:0<=n):iX (.int k n)=some n.toNat:=by obtain⟨m,rfl⟩:∃m:Nat,n=(m:Int):=⟨n.toNat,by omega⟩;exact aL rfl rfl
def HC{len z b o:Nat}{k:aK}{n:Int}(h0:0<=n)(h:n.toNat<len):Ik len z (.pointer (some ⟨b,o,none⟩)) (.int k n) W=some (.pointer (some ⟨b,o+n.toNat*z,none⟩),W):=by unfold Ik;simp only[Jk h0,ax h,cO]
def QG(g:Nat):Yf g=.pointer (some ⟨g,0,none⟩):=aL rfl rfl
def sN(W:AW)(o o':de):(W.add o).put W.next o'=W.add o':=by unfold AW.add AW.put;simp only[T.set_set]
def Qi(W:AW)(b:Nat)(o o':de):(W.put b o).put b o'=W.put b o':=by unfold AW.put;simp only[T.set_set]
def Kn(cs:Array ae):(Value.agg cs).cells=cs:=aL rfl rfl
def Lg(cs:List ae)(o:Nat)(v:ae)(h:o<cs.length):fh cs o [v]=cs.set o v:=by unfold fh;rw[Bj];simp[h]
def ky{b o:Nat}{v:ae}(h:v.cells=#[v])(h1:one v=true):cS 1 (.pointer (some ⟨b,o,none⟩)) v W=(aA W b).bind λcs=>if o<cs.length then some (ai,W.put b (.cells (cs.set o v)))else none:=by
 rw[FX,h];congr 1;funext cs;by_cases hl:o<cs.length
 ·rw[ax hl,ax ⟨rfl,by simp;omega,by simp[h1]⟩,Lg _ _ _ hl]
 ·rw[ay hl,ay (λx=>hl (by have:=x.2.1;simp at this;omega))]
def kw{b o:Nat}{k:aK}{n:Int}:cS 1 (.pointer (some ⟨b,o,none⟩)) (.int k n) W=(aA W b).bind λcs=>if o<cs.length then some (ai,W.put b (.cells (cs.set o (.int k n))))else none:=ky rfl rfl
def Eh{b o:Nat}{x:Bool}:cS 1 (.pointer (some ⟨b,o,none⟩)) (.bool x) W=(aA W b).bind λcs=>if o<cs.length then some (ai,W.put b (.cells (cs.set o (.bool x))))else none:=ky rfl rfl
def Gz{b o:Nat}{x:ByteArray}:cS 1 (.pointer (some ⟨b,o,none⟩)) (.string x) W=(aA W b).bind λcs=>if o<cs.length then some (ai,W.put b (.cells (cs.set o (.string x))))else none:=ky rfl rfl
def Kd{b o:Nat}{x:Option aM}{l c:Nat}:cS 1 (.pointer (some ⟨b,o,none⟩)) (.slice x l c) W=(aA W b).bind λcs=>if o<cs.length then some (ai,W.put b (.cells (cs.set o (.slice x l c))))else none:=ky rfl rfl
def qq{n b o:Nat}{vs:Array ae}:cS n (.pointer (some ⟨b,o,none⟩)) (.agg vs) W=(aA W b).bind λcs=>if vs.size=n/\o+vs.toList.length<=cs.length/\vs.toList.all one=true then some (ai,W.put b (.cells (fh cs o vs.toList)))else none:=FX
def oa(k:aK)(n:Int):one (.int k n)=true:=aL rfl rfl
def od(s:ByteArray):one (.string s)=true:=aL rfl rfl
def Lj(s:Bool):one (.bool s)=true:=aL rfl rfl
def KI(a:Option aM)(l c:Nat):one (.slice a l c)=true:=aL rfl rfl
def L7{r:Option (ae×AW)}{u v:ae}{W':AW}(h:r=some (u,W'))(h2:gu u v=true):Oy true r v=true:=by subst h;exact h2
def Aq(k:aK)(n:Int):gu (.int k n) (.int k n)=true:=by simp[gu,rJ]
def GU(b:Bool):gu (.bool b) (.bool b)=true:=by simp[gu,rJ]
def AY(s:ByteArray):gu (.string s) (.string s)=true:=by simp[gu,rJ,tP]
def tz{t:ah}{c d:Bool}{x y:Array ae}{r:Bool}(hg:P.eqGuardType P.depth t=false)(h:Gk P 8 t (.agg x) (.agg y)=some r):az P .neq t c d (.agg x) (.agg y) W=some (.bool (!r),W):=by
 have h0:jB P W t (.agg x) (.agg y)=none:=by unfold jB;split<;>first|rfl|simp_all
 unfold az lK;simp only[h0,yB,hg,kW,cE,h,bR]
def qZ:List (Int×Int)->Option Bool
 |[]=>some true
 |p::l=>match some (p.1==p.2)with
  |some true=>qZ l
  |some false=>some false
  |none=>none
def mQ:∀l:List (Int×Int),qZ l=some (l.all λp=>p.1==p.2)
 |[]=>rfl
 |p::l=>by
  unfold qZ;cases h:p.1==p.2 with
  |true=>simp only[fa,h,nW];exact mQ l
  |false=>simp only[fa,h,pH]
def QH(k:aK)(n:Int):rJ (.int k n) (.int k n)=true:=by simp[rJ]
def Fw(s:ByteArray):rJ (.string s) (.string s)=true:=by simp[rJ,tP]
def Nt(s:Bool):rJ (.bool s) (.bool s)=true:=by simp[rJ]
def mT(b o l c:Nat):rJ (.slice (some ⟨b,o,none⟩) l c) (.slice (some ⟨b,o,none⟩) l c)=true:=by simp[rJ,uV]
def y7(l c:Nat):rJ (.slice none l c) (.slice none l c)=true:=by simp[rJ]
def HO(b o:Nat):rJ (.pointer (some ⟨b,o,none⟩)) (.pointer (some ⟨b,o,none⟩))=true:=by simp[rJ,uV]
def vm{cs:Array ae}(h:Qq cs.toList cs.toList=true):gu (.agg cs) (.agg cs)=true:=h
def Gb(a b c d:ae)(h1:rJ a a=true)(h2:rJ b b=true)(h3:rJ c c=true)(h4:rJ d d=true):gu (.agg #[a,b,c,d]) (.agg #[a,b,c,d])=true:=vm (by simp[Qq,h1,h2,h3,h4])
def mi(b o l c:Nat):gu (.slice (some ⟨b,o,none⟩) l c) (.slice (some ⟨b,o,none⟩) l c)=true:=mT b o l c
def sd(l c:Nat):gu (.slice none l c) (.slice none l c)=true:=y7 l c
def KO(b o:Nat):gu (.pointer (some ⟨b,o,none⟩)) (.pointer (some ⟨b,o,none⟩))=true:=HO b o
def ph{u v:ae}{W':AW}:Oy true (some (u,W')) v=gu u v:=aL rfl rfl
end
def Ok{ρ:Type}(t:Option ρ)(G:ρ->Prop):Prop:=∃x,t=some x/\G x
def aq{ρ:Type}{x:ρ}{G:ρ->Prop}:Ok (some x) G<->G x:=⟨λ⟨y,h,g⟩=>by injection h with h;subst h;exact g,λg=>⟨x,rfl,g⟩⟩
def df{ρ:Type}{body:aj.Fr->AW->Option LT}{R:aj.Fr}{W:AW}{K:LT->Option ρ}{G:ρ->Prop}(n:Nat)(hn:n<1000000)(I:Nat->aj.Fr->AW->Prop)(Q:LT->Prop)(h0:I 0 R W)
 (hs:∀k R W,k<n->I k R W->Ok (body R W) λr=>(r.1=.normal/\I (k+1) r.2.1 r.2.2)\/(r.1≠ .normal/\Q r))
 (he:∀R W,I n R W->Ok (body R W) λr=>r.1≠ .normal/\Q r)(hk:∀r,Q r->Ok (K r) G):Ok (ak (dP body R W) K) G:=by
 obtain⟨r,h1,h2⟩:=I6 n hn I Q h0 hs he;rw[h1,sL];exact hk r h2
def cG{o t:Option (ae×AW)}{v:ae}{W:AW}(hv:(a7 v&& !VS v)=true)(h:Ok t λr=>r.1=v/\Le W r.2)(K7:∀{r},t=some r->o=some (gc W r)):o=some (v,W):=by obtain⟨⟨u,W'⟩,h1,h2,h3⟩:=h;simp only at h2;subst h2;rw[K7 h1,sW hv h3]
def Row{α:Type}(W:AW)(z:Nat)(at_:List ae->Nat->α->Prop)(v:ae)(l:List α):Prop:=
 ∃a c,v=.slice a l.length c/\(l=[]\/∃b o cs,a=some ⟨b,o,none⟩/\b<W.next/\aH W b=some cs/\∀i (h:i<l.length),at_ cs (o+i*z) l[i])
def vQ(k:aK)(cs:List ae)(p:Nat)(n:Int):Prop:=cs[p]? =some (.int k n)
abbrev lR(W:AW)(v:ae)(l:List Int):Prop:=Row W 1 (vQ .i64) v l
def Row.mono{α:Type}{W W':AW}{z:Nat}{at_:List ae->Nat->α->Prop}{v:ae}{l:List α}(h:Row W z at_ v l)(bk:Le W W'):Row W' z at_ v l:=by
 obtain⟨a,c,rfl,h⟩:=h;refine⟨a,c,rfl,?_⟩;rcases h with h|⟨b,o,cs,h1,h2,h3,h4⟩
 ·exact .inl h
 ·exact .inr ⟨b,o,cs,h1,ef h2 bk.next,by rw[bk.aH h2];exact h3,h4⟩
def Row.len{α:Type}{W:AW}{z:Nat}{at_:List ae->Nat->α->Prop}{v:ae}{l:List α}(h:Row W z at_ v l){P:ag}{ts:Array ah}{e:ah}(ht:(ts[0]?).bind P.underlying=some (.slice e))(W':AW)(ty:ah)(cf:Array Bool):
 aD P .len ts ty cf [v] W'=some (.af l.length,W'):=by
 obtain⟨a,c,rfl,_⟩:=h;exact Jl ht _ _ _
def Row.elem{α:Type}{W:AW}{z:Nat}{at_:List ae->Nat->α->Prop}{v:ae}{l:List α}(h:Row W z at_ v l){i:Nat}(hi:i<l.length):
 ∃b o cs,(∀W' k,j0 z v (.int k (i:Int)) W'=some (.pointer (some ⟨b,o,none⟩),W'))/\b<W.next/\aH W b=some cs/\at_ cs o l[i]:=by
 obtain⟨a,c,rfl,h⟩:=h;rcases h with rfl|⟨b,o,cs,rfl,h2,h3,h4⟩
 ·simp at hi
 ·exact⟨b,o+i*z,cs,λW' k=>BS hi,h2,h3,h4 i hi⟩
def lR.get{W:AW}{v:ae}{l:List Int}(h:lR W v l){i:Nat}(hi:i<l.length):
 ∃p,(∀W' k,j0 1 v (.int k (i:Int)) W'=some (p,W'))/\∀W',Le W W'->aY p W'=some (.af l[i],W'):=by
 obtain⟨b,o,cs,h1,h2,h3,h4⟩:=h.elem hi;exact⟨_,h1,λW' bk=>dN (by rw[bk.aH h2];exact h3) h4⟩
end
end Go.Eng
namespace Go.Eng
open Go Go.RowKit
section
variable [aj]
def Hj:Option (ae×AW)->Bool
 |some (v,_)=>match v with
  |.bool b=>b
  |_=>false
 |none=>false
def Km{r:Option (ae×AW)}(h:Hj r=true):∃W,r=some (.bool true,W):=by
 unfold Hj at h;split at h
 ·rename_i v W;split at h
  ·subst h;exact⟨W,rfl⟩
  ·cases h
 ·cases h
def TA{P:ag}{ng:List Nat}:bB P ng (λ_ _ _=>none):=λf args W v W' h=>by cases h
def Gh(W w':ap):Prop:=W.keptBut w' (λ_=>False)/\(∀a:aM,a.block<W.heap.size->w'.frozen? a=W.frozen? a)/\W.heap.size<=w'.heap.size
def Gh.frame{W w':ap}(h:Gh W w')(may:cI->Prop):W.keptBut w' may:=World.keptBut_mono (λ_ f=>f.elim) h.1
def Gg{σ:cm}:∀{args:List ae},args.all a7=true->LR σ args args:=by intro args h;exact LR.jt (λv=>fX) h
end
section
variable [aj]
def σG(gs:List (Nat×List ae)):cm:=λb=>(gs.find? (λx=>x.1==b)).map λx=>⟨x.1,0,x.2.length⟩
def xG(gs:List (Nat×List ae)):T de:=gs.foldr (λx t=>T.set (some (.ro x.2)) (path x.1) t) .lf
def WG(gs:List (Nat×List ae))(N:Nat):AW:=⟨xG gs,N⟩
def qr(b:Nat):∀gs:List (Nat×List ae),T.get (path b) (xG gs)=(gs.find? (λx=>x.1==b)).map λx=>de.ro x.2
 |[]=>T.uu _
 |x::gs=>by
  show T.get (path b) (T.set (some (.ro x.2)) (path x.1) (xG gs))=_;by_cases h:x.1=b
  ·subst h;rw[T.iC];simp
  ·rw[T.eL _ _ _ _ (qH h),qr b gs];have hb:(x.1==b)=false:=by simpa using h
   rw[List.find?_cons,hb]
def rl(gs:List (Nat×List ae))(h:Array Obj):Prop:=
 ∀x∈gs,∃c t fr,h[x.1]? =some (.cells c t fr)/\∀(i:Nat) (v:ae),x.2[i]? =some v->c[i]? =some v/\bZ v=true
def mO{gs:List (Nat×List ae)}{b:Nat}{g:pY}(h:σG gs b=some g):∃x∈gs,x.1=b/\g=⟨b,0,x.2.length⟩/\T.get (path b) (xG gs)=some (de.ro x.2):=by
 unfold σG at h;cases hf:gs.find? (λx=>x.1==b)with
 |none=>rw[hf]at h;cases h
 |some x=>
  rw[hf]at h;have hb:x.1=b:=by simpa using List.find?_some hf
  refine⟨x,Ca hf,hb,?_,?_⟩
  ·cases h;subst hb;rfl
  ·show T.get (path b) (xG gs)=_;rw[qr,hf];rfl
def RZ{gs:List (Nat×List ae)}{N:Nat}(hN:gs.all (λx=>Nat.blt x.1 N)=true){h:Array Obj}(hl:rl gs h):aX (σG gs) (WG gs N) h where
 free b hb:=by
  show T.get (path b) (xG gs)=none;rw[qr];cases hf:gs.find? (λx=>x.1==b)with
  |none=>rfl
  |some x=>
   have KR:x.1=b:=by simpa using List.find?_some hf
   have:=bV.1 hN x (Ca hf);have:x.1<N:=by simpa[gO]using this
   exact absurd hb (by show¬N<=b;omega)
 lH b g hb:=by
  obtain⟨x,hx,rfl,rfl,_⟩:=mO hb;obtain⟨c,t,fr,h1,_⟩:=hl x hx;have:=bV.1 hN x hx;have h3:x.1<N:=by simpa[gO]using this
  exact⟨h3,(cQ.1 h1).1⟩
 obj b o g hb hg:=by obtain⟨x,hx,rfl,rfl,ht⟩:=mO hg;obtain⟨c,t,fr,h1,h2⟩:=hl x hx;obtain rfl:o=.ro x.2:=sU (hb.symm.trans ht);exact⟨c,t,fr,h1,by simp,λi v hv=>⟨v,by simpa using(h2 i v hv).1,dx (h2 i v hv).2⟩⟩
 lP b1 b2 o1 o2 g1 g2 dQ _ _ h1 h2 _:=by obtain⟨x1,_,rfl,rfl,_⟩:=mO h1;obtain⟨x2,_,rfl,rfl,_⟩:=mO h2;exact .inl dQ
def MK{gs:List (Nat×List ae)}{ng:List Nat}(h:ng.all (λg=>(gs.find? (λx=>x.1==g)).isSome)=true):qM (σG gs) ng:=by
 intro g hg;have:=bV.1 h g hg;cases hf:gs.find? (λx=>x.1==g)with
 |none=>rw[hf]at this;cases this
 |some x=>
  have KR:x.1=g:=by simpa using List.find?_some hf
  exact⟨x.2.length,by unfold σG;rw[hf];subst KR;rfl⟩
def aaP{gs:List (Nat×List ae)}{N:Nat}{B:Nat}:¬SM (σG gs) (WG gs N) B:=by rintro⟨b,g,hg,_,lT⟩;obtain⟨x,_,_,_,ht⟩:=mO hg;exact lT x.2 ht
end
end Go.Eng
namespace Go.Eng
open Go Go.RowKit Go.ChangeShapes
section
variable {H:Type} {enc:ah×ae->H} {P:ag} {w:ap} {base:Nat} {NY:Nat->Bool} {held:Bool}
end
end Go.Eng
namespace Go.Eng
open Go Go.RowKit
open Go.Maps (Keyed)
section
variable [aj]
section
variable {H:Type}
def Pe(j:Nat)(g b:Bool):List (Lit×bs H):=match g with|true=>[(.af ((2^ j:Nat):Int),.lit (.bool b))]|false=>[]
def Cd(g0 g1 g2 g3 g4 g5 g6 g7 b0 b1 b2 b3 b4 b5 b6 b7:Bool):bs H:=
 .map (Pe 0 g0 b0++(Pe 1 g1 b1++(Pe 2 g2 b2++(Pe 3 g3 b3++(Pe 4 g4 b4++(Pe 5 g5 b5++(Pe 6 g6 b6++Pe 7 g7 b7)))))))
variable (g0 g1 g2 g3 g4 g5 g6 g7 b0 b1 b2 b3 b4 b5 b6 b7:Bool)
def ad5:(Cd (H:=H) g0 g1 g2 g3 g4 g5 g6 g7 b0 b1 b2 b3 b4 b5 b6 b7).put (.af 1) (.lit (.bool b0))=Cd true g1 g2 g3 g4 g5 g6 g7 b0 b1 b2 b3 b4 b5 b6 b7:=by cases g0<;>cases g1<;>cases g2<;>cases g3<;>cases g4<;>cases g5<;>cases g6<;>cases g7<;>rfl
def acN:(Cd (H:=H) g0 g1 g2 g3 g4 g5 g6 g7 b0 b1 b2 b3 b4 b5 b6 b7).put (.af 2) (.lit (.bool b1))=Cd g0 true g2 g3 g4 g5 g6 g7 b0 b1 b2 b3 b4 b5 b6 b7:=by cases g0<;>cases g1<;>cases g2<;>cases g3<;>cases g4<;>cases g5<;>cases g6<;>cases g7<;>rfl
def acF:(Cd (H:=H) g0 g1 g2 g3 g4 g5 g6 g7 b0 b1 b2 b3 b4 b5 b6 b7).put (.af 4) (.lit (.bool b2))=Cd g0 g1 true g3 g4 g5 g6 g7 b0 b1 b2 b3 b4 b5 b6 b7:=by cases g0<;>cases g1<;>cases g2<;>cases g3<;>cases g4<;>cases g5<;>cases g6<;>cases g7<;>rfl
def acH:(Cd (H:=H) g0 g1 g2 g3 g4 g5 g6 g7 b0 b1 b2 b3 b4 b5 b6 b7).put (.af 8) (.lit (.bool b3))=Cd g0 g1 g2 true g4 g5 g6 g7 b0 b1 b2 b3 b4 b5 b6 b7:=by cases g0<;>cases g1<;>cases g2<;>cases g3<;>cases g4<;>cases g5<;>cases g6<;>cases g7<;>rfl
def adL:(Cd (H:=H) g0 g1 g2 g3 g4 g5 g6 g7 b0 b1 b2 b3 b4 b5 b6 b7).put (.af 16) (.lit (.bool b4))=Cd g0 g1 g2 g3 true g5 g6 g7 b0 b1 b2 b3 b4 b5 b6 b7:=by cases g0<;>cases g1<;>cases g2<;>cases g3<;>cases g4<;>cases g5<;>cases g6<;>cases g7<;>rfl
def acW:(Cd (H:=H) g0 g1 g2 g3 g4 g5 g6 g7 b0 b1 b2 b3 b4 b5 b6 b7).put (.af 32) (.lit (.bool b5))=Cd g0 g1 g2 g3 g4 true g6 g7 b0 b1 b2 b3 b4 b5 b6 b7:=by cases g0<;>cases g1<;>cases g2<;>cases g3<;>cases g4<;>cases g5<;>cases g6<;>cases g7<;>rfl
def adJ:(Cd (H:=H) g0 g1 g2 g3 g4 g5 g6 g7 b0 b1 b2 b3 b4 b5 b6 b7).put (.af 64) (.lit (.bool b6))=Cd g0 g1 g2 g3 g4 g5 true g7 b0 b1 b2 b3 b4 b5 b6 b7:=by cases g0<;>cases g1<;>cases g2<;>cases g3<;>cases g4<;>cases g5<;>cases g6<;>cases g7<;>rfl
def acf:(Cd (H:=H) g0 g1 g2 g3 g4 g5 g6 g7 b0 b1 b2 b3 b4 b5 b6 b7).put (.af 128) (.lit (.bool b7))=Cd g0 g1 g2 g3 g4 g5 g6 true b0 b1 b2 b3 b4 b5 b6 b7:=by cases g0<;>cases g1<;>cases g2<;>cases g3<;>cases g4<;>cases g5<;>cases g6<;>cases g7<;>rfl
end
def Gm{H:Type}{P:ag}{k e t:ah}{w:ap}{R:ae->Option (bs H×List cI)}{b n:Nat}{D:bs H}(h:w.ownsMap P k R b n D)(K:Keyed P k)(ht:P.underlying t=some (.map k e))(hn:n<maxLen){key val:ae}{kl:Lit}{d:bs H}{ps:List cI}
 (DH:keyOf P k key=some kl)(hv:R val=some (d,ps)):∃w',(Instr.mapUpdate t (.map (some b)) key val).run P w=.ok () w'/\w'.ownsMap P k R b (n+1) (D.put kl d)/\w.grownBy w' (some b)/\w'.heap.size=w.heap.size:=by
 obtain⟨w',h1,h2,h3⟩:=h.update K ht hn DH hv;obtain⟨es,gU,hb,F,hs,rfl⟩:=h;obtain⟨eR,adv,da,_⟩:=Maps.fit_store (R':=R) K ht hb F (Nat.lt_of_le_of_lt hs hn) (λ_ _ _ _ hz=>hz) DH hv;refine⟨w',h1,h2,h3,?_⟩;rw[da]at h1;injection h1 with _ h1;rw[<-h1];simp[Go.ChangeMaps.setBlock]
def DQ{H:Type}{P:ag}{k:ah}{w:ap}{R:ae->Option (bs H×List cI)}{b n:Nat}{D:bs H}(h:w.ownsMap P k R b n D){a:aM}(ha:a.block=b):w.frozen? a=false:=by obtain⟨es,gU,hb,_⟩:=h;unfold World.frozen?;rw[ha,hb]
def kB{w:ap}{a:aM}(h:w.heap.size<=a.block):w.frozen? a=false:=by unfold World.frozen?;rw[o4 h]
def vp{σ0 σ:cm}{W0 W:AW}{w0 w w':ap}(h:dE σ0 W0 w0 σ W w){m:Nat}(hm:w0.heap.size<=m)(hg:w.grownBy w' (some m))(zA:∀a,w'.frozen? a=w.frozen? a):dE σ0 W0 w0 σ W w':=
 ⟨h.sub,h.ro,fK h.size hg.size,hg.os.trans h.os,hg.tape.trans h.tape,hg.output.trans h.output,
  λB hB hn=>(hg.block B (ef hB h.size) (λe=>by injection e with e;omega)).trans (h.dD B hB hn),h.ghost,h.grow⟩
def uS{σ:cm}{W:AW}{w w':ap}(h:aX σ W w.heap){m:Nat}(hm:∀b g,σ b=some g->g.B≠m)(hg:w.grownBy w' (some m)):aX σ W w'.heap where
 free:=h.free
 lH b g hb:=⟨(h.lH b g hb).1,ef (h.lH b g hb).2 hg.size⟩
 obj b o g hb hσ:=(h.obj b o g hb hσ).same (hg.block _ (h.lH b g hσ).2 (λe=>by injection e with e;exact hm b g hσ e))
 lP:=h.lP
def rV(e:Nat)(o:am):Bool:=o.after.any λx=>Region.binds .any x&&Nat.beq x.on e
def eN{e:Nat}{o:am}{listed:Array Bool}(h:rV e o=true)(hr:∀x∈o.after,Region.binds .any x=true->listed.getD x.on false=true):listed.getD e false=true:=by unfold rV at h;rw[Array.any_eq_true']at h;obtain⟨x,hx,hb⟩:=h;rw[bm,dp]at hb;obtain⟨hb,rfl⟩:=hb;exact hr x hx hb
def ND(ops:Array am)(o:am)(x:ao):Bool:=match x with
 |.const v=>a7 v
 |.tmp t=>Nat.beq t 1||o.after.any λe=>Region.binds .any e&&(match ops[e.on]? with|some o'=>(match o'.dst with|some d=>Nat.beq d t&&(Nat.blt 14 d&&Nat.blt d 40)|none=>false)|none=>false)
 |_=>false
def Gu(ops:Array am)(o:am):Bool:=o.guard.isNone&&(match o.dst with|some d=>Nat.blt 14 d&&Nat.blt d 40|none=>false)&&o.op.operands.toList.all (ND ops o)
def ms(ops:Array am)(TM key s k:Nat)(o:am):Bool:=o.guard.isNone&&o.dst.isNone&&rV 0 o&&rV k o&&
 (match o.op with|.insert t (.tmp m) (.const (.int .i64 (.ofNat n))) (.tmp v)=>Nat.beq t TM&&Nat.beq m 14&&Nat.beq n key&&Nat.beq v s&&Nat.blt 14 s&&Nat.blt s 40|_=>false)&&
 (match ops[k]? with|some o'=>(match o'.dst with|some d=>Nat.beq d s|none=>false)|none=>false)
def gj(ops:Array am)(TM:Nat)(i:Nat)(o:am):Bool:=match i with
 |0=>o.guard.isNone&&(match o.op,o.dst with|.makeMap t none,some d=>Nat.beq t TM&&Nat.beq d 14|_,_=>false)
 |4=>ms ops TM 1 17 3 o
 |8=>ms ops TM 2 20 7 o
 |12=>ms ops TM 4 23 11 o
 |16=>ms ops TM 8 26 15 o
 |20=>ms ops TM 16 29 19 o
 |24=>ms ops TM 32 32 23 o
 |29=>ms ops TM 64 36 28 o
 |33=>ms ops TM 128 39 32 o
 |34=>o.guard.isNone&&(match o.op,o.dst with|.move (.tmp x),some d=>Nat.beq x 14&&Nat.beq d 40|_,_=>false)&&(List.range 34).all λe=>rV e o
 |35=>o.guard.isNone&&(match o.op,o.dst with|.range t (.tmp x),some d=>Nat.beq t TM&&Nat.beq x 40&&Nat.beq d 41|_,_=>false)&&rV 34 o
 |_=>Gu ops o
def fL(i:Nat):Bool:=match i with|0|4|8|12|16|20|24|29|33|34|35=>false|_=>true
def BK(i:Nat)(o:am):Bool:=o.after.all λe=>Nat.blt e.on i
def Bk(ops:Array am)(TM:Nat):Bool:=Nat.beq ops.size 36&&(List.range 36).all λi=>match ops[i]? with|some o=>gj ops TM i o&&BK i o|none=>false
def oh{P:ag}{ops:Array am}{Q:cj->aQ->ap->Prop}{i:Nat}{K:aQ->ap->Prop}{a:aQ}{w w':ap}{o:am}{v:ae}(ho:ops[i]? =some o)(hg:o.guard=none)
 (h:(execOp a.eval o).run P w=.ok (.value v) w')(hk:K (a.put o.dst v) w'):wpOp P ops Q i K a w:=by
 unfold wpOp;rw[ho];have:Region.wanted o (yielded ops a.tmps)=true:=by unfold Region.wanted;rw[hg]
 simp only[this,bc];refine .inl ?_;unfold Oper.wp;rw[h];exact hk
def AP{P:ag}{ops:Array am}{Q:cj->aQ->ap->Prop}{i:Nat}{K:aQ->ap->Prop}{a:aQ}{w w':ap}{o:am}(ho:ops[i]? =some o)(hg:o.guard=none)
 (h:(execOp a.eval o).run P w=.ok .skip w')(hk:K (a.put o.dst ai) w'):wpOp P ops Q i K a w:=by
 unfold wpOp;rw[ho];have:Region.wanted o (yielded ops a.tmps)=true:=by unfold Region.wanted;rw[hg]
 simp only[this,bc];refine .inl ?_;unfold Oper.wp;rw[h];exact hk
section
variable {P:ag} {ops:Array am} {nt TM TK TE:Nat} {σ0:cm} {W:AW} {R:aj.Fr} {w0:ap} {jN:Array ae} {ds:List cH} {b0 b1 b2 b3 b4 b5 b6 b7:Bool} {l:Array Bool} {a:aQ} {w:ap}
def Dl(l:Array Bool)(b0 b1 b2 b3 b4 b5 b6 b7:Bool):bs Unit:=
 Cd (l.getD 4 false) (l.getD 8 false) (l.getD 12 false) (l.getD 16 false) (l.getD 20 false) (l.getD 24 false) (l.getD 29 false) (l.getD 33 false) b0 b1 b2 b3 b4 b5 b6 b7
structure RB (ops:Array am) (nt:Nat) (jN:Array ae) (ds:List cH) (l:Array Bool) (a:aQ):Prop where
 rh:l.size=36
 Fp:a.tmps.size=nt
 OB:a.defers=ds
 down:∀i,l.getD i false=true->∀o,ops[i]? =some o->∀e∈o.after,Region.binds .any e=true->l.getD e.on false=true
 lI:∀t,(t<14\/41<t)->a.tmps[t]? =jN[t]?
def RM(P:ag)(TK TE:Nat)(w0:ap)(b0 b1 b2 b3 b4 b5 b6 b7:Bool)(l:Array Bool)(a:aQ)(w:ap)(σ:cm)(m n:Nat):Prop:=
 (∀b g,σ b=some g->g.B≠m)/\w0.heap.size<=m/\a.tmps.getD 14 ai=.map (some m)/\n<=(List.range 36).countP (λi=>l.getD i false)/\(l.getD 34 false=true->a.tmps.getD 40 ai=.map (some m))/\
  (l.getD 35 false=false->w.ownsMap P TK (plainElem P TE) m n (Dl l b0 b1 b2 b3 b4 b5 b6 b7))/\
  (l.getD 35 false=true->∃r,a.tmps.getD 41 ai=.pointer (some ⟨r,0,none⟩)/\(∀b g,σ b=some g->g.B≠r)/\w0.heap.size<=r/\
    w.ranges P TK (plainElem P TE) m r n (Dl l b0 b1 b2 b3 b4 b5 b6 b7) (Maps.has (Dl l b0 b1 b2 b3 b4 b5 b6 b7)) (Maps.size (Dl l b0 b1 b2 b3 b4 b5 b6 b7)))
structure RI (P:ag) (ops:Array am) (nt TK TE:Nat) (σ0:cm) (W:AW) (R:aj.Fr) (w0:ap) (jN:Array ae) (ds:List cH) (b0 b1 b2 b3 b4 b5 b6 b7:Bool)
 (l:Array Bool) (a:aQ) (w:ap):Prop where
 base:RB ops nt jN ds l a
 afG:∃σ,aX σ W w.heap/\dE σ0 W w0 σ W w/\(∀i o d,ops[i]? =some o->fL i=true->l.getD i false=true->o.dst=some d->VR σ (ch R d) (a.tmps.getD d ai))/\
  (l.getD 0 false=true->∃m n,RM P TK TE w0 b0 b1 b2 b3 b4 b5 b6 b7 l a w σ m n)
structure RF (P:ag) (ops:Array am) (nt TM TK TE:Nat) (σ0:cm) (W:AW) (R:aj.Fr) (jN:Array ae) (b0 b1 b2 b3 b4 b5 b6 b7:Bool):Prop where
 size:ops.size=36
 shape:∀i o,ops[i]? =some o->gj ops TM i o=true
 back:∀i o,ops[i]? =some o->BK i o=true
 acS:∀i o d,ops[i]? =some o->fL i=true->o.dst=some d->∀(σ:cm) (w:ap) (ρ:ao->ae),aX σ W w.heap->(∀x∈o.op.operands,VR σ (aw R x) (ρ x))->qO P σ W w (execOp ρ o) (ch R d) W
 v0:ch R 17=.bool b0
 v1:ch R 20=.bool b1
 v2:ch R 23=.bool b2
 v3:ch R 26=.bool b3
 v4:ch R 29=.bool b4
 v5:ch R 32=.bool b5
 v6:ch R 36=.bool b6
 v7:ch R 39=.bool b7
 ptr:VR σ0 (ch R 1) (jN.getD 1 ai)
 nt:42<=nt
 TM:P.underlying TM=some (.map TK TE)
 TK:P.underlying TK=some (.int .i64)
 TE:P.underlying TE=some .bool
def qG{l:Array Bool}{i:Nat}(hi:i<36)(hs:l.size=36)(h:l.getD i false=false):(List.range 36).countP (λk=>l.getD k false)+1<=(List.range 36).countP (λk=>(l.setIfInBounds i true).getD k false):=by
 refine AU (x:=i) (by simpa using hi) (cy (by omega) false) h λy hy=>?_
 by_cases e:i=y
 ·subst e;exact cy (by omega) false
 ·rw[aO e];exact hy
def NM{l:Array Bool}:(List.range 36).countP (λk=>l.getD k false)<=36:=by have:=List.countP_le_length (p:=λk=>l.getD k false) (l:=List.range 36);simpa using this
def jl{l:Array Bool}{i:Nat}(h:l.getD i true=false)(hi:i<l.size):l.getD i false=false:=by simp only[pU]at h|-;rw[ft hi]at h|-;exact h
def uP(hF:RF P ops nt TM TK TE σ0 W R jN b0 b1 b2 b3 b4 b5 b6 b7){i:Nat}{o:am}(ho:ops[i]? =some o):o.guard=none/\(fL i=true->(∃d,o.dst=some d/\14<d/\d<40)/\o.op.operands.toList.all (ND ops o)=true)/\
 (∀d,o.dst=some d->14<=d/\d<=41)/\(∀d,o.dst=some d->14<d->d<40->fL i=true):=by
 have hs:=hF.shape i o ho;by_cases hp:fL i=true
 ·have hq:Gu ops o=true:=by unfold gj at hs;unfold fL at hp;split at hs<;>first|exact hs|(simp at hp;done)
  unfold Gu at hq;simp only[bm,yH]at hq;obtain⟨⟨h1,h2⟩,h3⟩:=hq;cases hd:o.dst with
  |none=>rw[hd]at h2;cases h2
  |some d=>rw[hd]at h2;simp only[bm,gO]at h2;refine⟨h1,λ_=>⟨⟨d,rfl,h2⟩,h3⟩,λd' e=>?_,λ_ _ _ _=>hp⟩;injection e with e;subst e;exact⟨Nat.le_of_lt h2.1,Nat.le_of_lt (Nat.lt_trans h2.2 (by decide))⟩
 ·refine⟨?_,λh=>absurd h hp,?_,?_⟩
  ·unfold gj at hs;unfold fL at hp;split at hs<;>simp_all[ms]
  ·intro d hd;unfold gj at hs;unfold fL at hp;split at hs<;>simp_all[ms];all_goals(first|(split at hs<;>simp_all)|skip)
   all_goals omega
  ·intro d hd h1 h2;exfalso;unfold gj at hs;unfold fL at hp;split at hs<;>simp_all[ms];all_goals(first|(split at hs<;>simp_all)|skip)
   all_goals omega
def RB.step(hB:RB ops nt jN ds l a)(hF:RF P ops nt TM TK TE σ0 W R jN b0 b1 b2 b3 b4 b5 b6 b7){i:Nat}{o:am}(ho:ops[i]? =some o)
 (hr:∀e∈o.after,Region.binds .any e=true->l.getD e.on false=true)(v:ae):RB ops nt jN ds (l.setIfInBounds i true) (a.put o.dst v):=by
 obtain⟨_,_,hd,_⟩:=uP hF ho;have hi:i<l.size:=by rw[hB.rh,<-hF.size];exact(cQ.1 ho).1
 have qW:∀k,l.getD k false=true->(l.setIfInBounds i true).getD k false=true:=λk hk=>by
  by_cases e:i=k
  ·subst e;exact cy hi _
  ·rw[aO e];exact hk
 refine⟨by simp[hB.rh],by rw[zm];exact hB.Fp,by rw[kQ];exact hB.OB,?_,?_⟩
 ·intro k hk o' fP e he hb;by_cases e1:i=k
  ·subst e1;rw[ho]at fP;injection fP with fP;subst fP;exact qW _ (hr e he hb)
  ·rw[aO e1]at hk;exact qW _ (hB.down k hk o' fP e he hb)
 ·intro t ht;rw[<-hB.lI t ht];cases hq:o.dst with
  |none=>rfl
  |some d=>
   have:=hd d hq;show(a.tmps.setIfInBounds d v)[t]? =a.tmps[t]?;rw[xX];rintro rfl;rcases ht with h|h
   ·exact absurd (ef h this.1) (Nat.lt_irrefl _)
   ·exact absurd (ef h this.2) (Nat.lt_irrefl _)
def In{σ σ':cm}{W W':AW}{w w':ap}(he:dE σ W w σ' W' w'){m:Nat}(hm:m<w.heap.size)(hn:∀b g,σ b=some g->g.B≠m):(∀b g,σ' b=some g->g.B≠m)/\w'.heap[m]? =w.heap[m]? :=by
 have hnm:¬SM σ W m:=by rintro⟨b,g,h1,h2,_⟩;exact hn b g h1 h2
 refine⟨λb g hb e=>?_,he.dD m hm hnm⟩;subst e;rcases he.grow b g hb hm with h1|h1
 ·exact hn b g h1 rfl
 ·exact hnm h1
def MC{H:Type}{k:ah}{w w':ap}{Re:ae->Option (bs H×List cI)}{b n:Nat}{D:bs H}(h:w.ownsMap P k Re b n D)(e:w'.heap[b]? =w.heap[b]?):w'.ownsMap P k Re b n D:=by obtain⟨es,gU,hb,r⟩:=h;exact⟨es,gU,e.trans hb,r⟩
def JL(hF:RF P ops nt TM TK TE σ0 W R jN b0 b1 b2 b3 b4 b5 b6 b7)(hI:RI P ops nt TK TE σ0 W R w0 jN ds b0 b1 b2 b3 b4 b5 b6 b7 l a w){i:Nat}{o:am}(ho:ops[i]? =some o)(hl:l.getD i true=false)
 (hr:∀e∈o.after,Region.binds .any e=true->l.getD e.on false=true)(hp:fL i=true){Q:cj->aQ->ap->Prop}{K:aQ->ap->Prop}
 (hK:∀a' w',RI P ops nt TK TE σ0 W R w0 jN ds b0 b1 b2 b3 b4 b5 b6 b7 (l.setIfInBounds i true) a' w'->K a' w'):wpOp P ops Q i K a w:=by
 obtain⟨hg,hpd,_,wd⟩:=uP hF ho;obtain⟨⟨d,hd,hd1,hd2⟩,bY⟩:=hpd hp;obtain⟨hB,σ,hW,hE,oD,fu⟩:=hI;have hi:i<l.size:=by rw[hB.rh,<-hF.size];exact(cQ.1 ho).1
 have A9:=jl hl hi;have hρ:∀x∈o.op.operands,VR σ (aw R x) (a.eval x):=by
  intro x hx;have Rn:=bV.1 bY x (by simpa using hx);unfold ND at Rn;split at Rn
  ·exact fX Rn
  ·rename_i t;rw[kL]at Rn;show VR σ (ch R t) (a.tmps.getD t ai);rcases Rn with h1|h1
   ·obtain rfl:t=1:=by simpa using h1
    have:a.tmps.getD 1 ai=jN.getD 1 ai:=by simp only[pU];rw[hB.lI 1 (.inl (by decide))]
    rw[this];exact hF.ptr.mono hE.sub
   ·rw[Array.any_eq_true']at h1;obtain⟨e,he,hb⟩:=h1;rw[bm]at hb;obtain⟨KP,gW⟩:=hb;split at gW
    ·rename_i o' fP;split at gW
     ·rename_i d' fx;simp only[bm,dp,gO]at gW;obtain⟨rfl,h3,h4⟩:=gW;exact oD e.on o' d' fP ((uP hF fP).2.2.2 d' fx h3 h4) (hr e he KP) fx
     ·cases gW
    ·cases gW
  ·cases Rn
 obtain⟨σ',nx,v',w',da,hnx,hv,T7,KX⟩:=hF.acS i o d ho hp hd σ w a.eval hW hρ;have wQ:RI P ops nt TK TE σ0 W R w0 jN ds b0 b1 b2 b3 b4 b5 b6 b7 (l.setIfInBounds i true) (a.put o.dst v') w':=by
  refine⟨hB.step hF ho hr v',σ',T7,hE.trans KX,?_,?_⟩
  ·intro k o' d' fP VY D6 fx;by_cases e:i=k
   ·subst e;rw[ho]at fP;injection fP with fP;subst fP;rw[hd]at fx;injection fx with fx;subst fx;rw[lm hd (by rw[hB.Fp];exact ef hd2 (fK (by decide) hF.nt))];exact hv
   ·rw[aO e]at D6;by_cases e2:d'=d
    ·subst e2;rw[lm hd (by rw[hB.Fp];exact ef hd2 (fK (by decide) hF.nt))];exact hv
    ·rw[fj (by rw[hd];intro e3;injection e3 with e3;exact e2 e3.symm)];exact(oD k o' d' fP VY D6 fx).mono KX.sub
  ·intro h0;have dQ:∀k,fL k=false->(l.setIfInBounds i true).getD k false=l.getD k false:=λk hk=>aO (λe=>by subst e;rw[hp]at hk;cases hk) _
   have dL:∀t,(t=14\/39<t)->(a.put o.dst v').tmps.getD t ai=a.tmps.getD t ai:=λt ht=>fj (by
    rw[hd];intro e3;injection e3 with e3;subst e3;rcases ht with h|h
    ·subst h;exact absurd hd1 (by decide)
    ·exact absurd hd2 (by intro h5;exact absurd (ef h5 h) (Nat.lt_irrefl _)));rw[dQ 0 rfl]at h0;obtain⟨m,n,k1,k2,k3,k4,k5,k6,k7⟩:=fu h0;have hD:Dl (l.setIfInBounds i true) b0 b1 b2 b3 b4 b5 b6 b7=Dl l b0 b1 b2 b3 b4 b5 b6 b7:=by
    unfold Dl;rw[dQ 4 rfl,dQ 8 rfl,dQ 12 rfl,dQ 16 rfl,dQ 20 rfl,dQ 24 rfl,dQ 29 rfl,dQ 33 rfl]
   have fy:m<w.heap.size:=by
    cases hq:l.getD 35 false with
    |false=>exact(k6 hq).lt
    |true=>obtain⟨r,_,_,_,EM⟩:=k7 hq;exact EM.owns.lt
   obtain⟨q1,q2⟩:=In KX fy k1;refine⟨m,n,q1,k2,by rw[dL 14 (.inl rfl)];exact k3,fK k4 (fK (Nat.le_succ _) (qG (by rw[<-hB.rh];exact hi) hB.rh A9)),λh=>?_,λh=>?_,λh=>?_⟩
   ·rw[dQ 34 rfl]at h;rw[dL 40 (.inr (by decide))];exact k5 h
   ·rw[dQ 35 rfl]at h;rw[hD];exact MC (k6 h) q2
   ·rw[dQ 35 rfl]at h;obtain⟨r,p1,p2,p3,p4⟩:=k7 h;have acz:r<w.heap.size:=by obtain⟨es,gU,since,seen,c0,_,_,_,_,hr,_⟩:=p4;exact(cQ.1 hr).1
    obtain⟨q3,q4⟩:=In KX acz p2;refine⟨r,by rw[dL 41 (.inr (by decide))];exact p1,q3,p3,?_⟩;rw[hD];obtain⟨es,gU,since,seen,c0,z1,z2,z3,z4,z5,z6⟩:=p4;exact⟨es,gU,since,seen,c0,q2.trans z1,z2,z3,z4,q4.trans z5,z6⟩
 rcases hnx with rfl|⟨rfl,rfl⟩
 ·exact oh ho hg da (hK _ _ wQ)
 ·exact AP ho hg da (hK _ _ wQ)
def Ie(hF:RF P ops nt TM TK TE σ0 W R jN b0 b1 b2 b3 b4 b5 b6 b7)(hB:RB ops nt jN ds l a):
 (l.getD 35 false=true->l.getD 34 false=true)/\(l.getD 34 false=true->∀e,e<34->l.getD e false=true)/\(∀i,(i=4\/i=8\/i=12\/i=16\/i=20\/i=24\/i=29\/i=33)->l.getD i false=true->l.getD 0 false=true):=by
 have at_:∀i,i<36->∃o,ops[i]? =some o:=λi hi=>⟨ops[i]'(by rw[hF.size];exact hi),ft _⟩
 refine⟨λh=>?_,λh e he=>?_,λi hi h=>?_⟩
 ·obtain⟨o,ho⟩:=at_ 35 (by decide);have hs:=hF.shape 35 o ho;simp only[gj,bm]at hs;exact eN hs.2 (hB.down 35 h o ho)
 ·obtain⟨o,ho⟩:=at_ 34 (by decide);have hs:=hF.shape 34 o ho;simp only[gj,bm,bV]at hs;exact eN (hs.2 e (by simpa using he)) (hB.down 34 h o ho)
 ·obtain⟨o,ho⟩:=at_ i (by omega);have hs:=hF.shape i o ho;have:rV 0 o=true:=by rcases hi with rfl|rfl|rfl|rfl|rfl|rfl|rfl|rfl<;>(simp only[gj,ms,bm]at hs;exact hs.1.1.1.2)
  exact eN this (hB.down i h o ho)
def oo{σ:cm}(hF:RF P ops nt TM TK TE σ0 W R jN b0 b1 b2 b3 b4 b5 b6 b7){i:Nat}{o:am}(ho:ops[i]? =some o)(hp:fL i=false)
 (h:∀i o d,ops[i]? =some o->fL i=true->l.getD i false=true->o.dst=some d->VR σ (ch R d) (a.tmps.getD d ai))(v:ae):
 ∀k o' d,ops[k]? =some o'->fL k=true->(l.setIfInBounds i true).getD k false=true->o'.dst=some d->VR σ (ch R d) ((a.put o.dst v).tmps.getD d ai):=by
 intro k o' d fP VY hl hd;have e:i≠k:=λe=>by subst e;rw[hp]at VY;cases VY
 rw[aO e]at hl;obtain⟨_,hpd,_,_⟩:=uP hF fP;obtain⟨⟨d',fx,h1,h2⟩,_⟩:=hpd VY;rw[hd]at fx;injection fx with fx;subst fx;rw[fj]
 ·exact h k o' d fP VY hl hd
 ·intro e2;have:=(uP hF ho).2.2.2 d e2 h1 h2;rw[hp]at this;cases this
def Cl{w:ap}{o:Obj}(ho:∀c t f,o≠ .cells c t f)(x:aM):(w.alloc o).frozen? x=w.frozen? x:=by
 by_cases h:x.block<w.heap.size
 ·exact World.frozen?_of_block ((sx w o none).block _ h (by simp))
 ·rw[kB (w:=w) (by omega)];by_cases e:x.block=w.heap.size
  ·unfold World.frozen?;rw[e];have:(w.alloc o).heap[w.heap.size]? =some o:=(MapKept.heap_alloc w o).1;rw[this];cases o<;>first|rfl|exact absurd rfl (ho _ _ _)
  ·refine kB ?_;have:(w.alloc o).heap.size=w.heap.size+1:=by simp
   omega
def Kg(hF:RF P ops nt TM TK TE σ0 W R jN b0 b1 b2 b3 b4 b5 b6 b7)(hI:RI P ops nt TK TE σ0 W R w0 jN ds b0 b1 b2 b3 b4 b5 b6 b7 l a w){o:am}(ho:ops[0]? =some o)(hl:l.getD 0 true=false)
 (hr:∀e∈o.after,Region.binds .any e=true->l.getD e.on false=true){Q:cj->aQ->ap->Prop}{K:aQ->ap->Prop}
 (hK:∀a' w',RI P ops nt TK TE σ0 W R w0 jN ds b0 b1 b2 b3 b4 b5 b6 b7 (l.setIfInBounds 0 true) a' w'->K a' w'):wpOp P ops Q 0 K a w:=by
 obtain⟨hB,σ,hW,hE,oD,fu⟩:=hI;have hi:0<l.size:=by rw[hB.rh];decide
 have A9:=jl hl hi;obtain⟨n1,n2,n3⟩:=Ie hF hB;have hs:=hF.shape 0 o ho;simp only[gj,bm,yH]at hs;obtain⟨hg,hs⟩:=hs;split at hs;case h_2=>cases hs
 rename_i t d nu hd;simp only[bm,dp]at hs;obtain⟨rfl,rfl⟩:=hs;have da:(execOp a.eval o).run P w=.ok (.value (.map (some w.heap.size))) (w.alloc (.map #[] 0)):=by simp[execOp,nu,run_makeMap]
 refine oh ho hg da (hK _ _ ⟨hB.step hF ho hr _,σ,?_,?_,oo hF ho rfl oD _,λ_=>⟨w.heap.size,0,?_,hE.size,?_,Nat.zero_le _,?_,?_,?_⟩⟩)
 ·exact uS (m:=w.heap.size) hW (λb g hb=>Nat.ne_of_lt (hW.lH b g hb).2) ((sx w _ none).but _)
 ·exact vp (m:=w.heap.size) hE hE.size ((sx w _ none).but _) (Cl (λ_ _ _ h=>by cases h))
 ·exactλb g hb=>Nat.ne_of_lt (hW.lH b g hb).2
 ·exact lm hd (by rw[hB.Fp];exact ef (by decide) hF.nt)
 ·intro h;rw[aO (by decide)]at h;rw[n2 h 0 (by decide)]at A9;cases A9
 ·intro _;have rj:∀i,(i=4\/i=8\/i=12\/i=16\/i=20\/i=24\/i=29\/i=33)->(l.setIfInBounds 0 true).getD i false=false:=λi hi=>by
   rw[aO (by omega)];cases hq:l.getD i false with
   |false=>rfl
   |true=>rw[n3 i hi hq]at A9;cases A9
  have hD:Dl (l.setIfInBounds 0 true) b0 b1 b2 b3 b4 b5 b6 b7=.map []:=by unfold Dl;rw[rj 4 (by simp),rj 8 (by simp),rj 12 (by simp),rj 16 (by simp),rj 20 (by simp),rj 24 (by simp),rj 29 (by simp),rj 33 (by simp)];rfl
  rw[hD];exact World.ownsMap_made _ _ _ _
 ·intro h;rw[aO (by decide)]at h;rw[n2 (n1 h) 0 (by decide)]at A9;cases A9
def jD(hF:RF P ops nt TM TK TE σ0 W R jN b0 b1 b2 b3 b4 b5 b6 b7)(hI:RI P ops nt TK TE σ0 W R w0 jN ds b0 b1 b2 b3 b4 b5 b6 b7 l a w){i key s k:Nat}{bj:Bool}{o:am}(ho:ops[i]? =some o)(hl:l.getD i true=false)
 (hr:∀e∈o.after,Region.binds .any e=true->l.getD e.on false=true)(hs:ms ops TM key s k o=true)(hp:fL i=false)(acX:i<34)(CH:i≠0)(hv:ch R s=.bool bj)(hwf:(Lit.int .i64 key).wf=true)
 (aeX:(Dl l b0 b1 b2 b3 b4 b5 b6 b7).put (.af key) (.lit (.bool bj))=Dl (l.setIfInBounds i true) b0 b1 b2 b3 b4 b5 b6 b7){Q:cj->aQ->ap->Prop}{K:aQ->ap->Prop}
 (hK:∀a' w',RI P ops nt TK TE σ0 W R w0 jN ds b0 b1 b2 b3 b4 b5 b6 b7 (l.setIfInBounds i true) a' w'->K a' w'):wpOp P ops Q i K a w:=by
 obtain⟨hB,σ,hW,hE,oD,fu⟩:=hI;have hi:i<l.size:=by rw[hB.rh];omega
 have A9:=jl hl hi;obtain⟨n1,n2,n3⟩:=Ie hF hB;unfold ms at hs;simp only[bm,yH]at hs;obtain⟨⟨⟨⟨⟨hg,hd⟩,e0⟩,ek⟩,nu⟩,hk⟩:=hs;split at nu;case h_2=>cases nu
 rename_i t m' n' v' aco;simp only[bm,dp,gO]at nu;obtain⟨⟨⟨⟨⟨rfl,rfl⟩,rfl⟩,rfl⟩,zB⟩,oS⟩:=nu;split at hk;case h_2=>cases hk
 rename_i ok gJ;split at hk;case h_2=>cases hk
 rename_i dk hdk;obtain rfl:dk=v':=by simpa using hk
 have Gf:a.tmps.getD dk ai=.bool bj:=by have:=oD k ok dk gJ ((uP hF gJ).2.2.2 dk hdk zB oS) (eN ek hr) hdk;rw[hv]at this;exact this.fA
 obtain⟨m,n,k1,k2,k3,k4,k5,k6,k7⟩:=fu (eN e0 hr);have Un:l.getD 34 false=false:=by
  cases hq:l.getD 34 false with
  |false=>rfl
  |true=>rw[n2 hq i acX]at A9;cases A9
 have EP:l.getD 35 false=false:=by
  cases hq:l.getD 35 false with
  |false=>rfl
  |true=>rw[n1 hq]at Un;cases Un
 have DH:keyOf P TK (.af (n':Int))=some (.af (n':Int)):=by simp[keyOf,mapKey,hF.TK,hwf]
 obtain⟨w',da,QU,KF,mK⟩:=Gm (k6 EP) (Go.Maps.int_keyed hF.TK) hF.TM (Nat.lt_of_le_of_lt (fK k4 NM) (by decide)) DH (plainElem_bool hF.TE bj);have Np:(execOp a.eval o).run P w=.ok .skip w':=by have e1:a.eval (.tmp 14)=.map (some m):=k3;have e2:a.eval (.tmp dk)=.bool bj:=Gf;have e3:a.eval (.const (.af (Int.ofNat n')))=.af (n':Int):=rfl;simp only[execOp,aco,e1,e2,e3];simp[da]
 refine AP ho hg Np (hK _ _ ⟨hB.step hF ho hr _,σ,?_,?_,oo hF ho hp oD _,λ_=>⟨m,n+1,k1,k2,?_,?_,?_,?_,?_⟩⟩)
 ·exact uS hW k1 KF
 ·refine vp hE k2 KF λx=>?_
  by_cases e:x.block=m
  ·rw[DQ (k6 EP) e,DQ QU e]
  ·by_cases h:x.block<w.heap.size
   ·exact World.frozen?_of_block (KF.block _ h (λe2=>by injection e2 with e2;exact e e2))
   ·rw[kB (w:=w) (by omega),kB (w:=w') (by omega)]
 ·rw[hd];exact k3
 ·exact fK (Nat.succ_le_succ k4) (qG (by rw[<-hB.rh];exact hi) hB.rh A9)
 ·intro h;rw[aO (by omega),Un]at h;cases h
 ·intro _;rw[<-aeX];exact QU
 ·intro h;rw[aO (by omega),EP]at h;cases h
def IU(hF:RF P ops nt TM TK TE σ0 W R jN b0 b1 b2 b3 b4 b5 b6 b7)(hI:RI P ops nt TK TE σ0 W R w0 jN ds b0 b1 b2 b3 b4 b5 b6 b7 l a w){o:am}(ho:ops[34]? =some o)(hl:l.getD 34 true=false)
 (hr:∀e∈o.after,Region.binds .any e=true->l.getD e.on false=true){Q:cj->aQ->ap->Prop}{K:aQ->ap->Prop}
 (hK:∀a' w',RI P ops nt TK TE σ0 W R w0 jN ds b0 b1 b2 b3 b4 b5 b6 b7 (l.setIfInBounds 34 true) a' w'->K a' w'):wpOp P ops Q 34 K a w:=by
 obtain⟨hB,σ,hW,hE,oD,fu⟩:=hI;have hi:34<l.size:=by rw[hB.rh];decide
 have A9:=jl hl hi;obtain⟨n1,n2,n3⟩:=Ie hF hB;have hs:=hF.shape 34 o ho;simp only[gj,bm,yH,bV]at hs;obtain⟨⟨hg,hs⟩,Qe⟩:=hs;split at hs;case h_2=>cases hs
 rename_i x d nu hd;simp only[bm,dp]at hs;obtain⟨rfl,rfl⟩:=hs;have h0:l.getD 0 false=true:=eN (Qe 0 (by simp)) hr;obtain⟨m,n,k1,k2,k3,k4,k5,k6,k7⟩:=fu h0;have EP:l.getD 35 false=false:=by
  cases hq:l.getD 35 false with
  |false=>rfl
  |true=>rw[n1 hq]at A9;cases A9
 have da:(execOp a.eval o).run P w=.ok (.value (.map (some m))) w:=by have e1:a.eval (.tmp 14)=.map (some m):=k3;simp only[execOp,nu,e1];rfl
 have hD:Dl (l.setIfInBounds 34 true) b0 b1 b2 b3 b4 b5 b6 b7=Dl l b0 b1 b2 b3 b4 b5 b6 b7:=by unfold Dl;rw[aO (by decide),aO (by decide),aO (by decide),aO (by decide),aO (by decide),aO (by decide),aO (by decide),aO (by decide)]
 refine oh ho hg da (hK _ _ ⟨hB.step hF ho hr _,σ,hW,hE,oo hF ho rfl oD _,λ_=>⟨m,n,k1,k2,?_,?_,?_,?_,?_⟩⟩)
 ·rw[fj (by rw[hd];intro e;injection e with e;cases e)];exact k3
 ·exact fK k4 (fK (Nat.le_succ _) (qG (by decide) hB.rh A9))
 ·intro _;exact lm hd (by rw[hB.Fp];exact ef (by decide) hF.nt)
 ·intro _;rw[hD];exact k6 EP
 ·intro h;rw[aO (by decide),EP]at h;cases h
def Hh(hF:RF P ops nt TM TK TE σ0 W R jN b0 b1 b2 b3 b4 b5 b6 b7)(hI:RI P ops nt TK TE σ0 W R w0 jN ds b0 b1 b2 b3 b4 b5 b6 b7 l a w){o:am}(ho:ops[35]? =some o)(hl:l.getD 35 true=false)
 (hr:∀e∈o.after,Region.binds .any e=true->l.getD e.on false=true){Q:cj->aQ->ap->Prop}{K:aQ->ap->Prop}
 (hK:∀a' w',RI P ops nt TK TE σ0 W R w0 jN ds b0 b1 b2 b3 b4 b5 b6 b7 (l.setIfInBounds 35 true) a' w'->K a' w'):wpOp P ops Q 35 K a w:=by
 obtain⟨hB,σ,hW,hE,oD,fu⟩:=hI;have hi:35<l.size:=by rw[hB.rh];decide
 have A9:=jl hl hi;obtain⟨n1,n2,n3⟩:=Ie hF hB;have hs:=hF.shape 35 o ho;simp only[gj,bm,yH]at hs;obtain⟨⟨hg,hs⟩,Qe⟩:=hs;split at hs;case h_2=>cases hs
 rename_i t x d nu hd;simp only[bm,dp]at hs;obtain⟨⟨rfl,rfl⟩,rfl⟩:=hs;have Un:l.getD 34 false=true:=eN Qe hr;obtain⟨m,n,k1,k2,k3,k4,k5,k6,k7⟩:=fu (n2 Un 0 (by decide));obtain⟨w',da,EM,KF,mK⟩:=(k6 A9).range (Go.Maps.int_keyed hF.TK) hF.TM;have Np:(execOp a.eval o).run P w=.ok (.value (.pointer (some ⟨w.heap.size,0,none⟩))) w':=by have e1:a.eval (.tmp 40)=.map (some m):=k5 Un;simp only[execOp,nu,e1];simp[da]
 have YR:∀x:aM,x.block=w.heap.size->w'.frozen? x=false:=λx e=>by obtain⟨es,gU,since,seen,c0,_,_,_,_,hr,_⟩:=EM;unfold World.frozen?;rw[e,hr]
 have hD:Dl (l.setIfInBounds 35 true) b0 b1 b2 b3 b4 b5 b6 b7=Dl l b0 b1 b2 b3 b4 b5 b6 b7:=by unfold Dl;rw[aO (by decide),aO (by decide),aO (by decide),aO (by decide),aO (by decide),aO (by decide),aO (by decide),aO (by decide)]
 refine oh ho hg Np (hK _ _ ⟨hB.step hF ho hr _,σ,?_,?_,oo hF ho rfl oD _,λ_=>⟨m,n,k1,k2,?_,?_,?_,?_,?_⟩⟩)
 ·exact uS (m:=w.heap.size) hW (λb g hb=>Nat.ne_of_lt (hW.lH b g hb).2) (KF.but _)
 ·refine vp (m:=w.heap.size) hE hE.size (KF.but _) λx=>?_
  by_cases h:x.block<w.heap.size
  ·exact World.frozen?_of_block (KF.block _ h (by simp))
  ·rw[kB (w:=w) (by omega)];by_cases e:x.block=w.heap.size
   ·exact YR x e
   ·exact kB (by omega)
 ·rw[fj (by rw[hd];intro e;injection e with e;cases e)];exact k3
 ·exact fK k4 (fK (Nat.le_succ _) (qG (by decide) hB.rh A9))
 ·intro _;rw[fj (by rw[hd];intro e;injection e with e;cases e)];exact k5 Un
 ·intro h;rw[cy hi]at h;cases h
 ·intro _;refine⟨w.heap.size,lm hd (by rw[hB.Fp];exact ef (by decide) hF.nt),λb g hb=>Nat.ne_of_lt (hW.lH b g hb).2,hE.size,?_⟩;rw[hD];exact EM
def JM(hF:RF P ops nt TM TK TE σ0 W R jN b0 b1 b2 b3 b4 b5 b6 b7)(hB:RB ops nt jN ds l a)(h:Region.ready .any ops l=[]):∀i,i<36->l.getD i false=true:=by
 have key:∀n i,i<n->i<36->l.getD i false=true:=by
  intro n;induction n with
  |zero=>intro i h;exact absurd h (Nat.not_lt_zero _)
  |succ n ih=>
   intro i hi Co;by_cases fy:i<n
   ·exact ih i fy Co
   ·have iU:i<ops.size:=by rw[hF.size];exact Co
    have ho:ops[i]? =some ops[i]:=ft iU;cases hq:l.getD i false with
    |true=>rfl
    |false=>
     exfalso;have hb:=hF.back i _ ho;unfold BK at hb;have Rl:i<l.size:=by rw[hB.rh];exact Co
     have:i∈Region.ready .any ops l:=j9.2 ⟨by
      simp only[pU]at hq|-;rw[ft Rl]at hq|-;exact hq,_,ho,λe he VZ=>by
      rw[Array.all_eq_true']at hb;have h1:=hb e he;rw[gO]at h1;exact ih e.on (by omega) (by omega)⟩;rw[h]at this;cases this
 exactλi hi=>key (i+1) i (Nat.lt_succ_self i) hi
def Nz(hF:RF P ops nt TM TK TE σ0 W R jN b0 b1 b2 b3 b4 b5 b6 b7)(hI:RI P ops nt TK TE σ0 W R w0 jN ds b0 b1 b2 b3 b4 b5 b6 b7 l a w){i:Nat}(hi:i∈Region.ready .any ops l){Q:cj->aQ->ap->Prop}{K:aQ->ap->Prop}
 (hK:∀a' w',RI P ops nt TK TE σ0 W R w0 jN ds b0 b1 b2 b3 b4 b5 b6 b7 (l.setIfInBounds i true) a' w'->K a' w'):wpOp P ops Q i K a w:=by
 obtain⟨hl,o,ho,hr⟩:=j9.1 hi;have mK:l.size=36:=hI.base.rh;cases hp:fL i with
 |true=>exact JL hF hI ho hl hr hp hK
 |false=>
  have hs:=hF.shape i o ho;have hc:i=0\/i=4\/i=8\/i=12\/i=16\/i=20\/i=24\/i=29\/i=33\/i=34\/i=35:=by unfold fL at hp;split at hp<;>first|simp|cases hp
  rcases hc with rfl|rfl|rfl|rfl|rfl|rfl|rfl|rfl|rfl|rfl|rfl
  ·exact Kg hF hI ho hl hr hK
  ·exact jD hF hI ho hl hr hs rfl (by decide) (by decide) hF.v0 rfl (by unfold Dl;rw[cy (by omega),aO (show(4:Nat)≠8 by decide),aO (show(4:Nat)≠12 by decide),aO (show(4:Nat)≠16 by decide),aO (show(4:Nat)≠20 by decide),aO (show(4:Nat)≠24 by decide),aO (show(4:Nat)≠29 by decide),aO (show(4:Nat)≠33 by decide)];exact ad5 ..) hK
  ·exact jD hF hI ho hl hr hs rfl (by decide) (by decide) hF.v1 rfl (by unfold Dl;rw[cy (by omega),aO (show(8:Nat)≠4 by decide),aO (show(8:Nat)≠12 by decide),aO (show(8:Nat)≠16 by decide),aO (show(8:Nat)≠20 by decide),aO (show(8:Nat)≠24 by decide),aO (show(8:Nat)≠29 by decide),aO (show(8:Nat)≠33 by decide)];exact acN ..) hK
  ·exact jD hF hI ho hl hr hs rfl (by decide) (by decide) hF.v2 rfl (by unfold Dl;rw[cy (by omega),aO (show(12:Nat)≠4 by decide),aO (show(12:Nat)≠8 by decide),aO (show(12:Nat)≠16 by decide),aO (show(12:Nat)≠20 by decide),aO (show(12:Nat)≠24 by decide),aO (show(12:Nat)≠29 by decide),aO (show(12:Nat)≠33 by decide)];exact acF ..) hK
  ·exact jD hF hI ho hl hr hs rfl (by decide) (by decide) hF.v3 rfl (by unfold Dl;rw[cy (by omega),aO (show(16:Nat)≠4 by decide),aO (show(16:Nat)≠8 by decide),aO (show(16:Nat)≠12 by decide),aO (show(16:Nat)≠20 by decide),aO (show(16:Nat)≠24 by decide),aO (show(16:Nat)≠29 by decide),aO (show(16:Nat)≠33 by decide)];exact acH ..) hK
  ·exact jD hF hI ho hl hr hs rfl (by decide) (by decide) hF.v4 rfl (by unfold Dl;rw[cy (by omega),aO (show(20:Nat)≠4 by decide),aO (show(20:Nat)≠8 by decide),aO (show(20:Nat)≠12 by decide),aO (show(20:Nat)≠16 by decide),aO (show(20:Nat)≠24 by decide),aO (show(20:Nat)≠29 by decide),aO (show(20:Nat)≠33 by decide)];exact adL ..) hK
  ·exact jD hF hI ho hl hr hs rfl (by decide) (by decide) hF.v5 rfl (by unfold Dl;rw[cy (by omega),aO (show(24:Nat)≠4 by decide),aO (show(24:Nat)≠8 by decide),aO (show(24:Nat)≠12 by decide),aO (show(24:Nat)≠16 by decide),aO (show(24:Nat)≠20 by decide),aO (show(24:Nat)≠29 by decide),aO (show(24:Nat)≠33 by decide)];exact acW ..) hK
  ·exact jD hF hI ho hl hr hs rfl (by decide) (by decide) hF.v6 rfl (by unfold Dl;rw[cy (by omega),aO (show(29:Nat)≠4 by decide),aO (show(29:Nat)≠8 by decide),aO (show(29:Nat)≠12 by decide),aO (show(29:Nat)≠16 by decide),aO (show(29:Nat)≠20 by decide),aO (show(29:Nat)≠24 by decide),aO (show(29:Nat)≠33 by decide)];exact adJ ..) hK
  ·exact jD hF hI ho hl hr hs rfl (by decide) (by decide) hF.v7 rfl (by unfold Dl;rw[cy (by omega),aO (show(33:Nat)≠4 by decide),aO (show(33:Nat)≠8 by decide),aO (show(33:Nat)≠12 by decide),aO (show(33:Nat)≠16 by decide),aO (show(33:Nat)≠20 by decide),aO (show(33:Nat)≠24 by decide),aO (show(33:Nat)≠29 by decide)];exact acf ..) hK
  ·exact IU hF hI ho hl hr hK
  ·exact Hh hF hI ho hl hr hK
def yn(b0 b1 b2 b3 b4 b5 b6 b7:Bool):bs Unit:=Cd true true true true true true true true b0 b1 b2 b3 b4 b5 b6 b7
structure RQ (P:ag) (nt TK TE:Nat) (σ0:cm) (W:AW) (w0:ap) (jN:Array ae) (ds:List cH) (b0 b1 b2 b3 b4 b5 b6 b7:Bool) (a:aQ) (w:ap) (σ:cm) (m r n:Nat):Prop where
 Fp:a.tmps.size=nt
 OB:a.defers=ds
 lI:∀t,(t<14\/41<t)->a.tmps[t]? =jN[t]?
 it:a.tmps.getD 41 ai=.pointer (some ⟨r,0,none⟩)
 rel:aX σ W w.heap
 ext:dE σ0 W w0 σ W w
 nm:∀b g,σ b=some g->g.B≠m
 nr:∀b g,σ b=some g->g.B≠r
 gm:w0.heap.size<=m
 gr:w0.heap.size<=r
 rg:w.ranges P TK (plainElem P TE) m r n (yn b0 b1 b2 b3 b4 b5 b6 b7) (Maps.has (yn b0 b1 b2 b3 b4 b5 b6 b7)) (Maps.size (yn b0 b1 b2 b3 b4 b5 b6 b7))
def RI.done(hF:RF P ops nt TM TK TE σ0 W R jN b0 b1 b2 b3 b4 b5 b6 b7)(hI:RI P ops nt TK TE σ0 W R w0 jN ds b0 b1 b2 b3 b4 b5 b6 b7 l a w)(h:∀i,i<36->l.getD i false=true):
 ∃σ m r n,RQ P nt TK TE σ0 W w0 jN ds b0 b1 b2 b3 b4 b5 b6 b7 a w σ m r n:=by
 obtain⟨hB,σ,hW,hE,oD,fu⟩:=hI;obtain⟨m,n,k1,k2,k3,k4,k5,k6,k7⟩:=fu (h 0 (by decide));obtain⟨r,p1,p2,p3,p4⟩:=k7 (h 35 (by decide));have hD:Dl l b0 b1 b2 b3 b4 b5 b6 b7=yn b0 b1 b2 b3 b4 b5 b6 b7:=by unfold Dl yn;rw[h 4 (by decide),h 8 (by decide),h 12 (by decide),h 16 (by decide),h 20 (by decide),h 24 (by decide),h 29 (by decide),h 33 (by decide)]
 rw[hD]at p4;exact⟨σ,m,r,n,hB.Fp,hB.OB,hB.lI,p1,hW,hE,k1,p2,k2,p3,p4⟩
def Hb(hF:RF P ops nt TM TK TE σ0 W R jN b0 b1 b2 b3 b4 b5 b6 b7){Q:cj->aQ->ap->Prop}(hQ:∀a' w' σ m r n,RQ P nt TK TE σ0 W w0 jN ds b0 b1 b2 b3 b4 b5 b6 b7 a' w' σ m r n->Q .normal a' w'):
 ∀(rW:Nat) (l:Array Bool) (a:aQ) (w:ap),RI P ops nt TK TE σ0 W R w0 jN ds b0 b1 b2 b3 b4 b5 b6 b7 l a w->Rc 36 l<=rW->wpAny P .any ops Q rW l a w:=by
 intro rW;induction rW with
 |zero=>
  intro l a w hI hu;have oP:∀i,i<36->l.getD i false=true:=λi hi=>by
   have h1:=ET (n:=36) (l:=l) (by omega) hi;have Rl:i<l.size:=by rw[hI.base.rh];exact hi
   simp only[pU]at h1|-;rw[ft Rl]at h1|-;exact h1
  refine⟨?_,?_⟩
  ·rw[List.eq_nil_iff_forall_not_mem];intro i hi;obtain⟨h1,o,ho,_⟩:=j9.1 hi;have Co:i<36:=by rw[<-hF.size];exact(cQ.1 ho).1
   have:=oP i Co;rw[jl h1 (by rw[hI.base.rh];exact Co)]at this;cases this
  ·obtain⟨σ,m,r,n,h⟩:=hI.done hF oP;exact hQ _ _ _ _ _ _ h
 |succ rW ih=>
  intro l a w hI hu;refine⟨λhr=>?_,λi hi=>?_⟩
  ·obtain⟨σ,m,r,n,h⟩:=hI.done hF (JM hF hI.base hr);exact hQ _ _ _ _ _ _ h
  ·refine Nz hF hI hi λa' w' hI'=>ih _ a' w' hI' ?_
   obtain⟨h1,o,ho,_⟩:=j9.1 hi;have Co:i<36:=by rw[<-hF.size];exact(cQ.1 ho).1
   have:=w4 (l:=l) Co (by rw[hI.base.rh];exact Co) h1;omega
def GV(hm:P.follows .mixedOrders=true){id:Nat}(hF:RF P ops nt TM TK TE σ0 W R a.tmps b0 b1 b2 b3 b4 b5 b6 b7)(hnt:a.tmps.size=nt)(hW:aX σ0 W w.heap){Q:cj->aQ->ap->Prop}
 (hQ:∀a' w' σ m r n,RQ P nt TK TE σ0 W w a.tmps a.defers b0 b1 b2 b3 b4 b5 b6 b7 a' w' σ m r n->Q .normal a' w'):(Code.region id ops true).wp P Q a w:=by
 refine wp_region_any hm ?_;have rj:∀i,(Array.replicate ops.size false).getD i false=false:=λi=>by simp only[pU,Array.getElem?_replicate];split<;>rfl
 refine Hb (w0:=w) (jN:=a.tmps) (ds:=a.defers) hF hQ _ _ _ _ ⟨⟨by simp[hF.size],hnt,rfl,?_,λ_ _=>rfl⟩,σ0,hW,.drawn _ _ _ _,?_,?_⟩ ?_
 ·intro i hi;rw[rj]at hi;cases hi
 ·intro i o d _ _ hl;rw[rj]at hl;cases hl
 ·intro hl;rw[rj]at hl;cases hl
 ·unfold Rc;have:=List.countP_le_length (p:=λi=> !(Array.replicate ops.size false).getD i true) (l:=List.range 36);rw[hF.size]at this|-;simpa using this
end
end
end Go.Eng
namespace Go.Eng
open Go Go.RowKit
section
variable [aj]
structure cW (w w':ap):Prop where
 os:w'.os=w.os
 tape:w'.tape=w.tape
 output:w'.output=w.output
 size:w.heap.size<=w'.heap.size
 block:∀B,B<w.heap.size->w'.heap[B]? =w.heap[B]?
def cW.grown{w w':ap}(h:cW w w'):Gh w w':=by
 refine⟨⟨h.os,h.output,λi hi=>?_⟩,λa ha=>Et (h.block _ ha),h.size⟩;rw[h.block i hi];cases w.heap[i]? with
 |none=>rfl
 |some o=>cases o<;>first|rfl|exact⟨rfl,rfl,rfl,λ_ _=>rfl⟩|exact .inr ⟨rfl,rfl⟩
def cW.cell{w w':ap}(h:cW w w'){a:aM}{v:ae}(hc:w.cell? a=some v):w'.cell? a=some v:=by
 have fy:a.block<w.heap.size:=by
  rcases qF a.block w.heap.size with h'|h'
  ·exact h'
  ·unfold World.cell? at hc;rw[o4 h']at hc;simp at hc
 rw[World.cell?_of_block (h.block _ fy)];exact hc
def cW.rel{w w':ap}(h:cW w w'){σ:cm}{W:AW}(hW:aX σ W w.heap):aX σ W w'.heap where
 free:=hW.free
 lH b g hb:=⟨(hW.lH b g hb).1,ef (hW.lH b g hb).2 h.size⟩
 obj b o g hb hσ:=(hW.obj b o g hb hσ).same (h.block _ (hW.lH b g hσ).2)
 lP:=hW.lP
def cW.ext{w w':ap}(h:cW w w')(σ:cm)(W:AW):dE σ W w σ W w':=
 ⟨.refl _,λ_ _ h=>h,h.size,h.os,h.tape,h.output,λB hB _=>h.block B hB,λ_ _ a b=>⟨a,b⟩,λ_ _ a _=>.inl a⟩
def cW.other{w w' Mh:ap}(h:cW w w'){r:Nat}(hr:w.heap.size<=r)(hg:w'.grownBy Mh (some r))(mK:Mh.heap.size=w'.heap.size)
 (h1:∀a:aM,a.block=r->w'.frozen? a=false)(h2:∀a:aM,a.block=r->Mh.frozen? a=false):cW w Mh:=by
 refine⟨hg.os.trans h.os,hg.tape.trans h.tape,hg.output.trans h.output,fK h.size hg.size,λB hB=>(hg.block B (ef hB h.size) (λe=>by injection e with e;omega)).trans (h.block B hB)⟩
def DV{H:Type}{P:ag}{k:ah}{w:ap}{Re:ae->Option (bs H×List cI)}{b r n ub:Nat}{D:bs H}{left:Lit->Bool}(h:w.ranges P k Re b r n D left ub){a:aM}(ha:a.block=r):w.frozen? a=false:=by obtain⟨es,gU,since,seen,c0,_,_,_,_,hr,_⟩:=h;unfold World.frozen?;rw[ha,hr]
def xx(B n:Nat):cm:=λb=>if b=0 then some ⟨B,0,n⟩else none
def sX(cs:List ae):AW:=⟨T.set (some (.cells cs)) (path 0) .lf,1⟩
def aeY:aj.Fr:=De aj.blank 1 (.pointer (some ⟨0,0,none⟩))
def AO{cs:List ae}{b:Nat}(e:b≠0):(sX cs).get b=none:=by show T.get (path b) (T.set (some (de.cells cs)) (path 0) .lf)=_;exact(T.eL _ _ _ _ (qH (bL e))).trans (T.uu _)
def y5(cs:List ae){b:Nat}{o:de}(h:(sX cs).get b=some o):b=0/\o=.cells cs:=by
 by_cases e:b=0
 ·subst e;have:(sX cs).get 0=some (.cells cs):=by show T.get (path 0) (T.set (some (de.cells cs)) (path 0) .lf)=_;exact T.iC _ _ _
  rw[this]at h;injection h with h;exact⟨rfl,h.symm⟩
 ·have:(sX cs).get b=none:=AO e;rw[this]at h;cases h
def Pb(w:ap)(t:ah)(cs:List ae)(hp:cs.all a7=true):aX (xx w.heap.size cs.length) (sX cs) (w.alloc (.cells cs.toArray t)).heap where
 free b hb:=AO (by have h1:1<=b:=hb;intro e;subst e;exact absurd h1 (by decide))
 lH b g hb:=by
  unfold xx at hb;split at hb
  ·rename_i e;subst e;injection hb with hb;subst hb;exact⟨Nat.lt_succ_self 0,by simp⟩
  ·cases hb
 obj b o g hb hg:=by obtain⟨rfl,rfl⟩:=y5 cs hb;injection hg with hg;subst hg;refine⟨cs.toArray,t,(0,0),(MapKept.heap_alloc w _).1,λ_=>rfl,by simp,by simp,λi v hv=>⟨v,by simpa using hv,?_⟩⟩;exact fX (bV.1 hp v (mD hv))
 lP b1 b2 o1 o2 g1 g2 dQ h1 h2 _ _ _:=absurd ((y5 cs h1).1.trans (y5 cs h2).1.symm) dQ
def IN{w w2:ap}{t:ah}{cs:List ae}{n:Nat}{σ:cm}(h:dE (xx w.heap.size n) (sX cs) (w.alloc (.cells cs.toArray t)) σ (sX cs) w2):cW w w2:=by
 have mK:(w.alloc (.cells cs.toArray t)).heap.size=w.heap.size+1:=by simp
 refine⟨h.os,h.tape,h.output,by have:=h.size;omega,λB hB=>?_⟩
 ·rw[h.dD B (by omega) ?_]
  ·exact(sx w _ none).block B hB (by simp)
  ·rintro⟨b,g,hb,hg,_⟩;unfold xx at hb;split at hb
   ·injection hb with hb;subst hb;simp only at hg;omega
   ·cases hb
def P5:List Nat:=(List.range 36).filter fL
def Iw(P:ag)(ops:Array am)(W:AW):List Nat->aj.Fr->aj.Fr
 |[],R=>R
 |i::l,R=>match ops[i]? with
  |some o=>(match zW P o R W with
   |some (v,_)=>Iw P ops W l (dw R o.dst v)
   |none=>R)
  |none=>R
def LI{ops:Array am}{TM:Nat}(h:Bk ops TM=true):ops.size=36/\∀i o,ops[i]? =some o->gj ops TM i o=true/\BK i o=true:=by unfold Bk at h;rw[bm,dp,bV]at h;refine⟨h.1,λi o ho=>?_⟩;have:=h.2 i (by have:=(cQ.1 ho).1;simp;omega);rw[ho]at this;simpa using this
section
variable {P:ag}
def ke{d:Nat}{xs ys:Array ae}{f:mX}{fs:List mX}{k:aK}{a b:Int}{r:Bool}{w:ap}(hn:f.name≠ "_")(hk:P.plainKey f.type=true)(hu:P.underlying f.type=some (.int k))
 (hx:xs[f.offset]? =some (.int k a))(hy:ys[f.offset]? =some (.int k b))(hr:(Op.eqFields (d+1) xs ys fs).run P w=.ok r w):(Op.eqFields (d+1) xs ys (f::fs)).run P w=.ok ((a==b)&&r) w:=by
 unfold Op.eqFields;rw[ax hn,bJ,run_part_plain w hk hx,bG,bJ,run_part_plain w hk hy,bG,bJ,run_equalIn_int _ _ _ _ _ _ _ hu,bG];cases a==b
 ·simp
 ·simpa using hr
def Nx{t:ah}{x y:ao}{f0 f1 f2 f3:mX}{k0 k1 k2 k3:aK}{a b c d:Int}(hs:P.underlying t=some (.struct (P.fieldsOf t)))(hp:P.stoodInHeld t=false)(hm:P.eqGuardType P.depth t=false)
 (hf:(P.fieldsOf t).toList=[f0,f1,f2,f3])(n0:f0.name≠ "_")(n1:f1.name≠ "_")(n2:f2.name≠ "_")(n3:f3.name≠ "_")(p0:P.plainKey f0.type=true)(p1:P.plainKey f1.type=true)(p2:P.plainKey f2.type=true)(p3:P.plainKey f3.type=true)
 (u0:P.underlying f0.type=some (.int k0))(u1:P.underlying f1.type=some (.int k1))(u2:P.underlying f2.type=some (.int k2))(u3:P.underlying f3.type=some (.int k3))(o0:f0.offset=0)(o1:f1.offset=1)(o2:f2.offset=2)(o3:f3.offset=3)(w:ap):
 (do eqGuard .neq t x y (.agg #[.int k0 a,.int k1 b,.int k2 c,.int k3 d]) (.agg #[.int k0 0,.int k1 0,.int k2 0,.int k3 0]);binOp .neq t (.agg #[.int k0 a,.int k1 b,.int k2 c,.int k3 d]) (.agg #[.int k0 0,.int k1 0,.int k2 0,.int k3 0]):Sem ae).run P w=
  .ok (.bool (!((a==0)&&((b==0)&&((c==0)&&((d==0)&&true)))))) w:=by
 have h9:∀xs ys:Array ae,(Op.equalIn 10000 t (.agg xs) (.agg ys)).run P w=(Op.eqFields 9999 xs ys (P.fieldsOf t).toList).run P w:=λxs ys=>run_equalIn_struct w 9999 t xs ys hs hp
 have h3:=ke (P:=P) (d:=9998) (xs:=#[.int k0 a,.int k1 b,.int k2 c,.int k3 d]) (ys:=#[.int k0 0,.int k1 0,.int k2 0,.int k3 0]) (fs:=[]) (r:=true) (w:=w) n3 p3 u3 (by rw[o3];rfl) (by rw[o3];rfl) (by simp[Op.eqFields]);have h2:=ke n2 p2 u2 (by rw[o2];rfl) (by rw[o2];rfl) h3;have h1:=ke n1 p1 u1 (by rw[o1];rfl) (by rw[o1];rfl) h2;have h0:=ke n0 p0 u0 (by rw[o0];rfl) (by rw[o0];rfl) h1;have h0':(Op.eqFields 9999 #[.int k0 a,.int k1 b,.int k2 c,.int k3 d] #[.int k0 0,.int k1 0,.int k2 0,.int k3 0] [f0,f1,f2,f3]).run P w=_:=h0;rw[bJ,run_eqGuard_agg _ _ _ _ _ _ _ hm,bG,run_neq_struct,h9,hf,h0',bG]
end
def HR:List Nat:=P5.filter λi=> !Nat.beq i 28
def Fh(P:ag)(ops:Array am)(cs:List ae)(b6:Bool):aj.Fr:=De (Iw P ops (sX cs) HR aeY) 36 (.bool b6)
def Zb(TT:Nat)(o:am):Bool:=match o.op,o.dst with|.binOp .neq t (.tmp x) (.tmp y) _,some d=>Nat.beq t TT&&Nat.beq x 34&&Nat.beq y 35&&Nat.beq d 36|_,_=>false
def C1{P:ag}(hm:P.follows .mixedOrders=true){id nt TM TK TE TT B:Nat}{ops:Array am}{cs:List ae}{a:aQ}{w:ap}{b0 b1 b2 b3 b4 b5 b6 b7:Bool}{Q:cj->aQ->ap->Prop}{tk zk:Array ae}
 (h1:Bk ops TM=true)
 (h2:(HR.map λi=>(ops[i]?).bind λo=>zW P o (Fh P ops cs b6) (sX cs))=HR.map λi=>(ops[i]?).bind λo=>o.dst.map λd=>(ch (Fh P ops cs b6) d,sX cs))
 (v0:ch (Fh P ops cs b6) 17=.bool b0)(v1:ch (Fh P ops cs b6) 20=.bool b1)(v2:ch (Fh P ops cs b6) 23=.bool b2)(v3:ch (Fh P ops cs b6) 26=.bool b3)
 (v4:ch (Fh P ops cs b6) 29=.bool b4)(v5:ch (Fh P ops cs b6) 32=.bool b5)(v7:ch (Fh P ops cs b6) 39=.bool b7)
 (c1:ch (Fh P ops cs b6) 34=.agg tk)(c2:ch (Fh P ops cs b6) 35=.agg zk)(c3:a7 (.agg tk)=true)(c4:a7 (.agg zk)=true)(c5:(ops[28]?).any (Zb TT)=true)
 (c6:∀w,(do eqGuard .neq TT (.tmp 34) (.tmp 35) (.agg tk) (.agg zk);binOp .neq TT (.agg tk) (.agg zk):Sem ae).run P w=.ok (.bool b6) w)
 (h3:ch (Fh P ops cs b6) 1=.pointer (some ⟨0,0,none⟩))(h4:a.tmps.getD 1 ai=.pointer (some ⟨B,0,none⟩))(h5:42<=nt)(h6:a.tmps.size=nt)
 (tM:P.underlying TM=some (.map TK TE))(tK:P.underlying TK=some (.int .i64))(tE:P.underlying TE=some .bool){n:Nat}(hW:aX (xx B n) (sX cs) w.heap)
 (hQ:∀a' w' σ m r k,RQ P nt TK TE (xx B n) (sX cs) w a.tmps a.defers b0 b1 b2 b3 b4 b5 b6 b7 a' w' σ m r k->Q .normal a' w'):(Code.region id ops true).wp P Q a w:=by
 obtain⟨mK,OC⟩:=LI h1;have v6:ch (Fh P ops cs b6) 36=.bool b6:=qo _ _ _;refine GV (nt:=nt) (TM:=TM) (TK:=TK) (TE:=TE) (R:=Fh P ops cs b6) hm ⟨mK,λi o ho=>(OC i o ho).1,λi o ho=>(OC i o ho).2,?_,v0,v1,v2,v3,v4,v5,v6,v7,?_,h5,tM,tK,tE⟩ h6 hW hQ
 ·intro i o d ho hp hd σ w ρ hW hρ;by_cases h32:i=28
  ·subst h32;rw[ho]at c5;simp only[Option.any_some]at c5;unfold Zb at c5;split at c5;case h_2=>cases c5
   rename_i t x y dt d' nu fx;simp only[bm,dp]at c5;obtain⟨⟨⟨rfl,rfl⟩,rfl⟩,rfl⟩:=c5;rw[hd]at fx;injection fx with fx;subst fx;rw[v6];have e1:ρ (.tmp 34)=.agg tk:=by have:=hρ (.tmp 34) (by rw[nu];simp[Op.operands]);rw[show aw (Fh P ops cs b6) (.tmp 34)=.agg tk from c1]at this;exact dU c3 this
   have e2:ρ (.tmp 35)=.agg zk:=by have:=hρ (.tmp 35) (by rw[nu];simp[Op.operands]);rw[show aw (Fh P ops cs b6) (.tmp 35)=.agg zk from c2]at this;exact dU c4 this
   refine qO.value (s:=do eqGuard .neq t (.tmp 34) (.tmp 35) (.agg tk) (.agg zk);binOp .neq t (.agg tk) (.agg zk)) ?_ hW (c6 w) (.bool b6);simp only[execOp,nu,e1,e2]
  ·have hi:i∈HR:=oc.2 ⟨oc.2 ⟨by have:=(cQ.1 ho).1;simp;omega,hp⟩,by cases hb:Nat.beq i 28 with|false=>rfl|true=>exact absurd (uZ hb) h32⟩;have:=List.map_inj_left.1 h2 i hi;exact H8 hW (by simpa[ho,hd]using this) hρ
 ·rw[h3,h4];exact VR.ptr (σ:=xx B n) ⟨0,0,none⟩ ⟨B,0,n⟩ rfl rfl
def Vy{tm jN:Array ae}{it:ae}(h:tm.size=58)(h0:jN.size=58)(lI:∀t,(t<14\/41<t)->tm[t]? =jN[t]?)(Pf:tm.getD 41 ai=it):
 ∃xs:List ae,xs.length=27/\tm=(jN.toList.take 14++(xs++(it::jN.toList.drop 42))).toArray:=by
 have hl:tm.toList.length=58:=by simpa using h
 have CE:jN.toList.length=58:=by simpa using h0
 refine⟨(tm.toList.drop 14).take 27,by simp[hl],?_⟩;apply Array.ext';apply qy;intro i;simp only[];by_cases h1:i<14
 ·rw[o6 (by simp[CE];omega),List.getElem?_take_of_lt h1];have:=lI i (.inl h1);simpa using this
 ·rw[ir (by simp[CE];omega)];have e14:(jN.toList.take 14).length=14:=by simp[CE]
  rw[e14];by_cases h2:i<41
  ·rw[o6 (by simp[hl];omega),List.getElem?_take_of_lt (by omega),pk];congr 1;omega
  ·rw[ir (by simp[hl];omega)];have e27:((tm.toList.drop 14).take 27).length=27:=by simp[hl]
   rw[e27];by_cases h3:i=41
   ·subst h3;have:tm[41]? =some it:=by rw[<-Pf];simp[ft (show 41<tm.size by omega)]
    simpa using this
   ·obtain⟨j,rfl⟩:∃j,i=j+42:=⟨i-42,by omega⟩;have e:j+42-14-27=j+1:=by omega
    rw[e,Br,pk];have:=lI (j+42) (.inr (by omega));have e2:42+j=j+42:=by omega
    rw[e2];simpa using this
def fA{H:Type}{P:ag}{e:ah}(he:P.underlying e=some .bool){v:ae}{y:bs H×List cI}(h:plainElem P e v=some y):∃c,v=.bool c:=by unfold plainElem at h;rw[he]at h;cases v<;>simp at h;exact⟨_,rfl⟩
def NC{σ:cm}{cs:List ae}{w':ap}{B n:Nat}(h:aX σ (sX cs) w'.heap)(hσ:σ 0=some ⟨B,0,n⟩){i:Nat}{v:ae}(hv:cs[i]? =some v)(hp:a7 v=true):w'.cell? ⟨B,i,none⟩=some v:=by
 have hg:(sX cs).get 0=some (.cells cs):=by show T.get (path 0) (T.set (some (de.cells cs)) (path 0) .lf)=_;exact T.iC _ _ _
 obtain⟨c,t,fr,h1,_,_,_,h4⟩:=h.obj 0 _ _ hg hσ;obtain⟨v',h5,h6⟩:=h4 i v hv;rw[dU hp h6]at h5;simp only[aU]at h5;simp[World.cell?,h1,h5]
def rN(g0 g1 g2 g3 g4 g5 g6 g7:Bool):Int:=(cond g0 1 0+(cond g1 2 0+(cond g2 4 0+(cond g3 8 0+(cond g4 16 0+(cond g5 32 0+(cond g6 64 0+cond g7 128 0)))))):Nat)
structure aeI (P:ag) (TK TE m r n:Nat) (D:bs Unit) (left:Lit->Bool) (ub:Nat) (w:ap) where
 x:Int
 c:Bool
 w1:ap
 Hp:Nat
 hl:left (.af x)=true
 ko:∀zd,D.atKey (.af x) zd=.lit (.bool c)
 EM:w1.ranges P TK (plainElem P TE) m r n D (λz=>left z&& !z.sameKey (.af x)) Hp
 fy:Hp<ub
 KF:w.grownBy w1 (some r)
 mK:w1.heap.size=w.heap.size
 V5:(Instr.entry (.pointer (some ⟨r,0,none⟩))).run P w1=.ok (.tuple #[.af x,.bool c]) w1
def ug{P:ag}{ops:Array am}{gn:List am}{o:am}{a:aQ}{w:ap}{Q:cj->aQ->ap->Prop}(hg:o.guard=none)(it:ao)(nu:o.op=Op.next it false){TK TE m r n:Nat}{D:bs Unit}{left:Lit->Bool}{ub:Nat}
 (hk:P.underlying TK=some (.int .i64))(he:P.underlying TE=some .bool)(Pf:a.eval it=.pointer (some ⟨r,0,none⟩))(h:w.ranges P TK (plainElem P TE) m r n D left ub)
 (Wi:(∀kl,left kl=false)->wpList P ops Q gn (a.put o.dst (.tuple #[.bool false])) w)
 (Y2:∀z:aeI P TK TE m r n D left ub w,wpList P ops Q gn (a.put o.dst (.tuple #[.bool true,.af z.x,.bool z.c])) z.w1):wpList P ops Q (o::gn) a w:=
 wpList_next_ranges (α:=Int) (β:=Bool) w hg it nu TK (Go.Maps.int_keyed hk) (plainElem P TE) (Value.int .i64) Value.bool (λkey kl DH=>by obtain⟨x,rfl,_⟩:=Go.Maps.keyOf_int_inv hk DH;exact⟨x,rfl⟩) (λv y hv=>fA he hv) m r n D left ub Pf h (λ_=>Wi)
  (λx c kl y w1 Hp DH hlk hy ko EM fy KF mK V5=>by obtain⟨x',ex,rfl,_⟩:=Go.Maps.keyOf_int_inv hk DH;cases ex;rw[plainElem_bool he]at hy;injection hy with hy;subst hy;exact Y2 ⟨x,c,w1,Hp,hlk,ko,EM,fy,KF,mK,V5⟩)
def Lx{b0 b1 b2 b3 b4 b5 b6 b7 c:Bool}{x:Int}(h:Maps.has (yn b0 b1 b2 b3 b4 b5 b6 b7) (.af x)=true)(ko:∀zd,(yn b0 b1 b2 b3 b4 b5 b6 b7).atKey (.af x) zd=.lit (.bool c)):
 (x=1/\c=b0)\/(x=2/\c=b1)\/(x=4/\c=b2)\/(x=8/\c=b3)\/(x=16/\c=b4)\/(x=32/\c=b5)\/(x=64/\c=b6)\/(x=128/\c=b7):=by
 have hx:x=1\/x=2\/x=4\/x=8\/x=16\/x=32\/x=64\/x=128:=by simp only[Maps.has,yn,Cd,Pe,rA,mB,List.any_cons,List.any_nil,Bool.or_false,kL]at h;rcases h with h|h|h|h|h|h|h|h<;>(have:=WideAt.sameKey_eq h;injection this with _ this;simp_all)
 rcases hx with rfl|rfl|rfl|rfl|rfl|rfl|rfl|rfl
 ·have:(DataW.lit (.bool b0):bs Unit)=.lit (.bool c):=ko .nil;injection this with this;injection this with this;simp[this]
 ·have:(DataW.lit (.bool b1):bs Unit)=.lit (.bool c):=ko .nil;injection this with this;injection this with this;simp[this]
 ·have:(DataW.lit (.bool b2):bs Unit)=.lit (.bool c):=ko .nil;injection this with this;injection this with this;simp[this]
 ·have:(DataW.lit (.bool b3):bs Unit)=.lit (.bool c):=ko .nil;injection this with this;injection this with this;simp[this]
 ·have:(DataW.lit (.bool b4):bs Unit)=.lit (.bool c):=ko .nil;injection this with this;injection this with this;simp[this]
 ·have:(DataW.lit (.bool b5):bs Unit)=.lit (.bool c):=ko .nil;injection this with this;injection this with this;simp[this]
 ·have:(DataW.lit (.bool b6):bs Unit)=.lit (.bool c):=ko .nil;injection this with this;injection this with this;simp[this]
 ·have:(DataW.lit (.bool b7):bs Unit)=.lit (.bool c):=ko .nil;injection this with this;injection this with this;simp[this]
def or0:∀g1 g2 g3 g4 g5 g6 g7:Bool,bits .or .i64 (rN false g1 g2 g3 g4 g5 g6 g7) 1=rN true g1 g2 g3 g4 g5 g6 g7:=by decide+kernel
def or1:∀g0 g2 g3 g4 g5 g6 g7:Bool,bits .or .i64 (rN g0 false g2 g3 g4 g5 g6 g7) 2=rN g0 true g2 g3 g4 g5 g6 g7:=by decide+kernel
def or2:∀g0 g1 g3 g4 g5 g6 g7:Bool,bits .or .i64 (rN g0 g1 false g3 g4 g5 g6 g7) 4=rN g0 g1 true g3 g4 g5 g6 g7:=by decide+kernel
def or3:∀g0 g1 g2 g4 g5 g6 g7:Bool,bits .or .i64 (rN g0 g1 g2 false g4 g5 g6 g7) 8=rN g0 g1 g2 true g4 g5 g6 g7:=by decide+kernel
def or4:∀g0 g1 g2 g3 g5 g6 g7:Bool,bits .or .i64 (rN g0 g1 g2 g3 false g5 g6 g7) 16=rN g0 g1 g2 g3 true g5 g6 g7:=by decide+kernel
def or5:∀g0 g1 g2 g3 g4 g6 g7:Bool,bits .or .i64 (rN g0 g1 g2 g3 g4 false g6 g7) 32=rN g0 g1 g2 g3 g4 true g6 g7:=by decide+kernel
def or6:∀g0 g1 g2 g3 g4 g5 g7:Bool,bits .or .i64 (rN g0 g1 g2 g3 g4 g5 false g7) 64=rN g0 g1 g2 g3 g4 g5 true g7:=by decide+kernel
def or7:∀g0 g1 g2 g3 g4 g5 g6:Bool,bits .or .i64 (rN g0 g1 g2 g3 g4 g5 g6 false) 128=rN g0 g1 g2 g3 g4 g5 g6 true:=by decide+kernel
def Ns{left:Lit->Bool}{x:Int}{c:Bool}{b0 b1 b2 b3 b4 b5 b6 b7:Bool}(hl:left (.af x)=true)
 (h8:(x=1/\c=b0)\/(x=2/\c=b1)\/(x=4/\c=b2)\/(x=8/\c=b3)\/(x=16/\c=b4)\/(x=32/\c=b5)\/(x=64/\c=b6)\/(x=128/\c=b7)):
 (c=false->rN (!left (.af 1)&&b0) (!left (.af 2)&&b1) (!left (.af 4)&&b2) (!left (.af 8)&&b3) (!left (.af 16)&&b4) (!left (.af 32)&&b5) (!left (.af 64)&&b6) (!left (.af 128)&&b7)=rN (!(λz=>left z&& !z.sameKey (.af x)) (.af 1)&&b0) (!(λz=>left z&& !z.sameKey (.af x)) (.af 2)&&b1) (!(λz=>left z&& !z.sameKey (.af x)) (.af 4)&&b2) (!(λz=>left z&& !z.sameKey (.af x)) (.af 8)&&b3) (!(λz=>left z&& !z.sameKey (.af x)) (.af 16)&&b4) (!(λz=>left z&& !z.sameKey (.af x)) (.af 32)&&b5) (!(λz=>left z&& !z.sameKey (.af x)) (.af 64)&&b6) (!(λz=>left z&& !z.sameKey (.af x)) (.af 128)&&b7))/\
 (c=true->bits .or .i64 (rN (!left (.af 1)&&b0) (!left (.af 2)&&b1) (!left (.af 4)&&b2) (!left (.af 8)&&b3) (!left (.af 16)&&b4) (!left (.af 32)&&b5) (!left (.af 64)&&b6) (!left (.af 128)&&b7)) x=rN (!(λz=>left z&& !z.sameKey (.af x)) (.af 1)&&b0) (!(λz=>left z&& !z.sameKey (.af x)) (.af 2)&&b1) (!(λz=>left z&& !z.sameKey (.af x)) (.af 4)&&b2) (!(λz=>left z&& !z.sameKey (.af x)) (.af 8)&&b3) (!(λz=>left z&& !z.sameKey (.af x)) (.af 16)&&b4) (!(λz=>left z&& !z.sameKey (.af x)) (.af 32)&&b5) (!(λz=>left z&& !z.sameKey (.af x)) (.af 64)&&b6) (!(λz=>left z&& !z.sameKey (.af x)) (.af 128)&&b7)):=by
 have e:∀a b:Int,(Lit.int .i64 a).sameKey (.af b)=decide (a=b):=by intro a b;simp[Lit.sameKey]
 rcases h8 with⟨rfl,rfl⟩|⟨rfl,rfl⟩|⟨rfl,rfl⟩|⟨rfl,rfl⟩|⟨rfl,rfl⟩|⟨rfl,rfl⟩|⟨rfl,rfl⟩|⟨rfl,rfl⟩
 ·exact⟨λhc=>by simp[e,hl,hc],λhc=>by simp[e,hl,hc,or0]⟩
 ·exact⟨λhc=>by simp[e,hl,hc],λhc=>by simp[e,hl,hc,or1]⟩
 ·exact⟨λhc=>by simp[e,hl,hc],λhc=>by simp[e,hl,hc,or2]⟩
 ·exact⟨λhc=>by simp[e,hl,hc],λhc=>by simp[e,hl,hc,or3]⟩
 ·exact⟨λhc=>by simp[e,hl,hc],λhc=>by simp[e,hl,hc,or4]⟩
 ·exact⟨λhc=>by simp[e,hl,hc],λhc=>by simp[e,hl,hc,or5]⟩
 ·exact⟨λhc=>by simp[e,hl,hc],λhc=>by simp[e,hl,hc,or6]⟩
 ·exact⟨λhc=>by simp[e,hl,hc],λhc=>by simp[e,hl,hc,or7]⟩
def qY{H:Type}{P:ag}{k:ah}{w:ap}{Re:ae->Option (bs H×List cI)}{b r n ub:Nat}{D:bs H}{left:Lit->Bool}(h:w.ranges P k Re b r n D left ub):∀a:aM,a.block=r->w.frozen? a=false:=λa ha=>DV h ha
def WF(b0 b1 b2 b3 b4 b5 b6 b7:Bool)(u:Int):Int:=if bits .andNot .i64 (rN b0 b1 b2 b3 b4 b5 b6 b7) u=0 then 0 else 2
def JW{H:Type}{P:ag}{k:ah}{w:ap}{Re:ae->Option (bs H×List cI)}{b r n ub:Nat}{D:bs H}{left:Lit->Bool}(h:w.ranges P k Re b r n D left ub):r<w.heap.size:=by obtain⟨es,gU,since,seen,c0,_,_,_,_,hr,_⟩:=h;exact(cQ.1 hr).1
end
section
variable [aj]
def gG(k ow un se sc n to t1 t2 t3 t4 nw:Int):Array ae:=#[.af k,.int .u32 ow,.af un,.af se,.af sc,.af n,.int .u32 to,.int .u32 t1,.int .u32 t2,.int .u64 t3,.int .u64 t4,.af nw]
def HW(ow un se sc n to t1 t2 t3 t4 nw u:Int):Int:=
 WF (!decide (ow=0)) (!decide (un=0)) (!decide (se=0)) (!decide (sc=0)) (!decide (n=0)) (!decide (to=0)) (!((t1==0)&&((t2==0)&&((t3==0)&&((t4==0)&&true))))) (!decide (nw=0)) u
def Bq(c:List ae)(W:AW):Option ae:=
 match c with
 |[.int .i64 k,.int .u32 ow,.int .i64 un,.int .i64 se,.int .i64 sc,.int .i64 n,.int .u32 to,.int .u32 t1,.int .u32 t2,.int .u64 t3,.int .u64 t4,.int .i64 nw]=>
  (match decide (k<1)||decide (12<k)with
  |true=>some (.af 2)
  |false=>match W.get 0 with
   |some (.ro us)=>(match us[k.toNat]? with
    |some (.int .i64 u)=>some (.af (HW ow un se sc n to t1 t2 t3 t4 nw u))
    |_=>none)
   |_=>none)
 |_=>none
def Rk(F:Nat):Callee:=λf args W=>match f with
 |.func (.func g) fs cs=>(match Nat.beq g F&&(fs.isEmpty&&cs.isEmpty)with
  |true=>(match args with
   |[.agg c]=>(match Bq c.toList W with
    |some v=>some (v,W)
    |none=>none)
   |_=>none)
  |false=>none)
 |_=>none
def cW.box(w:ap)(cs:Array ae)(t:ah):cW w (w.alloc (.cells cs t)):=by exact⟨rfl,rfl,rfl,by simp,λB hB=>(sx w _ none).block B hB (by simp)⟩
def LX{P:ag}{ng:List Nat}(h0:0∈ng){F:Nat}{fn:dV}{body:ba}(Ee:P.funcs[F]? =some fn)(mR:(fn.name== "runtime.NumGoroutine")=false)(hb:fn.body=some body)
 (iU:∀(k ow un se sc n to t1 t2 t3 t4 nw u:Int) (w:ap),¬k<1->¬12<k->w.cell? ⟨0,k.toNat,none⟩=some (.af u)->
   Calls P F #[.agg (gG k ow un se sc n to t1 t2 t3 t4 nw)] w λe w'=>e=.returned (.af (HW ow un se sc n to t1 t2 t3 t4 nw u))/\cW w w')
 (vt:∀(k ow un se sc n to t1 t2 t3 t4 nw:Int) (w:ap),(k<1\/12<k)->
   Calls P F #[.agg (gG k ow un se sc n to t1 t2 t3 t4 nw)] w λe w'=>e=.returned (.af 2)/\cW w w'):bB P ng (Rk F):=by
 intro f args W v W' h σ w f' cw hW hG hf bY;unfold Rk at h;split at h;case h_2=>cases h
 rename_i g fs cs;split at h;case h_2=>cases h
 rename_i HK;simp only[bm,dp,tp]at HK;obtain⟨rfl,rfl,rfl⟩:=HK;split at h;case h_2=>cases h
 rename_i c;split at h;case h_2=>cases h
 rename_i v1 H9;injection h with h;injection h with h1 h2;subst h1;subst h2;obtain⟨zT,pV,bP,zA,MO,mI,rfl⟩:=hf.iA;cases zA;obtain rfl:pV=#[]:=by have h1:pV.toList.length=0:=MO.1.symm;exact pB.1 (jd.1 h1)
 obtain rfl:bP=#[]:=by have h1:bP.toList.length=0:=mI.1.symm;exact pB.1 (jd.1 h1)
 obtain⟨a0,rfl⟩:∃a0,cw=[a0]:=by
  have:=bY.1;match cw,this with
  |[a0],_=>exact⟨a0,rfl⟩
 unfold Bq at H9;split at H9;case h_2=>cases H9
 rename_i k ow un se sc n to t1 t2 t3 t4 nw hc;have qU:c=gG k ow un se sc n to t1 t2 t3 t4 nw:=by apply Array.ext';rw[hc];rfl
 subst qU;have ha:a0=.agg (gG k ow un se sc n to t1 t2 t3 t4 nw):=dU (v:=.agg (gG k ow un se sc n to t1 t2 t3 t4 nw)) rfl (bY.2 0 _ _ rfl rfl);subst ha;have wQ:∀z:Int,(Calls P g #[.agg (gG k ow un se sc n to t1 t2 t3 t4 nw)] w λe w'=>e=.returned (.af z)/\cW w w')->
  rf P (.func (.func g) #[] #[]) [.agg (gG k ow un se sc n to t1 t2 t3 t4 nw)] w (λv' w'=>∃σ',VR σ' (.af z) v'/\aX σ' W w'.heap/\dE σ W w σ' W w'):=by
  intro z hz;refine⟨dJ Ee mR hb _ w,?_⟩;refine kh (show CallsIn Fence.wide 0 P g _ w _ from(qw (n:=0)).2 hz) ?_;rintro e w' ⟨rfl,hq⟩;exact⟨_,rfl,σ,.int _ _,hq.rel hW,hq.ext σ W⟩
 split at H9
 ·rename_i hk;injection H9 with H9;subst H9;exact wQ _ (vt _ _ _ _ _ _ _ _ _ _ _ _ w (by simpa using hk))
 ·rename_i hk;simp only[Bool.or_eq_false_iff,decide_eq_false_iff_not]at hk;split at H9;case h_2=>cases H9
  rename_i us hus;split at H9;case h_2=>cases H9
  rename_i u hu;injection H9 with H9;subst H9;obtain⟨e,he⟩:=hG 0 h0;obtain⟨cc,t,fr,k1,_,k3⟩:=hW.obj 0 _ _ hus he;have Hy:w.cell? ⟨0,k.toNat,none⟩=some (.af u):=by obtain⟨v',this,OL⟩:=k3 _ _ hu;obtain rfl:=OL.mf;simp only[aU]at this;simp[World.cell?,k1,this]
  exact wQ _ (iU _ _ _ _ _ _ _ _ _ _ _ _ _ w hk.1 hk.2 Hy)
def Js{gs:List (Nat×List ae)}{N:Nat}{σ':cm}{W':AW}{w w':ap}(he:dE (σG gs) (WG gs N) w σ' W' w'):cW w w':=
 ⟨he.os,he.tape,he.output,he.size,λB hB=>he.dD B hB aaP⟩
def tS{P:ag}(hm:P.follows .mixedOrders=true){bad:List Nat}(hP:i9 aj.ng bad 0 P.funcs.toList=true){spec:Callee}(hs:bB P aj.ng spec)(n:Nat)
 {gs:List (Nat×List ae)}{N:Nat}(hN:gs.all (λx=>Nat.blt x.1 N)=true)(HU:aj.ng.all (λg=>(gs.find? (λx=>x.1==g)).isSome)=true){i:Nat}{args:List ae}(np:args.all a7=true)
 (h:Hj (Fx P bad spec n (.func (.func i) #[] #[]) args (WG gs N))=true)(w:ap)(hl:rl gs w.heap):
 Calls P i args.toArray w λe w'=>e=.returned (.bool true)/\cW w w':=by
 obtain⟨W',hr⟩:=Km h;have hc:=AF hm rfl hP hs n _ _ _ _ _ hr (σG gs) w (.func (.func i) #[] #[]) args (RZ hN hl) (MK HU)
  (.func _ _ _ _ _ _ (.func i) rfl (λi v v' x=>by simp at x) rfl (λi v v' x=>by simp at x)) (Gg np)
 unfold rf at hc;obtain⟨_,hc⟩:=hc;have e1:(#[]:Array ae)++args.toArray++#[]=args.toArray:=by simp
 rw[e1]at hc;refine(qw (n:=0)).1 ?_;refine kh (show CallsIn Fence.wide 0 P i args.toArray w _ from hc) ?_;rintro e w' ⟨v,rfl,σ',hv,_,he⟩;exact⟨by rw[hv.fA],Js he⟩
def vZ{ng bad:List Nat}{F:Nat}:∀{l:List dV} {i:Nat},i9 ng bad i l=true->i9 ng (F::bad) i l=true
 |[],_,_=>rfl
 |f::l,i,h=>by
  simp only[i9,bm,kL]at h|-;refine⟨?_,vZ h.2⟩;rcases h.1 with h1|h1
  ·exact .inl (oC.2 (List.mem_cons_of_mem _ (oC.1 h1)))
  ·exact .inr h1
def UA(F:Nat)(Ib:List ByteArray)(s:Callee):Callee:=λf args W=>match f with
 |.func (.func g) fs cs=>(match Nat.beq g F&&(fs.isEmpty&&cs.isEmpty)with
  |true=>(match args with
   |[.string b]=>(match Ib.any (tP b)with
    |true=>(match W.get 0 with
     |some (.ro _)=>some (.bool true,W)
     |_=>none)
    |false=>none)
   |_=>none)
  |false=>s (.func (.func g) fs cs) args W)
 |_=>none
def PI{P:ag}{ng:List Nat}(h0:0∈ng){F:Nat}{fn:dV}{body:ba}(Ee:P.funcs[F]? =some fn)(mR:(fn.name== "runtime.NumGoroutine")=false)(hb:fn.body=some body){Ib:List ByteArray}{s:Callee}(hs:bB P ng s)
 (oP:∀b∈Ib,∀w:ap,rl [(0,[])] w.heap->Calls P F #[.string b] w λe w'=>e=.returned (.bool true)/\cW w w'):bB P ng (UA F Ib s):=by
 intro f args W v W' h σ w f' cw hW hG hf bY;unfold UA at h;split at h;case h_2=>cases h
 rename_i g fs cs;split at h;case h_2=>exact hs _ _ _ _ _ h σ w f' cw hW hG hf bY
 rename_i HK;simp only[bm,dp,tp]at HK;obtain⟨rfl,rfl,rfl⟩:=HK;split at h;case h_2=>cases h
 rename_i b;split at h;case h_2=>cases h
 rename_i HN;split at h;case h_2=>cases h
 rename_i us hus;injection h with h;injection h with h1 h2;subst h1;subst h2;obtain⟨zT,pV,bP,zA,MO,mI,rfl⟩:=hf.iA;cases zA;obtain rfl:pV=#[]:=by have h1:pV.toList.length=0:=MO.1.symm;exact pB.1 (jd.1 h1)
 obtain rfl:bP=#[]:=by have h1:bP.toList.length=0:=mI.1.symm;exact pB.1 (jd.1 h1)
 obtain⟨a0,rfl⟩:∃a0,cw=[a0]:=by
  have:=bY.1;match cw,this with
  |[a0],_=>exact⟨a0,rfl⟩
 have ha:a0=.string b:=VR.yU (bY.2 0 _ _ rfl rfl);subst ha;obtain⟨e,he⟩:=hG 0 h0;obtain⟨cc,t,fr,k1,_,_⟩:=hW.obj 0 _ _ hus he;obtain⟨b',Vg,CI⟩:=nZ.1 HN;have:=xK CI;subst this;have hl:rl [(0,[])] w.heap:=λx hx=>by
  obtain rfl:x=(0,[]):=by simpa using hx
  exact⟨cc,t,fr,k1,λi v hv=>by simp at hv⟩
 refine⟨dJ Ee mR hb _ w,?_⟩;refine kh (show CallsIn Fence.wide 0 P g _ w _ from(qw (n:=0)).2 (oP _ Vg w hl)) ?_;rintro e w' ⟨rfl,hq⟩;exact⟨_,rfl,σ,.bool _,hq.rel hW,hq.ext σ W⟩
end
section
variable [aj]
def H3:List (Nat×Callee)->Callee
 |[]=>λ_ _ _=>none
 |(F,c)::l=>λf args W=>match f with
  |.func (.func g) fs cs=>(match Nat.beq g F with
   |true=>c (.func (.func g) fs cs) args W
   |false=>H3 l (.func (.func g) fs cs) args W)
  |_=>none
def EE{P:ag}{ng:List Nat}:∀{l:List (Nat×Callee)},(∀x∈l,bB P ng x.2)->bB P ng (H3 l)
 |[],_=>λf args W v W' h=>by cases h
 |(F,c)::l,hl=>by
  intro f args W v W' h;unfold H3 at h;split at h;case h_2=>cases h
  split at h
  ·exact hl (F,c) (by simp) _ _ _ _ _ h
  ·exact EE (λx hx=>hl x (by simp[hx])) _ _ _ _ _ h
def xF(gs:List (Nat×List ae))(W:AW):Prop:=∀x∈gs,W.get x.1=some (.ro x.2)/\x.1<W.next
def xF.mono{gs:List (Nat×List ae)}{W W':AW}(h:xF gs W)(bk:Le W W'):xF gs W':=λx hx=>⟨by rw[bk.get _ (h x hx).2];exact(h x hx).1,ef (h x hx).2 bk.next⟩
def xS(F:Nat)(gs:List (Nat×List ae))(val:List ae->Option ae):Callee:=λf args W=>match f with
 |.func (.func g) fs cs=>(match Nat.beq g F&&(fs.isEmpty&&cs.isEmpty)with
  |true=>open Classical in if xF gs W then(match val args with
   |some v=>if a7 v&&args.all a7 then some (v,W)else none
   |none=>none)else none
  |false=>none)
 |_=>none
def Nd{F:Nat}{gs:List (Nat×List ae)}{val:List ae->Option ae}{args:List ae}{W:AW}{v:ae}(hg:xF gs W)(hv:val args=some v)(hp:a7 v=true)(ha:args.all a7=true):
 xS F gs val (.func (.func F) #[] #[]) args W=some (v,W):=by
 unfold xS;simp only[mu,Array.isEmpty_empty,qA,ax hg,hv,hp,ha,bc]
def My{P:ag}{ng:List Nat}{F:Nat}{fn:dV}{body:ba}(Ee:P.funcs[F]? =some fn)(mR:(fn.name== "runtime.NumGoroutine")=false)(hb:fn.body=some body){gs:List (Nat×List ae)}(hsc:gs.all (λx=>x.2.all bZ&&El x.1 ng)=true){val:List ae->Option ae}
 (oP:∀args v,val args=some v->∀w:ap,rl gs w.heap->Calls P F args.toArray w λe w'=>e=.returned v/\cW w w'):bB P ng (xS F gs val):=by
 intro f args W v W' h σ w f' cw hW hG hf bY;unfold xS at h;split at h;case h_2=>cases h
 rename_i g fs cs;split at h;case h_2=>cases h
 rename_i HK;simp only[bm,dp,tp]at HK;obtain⟨rfl,rfl,rfl⟩:=HK;split at h;case isFalse=>cases h
 rename_i hgl;split at h;case h_2=>cases h
 rename_i u hu;split at h;case isFalse=>cases h
 rename_i np;injection h with h;injection h with h1 h2;subst h1;subst h2;simp only[bm]at np;obtain⟨zT,pV,bP,zA,MO,mI,rfl⟩:=hf.iA;cases zA;obtain rfl:pV=#[]:=by have h1:pV.toList.length=0:=MO.1.symm;exact pB.1 (jd.1 h1)
 obtain rfl:bP=#[]:=by have h1:bP.toList.length=0:=mI.1.symm;exact pB.1 (jd.1 h1)
 obtain rfl:cw=args:=LR.Oi (λv v'=>dU) np.2 bY;have hl:rl gs w.heap:=λx hx=>by have hs:=bV.1 hsc x hx;simp only[bm]at hs;obtain⟨e,he⟩:=hG x.1 (oC.1 hs.2);obtain⟨c,t,fr,k1,_,k3⟩:=hW.obj x.1 _ _ (hgl x hx).1 he;refine⟨c,t,fr,k1,λi v hv=>?_⟩;obtain⟨v',a,b⟩:=k3 i v hv;have hsv:=bV.1 hs.1 v (mD hv);have:v'=v:=Au hsv b;subst this;exact⟨by simpa using a,hsv⟩
 refine⟨dJ Ee mR hb _ w,?_⟩;have e1:(#[]:Array ae)++cw.toArray++#[]=cw.toArray:=by simp
 rw[e1];refine kh (show CallsIn Fence.wide 0 P g _ w _ from(qw (n:=0)).2 (oP _ _ hu w hl)) ?_;rintro e w' ⟨rfl,hq⟩;exact⟨_,rfl,σ,fX np.1,hq.rel hW,hq.ext σ W⟩
def Ao(σ:cm)(W:AW):Prop:=∀b g,σ b=some g->∃cs,W.get b=some (.ro cs)
def Ao.quiet{σ σ':cm}{W W':AW}{w w':ap}(h:Ao σ W)(he:dE σ W w σ' W' w'):cW w w':=
 ⟨he.os,he.tape,he.output,he.size,λB hB=>he.dD B hB (by rintro⟨b,g,hg,_,hn⟩;obtain⟨cs,hc⟩:=h b g hg;exact hn cs hc)⟩
def MM{P:ag}{o:Callee}(gJ:bB P aj.ng o){σ:cm}{W W':AW}{w:ap}(hW:aX σ W w.heap)(hG:qM σ aj.ng)(lT:Ao σ W){i:fo}{args cw:List ae}(bY:LR σ args cw){v:ae}(hv:a7 v=true)
 (h:o (.func (.func i) #[] #[]) args W=some (v,W')):Calls P i cw.toArray w λe w'=>e=.returned v/\cW w w':=by
 have hc:=gJ _ _ _ _ _ h σ w (.func (.func i) #[] #[]) cw hW hG (.func _ _ _ _ _ _ (.func i) rfl (λi v v' x=>by simp at x) rfl (λi v v' x=>by simp at x)) bY;unfold rf at hc;obtain⟨_,hc⟩:=hc;have e1:(#[]:Array ae)++cw.toArray++#[]=cw.toArray:=by simp
 rw[e1]at hc;refine(qw (n:=0)).1 ?_;refine kh (show CallsIn Fence.wide 0 P i cw.toArray w _ from hc) ?_;rintro e w' ⟨v',rfl,σ',OL,_,he⟩;exact⟨by rw[dU hv OL],lT.quiet he⟩
def QB{gs:List (Nat×List ae)}{N:Nat}:Ao (σG gs) (WG gs N):=by intro b g hg;obtain⟨x,_,_,_,ht⟩:=mO hg;exact⟨x.2,ht⟩
def OP{gs:List (Nat×List ae)}{N:Nat}(hN:gs.all (λx=>Nat.blt x.1 N)=true)(hd:∀x∈gs,gs.find? (λy=>y.1==x.1)=some x):xF gs (WG gs N):=by intro x hx;refine⟨?_,show x.1<N by have:=bV.1 hN x hx;simpa[gO]using this⟩;show T.get (path x.1) (xG gs)=_;rw[qr,hd x hx];rfl
end
end Go.Eng
namespace Go.Eng
open Go
section
variable [aj]
section
variable {P:ag} {W:AW}
def aP(l:List UInt8):ByteArray:=⟨l.toArray⟩
def E9(b:ByteArray):aP b.data.toList=b:=by cases b;simp[aP]
def gY(l:List UInt8):(aP l).size=l.length:=by simp[aP,ByteArray.size]
def rK(l:List Nat):xU l=.string (aP (l.map UInt8.ofNat)):=aL rfl rfl
def wl(l:List UInt8)(i:Nat):(aP l)[i]? =l[i]? :=by
 by_cases h:i<l.length
 ·have h2:i<(aP l).size:=by rw[gY];exact h
  rw[cx h,getElem?_pos (aP l) i h2];rfl
 ·rw[nB (by omega),getElem?_neg (aP l) i (by rw[gY];exact h)]
def xJ{s:Sem ae}{v:ae}(h:bI P s=some v)(hv:a7 v=true)(c:Bool)(hc:c=true):(iy P c (do pure (.value (<-s)))).map (λv=>(v,W))=some (v,W):=by subst hc;unfold iy;simp only[bc,CU h,hv,bR]
def ql{t:ah}(hs:P.underlying t=some .string){l:List UInt8}{i:Nat}{k:aK}(hi:i<l.length):fR P t (.string (aP l)) (.int k (i:Int)) W=some (.int .u8 (l[i].toNat:Int),W):=by
 have e:fR P t (.string (aP l)) (.int k (i:Int)) W=(iy P (a7 (.string (aP l))&&(a7 (.int k (i:Int))&&true)) (do pure (.value (<-Instr.index t (.string (aP l)) (.int k (i:Int)))))).map λv=>(v,W):=by unfold fR;rw[hs]
 rw[e];refine xJ ?_ rfl _ rfl;unfold Instr.index;have h0:(0:Int)<=(i:Int):=by omega
 simp only[asIntOf,pure_bind,dM,dT hs,bl,h0,bc,nG,wl,cx hi,eF]
def gM{ts:Array ah}{ty:ah}{cf:Array Bool}(h:(ts[0]?).bind P.underlying=some .string)(l:List UInt8):aD P .len ts ty cf [.string (aP l)] W=some (.af l.length,W):=by
 obtain⟨t,h1,h2⟩:∃t,ts[0]? =some t/\P.underlying t=some .string:=by
  cases ht:ts[0]? with
  |none=>rw[ht]at h;cases h
  |some t=>rw[ht]at h;exact⟨t,rfl,h⟩
 have e:aD P .len ts ty cf [.string (aP l)] W=(iy P ([Value.string (aP l)].all a7) (builtin .len ts ty cf #[.string (aP l)])).map λv=>(v,W):=by unfold aD;rfl
 rw[e];have e2:builtin .len ts ty cf #[.string (aP l)]=(do pure (.value (<-Builtin.len_ ts ty #[.string (aP l)]))):=rfl;rw[e2];refine xJ ?_ rfl _ rfl;unfold Builtin.len_;simp only[h1,List.getElem?_toArray,Bo,dM,dT h2,bl,eF,gY];rfl
def pe(l:List UInt8)(a b:Nat):(aP l).extract a b=aP ((l.take b).drop a):=by
 have h:((aP l).extract a b).data=(aP ((l.take b).drop a)).data:=by rw[ByteArray.data_extract];apply mA.1;simp[aP,BQ,List.drop_take]
 cases hx:(aP l).extract a b with
 |mk d=>rw[hx]at h;simp only at h;rw[h]
def Lv{t:ah}(hs:P.underlying t=some .string){l:List UInt8}{a:Nat}{k:aK}(h:a<=l.length):dX P t (.string (aP l)) (some (.int k (a:Int))) none none W=some (.string (aP (l.drop a)),W):=by
 have e:dX P t (.string (aP l)) (some (.int k (a:Int))) none none W=(iy P (([Value.string (aP l),.int k (a:Int)]:List ae).all a7) (do pure (.value (<-Instr.sliceAt t (.string (aP l)) (some (.int k (a:Int))) none none)))).map λv=>(v,W):=by unfold dX jS;rw[hs];rfl
 rw[e];refine xJ ?_ rfl _ rfl;have h0:(0:Int)<=(a:Int)/\(a:Int)<=((aP l).size:Int):=by rw[gY];omega
 have hx:(aP l).extract a (aP l).size=aP (l.drop a):=by rw[pe,gY,dK]
 unfold Instr.sliceAt Instr.slice Instr.sliceBounds Instr.sliceBound;simp only[dM,dT hs,bl,asIntOf,pure_bind,h0,md,bc,eF,nG,hx,sO,kW,cE]
def T6{t:ah}(hs:P.underlying t=some .string){l:List UInt8}{a:Nat}{k:aK}(h:a<=l.length):dX P t (.string (aP l)) none (some (.int k (a:Int))) none W=some (.string (aP (l.take a)),W):=by
 have e:dX P t (.string (aP l)) none (some (.int k (a:Int))) none W=(iy P (([Value.string (aP l),.int k (a:Int)]:List ae).all a7) (do pure (.value (<-Instr.sliceAt t (.string (aP l)) none (some (.int k (a:Int))) none)))).map λv=>(v,W):=by unfold dX jS;rw[hs];rfl
 rw[e];refine xJ ?_ rfl _ rfl;have h0:(0:Int)<=(a:Int)/\(a:Int)<=((aP l).size:Int):=by rw[gY];omega
 have hx:(aP l).extract 0 a=aP (l.take a):=by rw[pe];simp
 unfold Instr.sliceAt Instr.slice Instr.sliceBounds Instr.sliceBound;simp only[dM,dT hs,bl,asIntOf,pure_bind,h0,md,bc,eF,nG,hx,sO,kW,cE]
def qT(l:List UInt8):(aP l).toList=l:=by rw[ByteArray.toList_eq];rfl
def nJ{t:ah}{c d:Bool}{a b:List UInt8}:az P .eql t c d (.string (aP a)) (.string (aP b)) W=some (.bool (a==b),W):=by rw[vj,qT,qT]
def aT(a:aM):aR (.pointer (some a)) W=some (.pointer (some a),W):=aL rfl rfl
def HZ{t:ah}{x:ae}:aG P [(x,some t)] W=(ic P t x W).bind λr=>some (r.1,W):=by unfold aG ic;simp only[oF];cases gK P W t x<;>rfl
def k8{t:ah}{x u:ae}:aG P [(x,some t),(u,none)] W=(ic P t x W).bind λr=>some (.tuple #[r.1,u],W):=by unfold aG ic;simp only[oF];cases gK P W t x<;>rfl
def qn{t t2:ah}{x y:ae}:aG P [(x,some t),(y,some t2)] W=(ic P t x W).bind λr=>(ic P t2 y W).bind λq=>some (.tuple #[r.1,q.1],W):=by unfold aG ic;simp only[oF];cases gK P W t x<;>cases gK P W t2 y<;>rfl
def xW{t t2:ah}{x y u:ae}:aG P [(x,some t),(y,some t2),(u,none)] W=(ic P t x W).bind λr=>(ic P t2 y W).bind λq=>some (.tuple #[r.1,q.1,u],W):=by unfold aG ic;simp only[oF];cases gK P W t x<;>cases gK P W t2 y<;>rfl
def ON{b:Nat}{cs:List ae}(h:aA W b=some cs)(h1:cs.all one=true):cS cs.length (.pointer (some ⟨b,0,none⟩)) (.agg cs.toArray) W=some (ai,W.put b (.cells cs)):=by rw[qq,h];simp only[bl,rI,aU,aS,h1,md,bc,fh,oZ,mB,List.drop_length,jY]
def lW{b n:Nat}{cs:List ae}(h:aH W b=some cs)(hn:cs.length=n):b9 n (.pointer (some ⟨b,0,none⟩)) W=some (.agg cs.toArray,W):=by rw[G6,h];simp only[bl,ol,<-hn,dK,bc]
end
end
def SX:=aI @sL (aI @Ux (aI @gH (aI @Db (aI @J1 (aI @EX (aI @yf (aI @Ke (aI @FY (aI @Be (aI @BD (aI @BJ (aI @Bp (aI @BV (aI @Ol (aI @IG (aI @Md (aI @Jy (aI @Ny (aI @Gl (aI @BR (aI @FD (aI @JO (aI @GZ (aI @JZ (aI @By (aI @Kp (aI @P0 (aI @R6 (aI @QG (aI @N4 (aI @M7 (aI @NT (aI @Mm (aI @No (aI @Mc (aI @Gx (aI @Gr (aI @FH (aI @Nh (aI @Sd (aI @Bool.not_true (aI @Bool.not_false (aI @decide_true (@decide_false))))))))))))))))))))))))))))))))))))))))))))
def MX:=aI @Mv (aI @G6 (aI @bO (aI @bz (aI @bl.{0,0} (aI @bR.{0,0} (aI @ol.{0} (aI @List.drop_succ_cons.{0} (aI @B7.{0} (aI @oZ.{0} (aI @dB.{0} (aI @xg.{0} (aI @Bo.{0} (aI @Br.{0} (aI @aU (aI @bc.{1} (aI @md (aI @ph (aI @Gb (aI @QH (aI @Fw (aI @Nt (aI @mT (aI @y7 (aI @HO (aI @mi (aI @sd (aI @KO (aI @Aq (aI @GU (aI @AY (aI @ov (aI @nW (aI @qA (aI @sN (aI @Qi (aI @kw (aI @Eh (aI @Gz (aI @Kd (aI @qq (aI @vI (aI @eJ (aI @mg (aI @bt (aI @pC (aI @aW (aI @BX.{0} (aI @Bb.{0} (aI @mB.{0} (aI @rA.{0} (aI @oa (aI @Lj (aI @od (aI @KI (aI @fa.{0} (aI @qf.{0} (aI @rI.{0} (aI @jY.{0} (aI @HC (aI @List.drop_nil.{0} (@List.take_nil.{0})))))))))))))))))))))))))))))))))))))))))))))))))))))))))))))
section
variable [aj]
section
variable {P:ag} {W:AW} {α:Type}
def wS(lo:Nat)(W:AW)(z:Nat)(f:α->List ae)(v:ae)(l:List α):Prop:=
 (l=[]/\v=.slice none 0 0)\/(l≠[]/\∃B,lo<=B/\B<W.next/\v=.slice (some ⟨B,0,none⟩) l.length (eS+z)/\W.get B=some (.cells (l.flatMap f)))
def bS{z:Nat}{f:α->List ae}(hf:∀a,(f a).length=z):∀l:List α,(l.flatMap f).length=l.length*z
 |[]=>by simp
 |a::l=>by rw[ly,dj,hf,bS hf l,dB,Nat.succ_mul,Nat.add_comm]
def wS.nil(lo:Nat)(W:AW)(z:Nat)(f:α->List ae):wS lo W z f (.slice none 0 0) []:=.inl ⟨rfl,rfl⟩
def wS.mono{lo z:Nat}{f:α->List ae}{v:ae}{l:List α}{W':AW}(h:wS lo W z f v l)(bk:Le W W'):wS lo W' z f v l:=by
 rcases h with h|⟨h0,B,h1,h2,h3,h4⟩
 ·exact .inl h
 ·exact .inr ⟨h0,B,h1,ef h2 bk.next,h3,by rw[bk.get B h2];exact h4⟩
def wS.push{ts:Array ah}{z bytes lo:Nat}{f:α->List ae}{v:ae}{l:List α}{a:α}(hk:iY P ts z bytes=true)(hf:∀a,(f a).length=z)(h1:∀a,(f a).all one=true)
 (h:wS lo W z f v l){b c:Nat}(hc:aH W b=some (f a))(hb:l.length+1<1099511627776)(gW:(2*(l.length+1)+192)*bytes<=281474976710656)(HT:lo<=W.next):
 ∃v' W',aN P W ts v (.slice (some ⟨b,0,none⟩) 1 c)=some (v',W')/\wS lo W' z f v' (l++[a])/\W.next<=W'.next/\∀A,Le A W->A.next<=lo->Le A W':=by
 have hn:f a=((f a).drop 0).take (1*z):=by rw[ol,Nat.one_mul,<-hf a,dK]
 have hl:(f a).length=1*z:=by rw[hf];omega
 rcases h with⟨rfl,rfl⟩|⟨h0,B,i1,i2,rfl,i4⟩
 ·refine⟨_,_,wN (b:=b) (o:=0) (c:=c) hk hc hn hl (by omega) (h1 a) (by omega) (by simpa using gW),.inr ⟨by simp,W.next,HT,by rw[AW.aJ];omega,by simp,by rw[AW.bf];simp⟩,by rw[AW.aJ];omega,λA hA _=>hA.add _⟩
 ·have uR:0<l.length:=qv.2 h0;refine⟨_,_,Ht (b:=b) (o:=0) (c:=c) hk hc hn hl (by omega) (h1 a) i4 (bS hf l) (by omega) gW uR,.inr ⟨by simp,W.next,HT,by rw[AW.aJ,AW.dm];omega,by simp,?_⟩,by rw[AW.aJ,AW.dm];omega,λA hA hl=>(hA.kill (by omega)).add _⟩;have:=(W.kill B).bf (.cells (l.flatMap f++f a));rw[AW.dm]at this;rw[this,fH];simp
def wS.row{lo z:Nat}{f:α->List ae}{v:ae}{l:List α}{at_:List ae->Nat->α->Prop}(hf:∀a,(f a).length=z)(h:wS lo W z f v l)(ko:∀a pre post,at_ (pre++(f a++post)) pre.length a):Row W z at_ v l:=by
 rcases h with⟨rfl,rfl⟩|⟨h0,B,i1,i2,rfl,i4⟩
 ·exact⟨none,0,rfl,.inl rfl⟩
 ·refine⟨_,_,rfl,.inr ⟨B,0,_,rfl,i2,bw i4,λi hi=>?_⟩⟩;have e:l.flatMap f=(l.take i).flatMap f++(f l[i]++(l.drop (i+1)).flatMap f):=by rw[<-ly,<-oz hi,<-fH,uX]
  have e2:((l.take i).flatMap f).length=0+i*z:=by rw[bS hf,dR];rw[mG (by omega),aU]
  rw[e,<-e2];exact ko _ _ _
end
end
section
variable [aj]
section
variable {P:ag} {bad:List Nat} {spec:Callee}
def aav(x:X)(l:Nat)(R:aj.Fr)(nt:Nat)(ps:Array Tmp)(ajb bd:ba)(W:AW):ae×AW:=match x with
 |.normal=>(.bool true,W.put l (.loop .ready none R nt ps ajb bd))
 |x=>(.bool false,W.put l (.loop .done x.jump R nt ps ajb bd))
def AS{l nt:Nat}{R:aj.Fr}{ps:Array Tmp}{ajb bd:ba}{W:AW}{args:List ae}(hl:W.get l=some (.loop .ready none R nt ps ajb bd))(hn:args.length=ps.size)
 {R1:aj.Fr}{W1:AW}(h1:eZ P (om P bad spec) false nt ajb LT (jZ ps.toList args R) W j7=some (.normal,R1,W1))(hk:W1.get l=some (.loop .ready none R nt ps ajb bd))
 {x2:X}{R2:aj.Fr}{W2:AW}(h2:eZ P (om P bad spec) false nt bd LT R1 (W1.put l (.loop .busy none R nt ps ajb bd)) j7=some (x2,R2,W2))(Ei:W2.get l=some (.loop .busy none R nt ps ajb bd)):
 om P bad spec (.func (.yield l) #[] #[]) args W=some (aav x2 l R nt ps ajb bd W2):=by
 refine MU hl (by simpa using hn) ?_;unfold Ch;rw[show(#[]:Array ae).toList++args=args from rfl,h1];simp only[bl,oG,hk,h2,Ei];unfold aav;cases x2<;>rfl
def t6{call:Callee}{i:Nat}{fs cs:Array ae}{obj:de}{W W2:AW}{v:ae}(h:call (.func (.func i) fs cs) [.func (.yield W.next) #[] #[]] (W.add obj)=some (v,W2))
 {st:LoopState}{R:aj.Fr}{nt:Nat}{ps:Array Tmp}{ajb bd:ba}(hg:W2.get W.next=some (.loop st none R nt ps ajb bd))(hs:st≠ .busy):gQ call (.func (.func i) fs cs) obj W=some (.normal,W2.kill W.next):=by
 unfold gQ;simp only[h,hg]
def yu{call:Callee}{i:Nat}{fs cs:Array ae}{obj:de}{W W2:AW}{v:ae}(h:call (.func (.func i) fs cs) [.func (.yield W.next) #[] #[]] (W.add obj)=some (v,W2))
 {x:X}{R:aj.Fr}{nt:Nat}{ps:Array Tmp}{ajb bd:ba}(hg:W2.get W.next=some (.loop .done x.jump R nt ps ajb bd)):gQ call (.func (.func i) fs cs) obj W=some (x,W2.kill W.next):=by
 unfold gQ;simp only[h,hg];cases x<;>rfl
end
end
end Go.Eng
namespace Go.Eng
open Go Go.RowKit Go.Sort
section
variable [aj]
def gX(zs:List Int):List Int:=zs.mergeSort λx y=>decide (x<=y)
def qI(zs:List Int):(gX zs).length=zs.length:=List.length_mergeSort _
def jC(W:AW)(args:List ae)(W':AW):Prop:=∃b c zs,zs≠[]/\zs.length<1099511627776/\args=[.slice (some ⟨b,0,none⟩) zs.length c]/\W.get b=some (.cells (zs.map (Value.int .i64)))/\W'=W.put b (.cells ((gX zs).map (Value.int .i64)))
def vS:∀{a b:List Int},a.map (Value.int .i64)=b.map (Value.int .i64)->a=b
 |[],[],_=>rfl
 |[],_::_,h=>by simp at h
 |_::_,[],h=>by simp at h
 |x::a,y::b,h=>by simp only[iN,List.cons.injEq,Value.int.injEq,true_and]at h;rw[h.1,vS h.2]
def jC.one{W W1 W2:AW}{args:List ae}(h1:jC W args W1)(h2:jC W args W2):W1=W2:=by obtain⟨b,c,zs,_,_,rfl,g1,rfl⟩:=h1;obtain⟨b2,c2,zs2,_,_,e,g2,rfl⟩:=h2;simp only[List.cons.injEq,Value.slice.injEq,fb,Addr.mk.injEq,and_true]at e;obtain⟨rfl,_,_⟩:=e;rw[g1]at g2;simp only[fb,de.cells.injEq]at g2;rw[vS g2]
def yG(F:Nat):Callee:=λf args W=>match f with
 |.func (.func g) fs cs=>(match Nat.beq g F&&(fs.isEmpty&&cs.isEmpty)with
  |true=>open Classical in if h:∃W',jC W args W' then some (.tuple #[],Classical.choose h)else none
  |false=>none)
 |_=>none
def Mt{F:Nat}{W W':AW}{args:List ae}(h:jC W args W'):yG F (.func (.func F) #[] #[]) args W=some (.tuple #[],W'):=by unfold yG;have hx:∃W',jC W args W':=⟨W',h⟩;simp only[mu,Array.isEmpty_empty,qA,dif_pos hx];rw[(ul hx).one h]
def aX.OJ{σ:cm}{W:AW}{w:ap}(h:aX σ W w.heap)(os:Array Obj):aX σ W (Sort.grow w os).heap/\dE σ W w σ W (Sort.grow w os):=by
 have dH:∀B,B<w.heap.size->(Sort.grow w os).heap[B]? =w.heap[B]? :=λB hB=>heap_grow_old w os hB
 have mK:w.heap.size<=(Sort.grow w os).heap.size:=by unfold Sort.grow;simp
 exact⟨⟨h.free,λb g hg=>⟨(h.lH b g hg).1,ef (h.lH b g hg).2 mK⟩,λb o g hb hg=>(h.obj b o g hb hg).same (dH _ (h.lH b g hg).2),h.lP⟩,
  ⟨.refl _,λ_ _ h=>h,mK,rfl,rfl,rfl,λB hB _=>dH B hB,λ_ _ h k=>⟨h,k⟩,λb g hg _=>.inl hg⟩⟩
def MF{P:ag}{ng:List Nat}{F:Nat}{fn:dV}{body:ba}(Ee:P.funcs[F]? =some fn)(mR:(fn.name== "runtime.NumGoroutine")=false)(hb:fn.body=some body)
 (Y6:∀(VV off cap:Nat) (zs:List Int) (w:ap),Holds (Value.int .i64) w VV off zs.toArray->VV<w.heap.size->zs.length<4611686018427387904->
   Calls P F #[.slice (some ⟨VV,off,none⟩) zs.length cap] w λe w'=>e=.returned (.tuple #[])/\∃n os,w'=Sort.grow (putRow (Value.int .i64) (Sort.ahead w n) VV off (gX zs).toArray) os):bB P ng (yG F):=by
 intro f args W v W' h σ w f' cw hW hG hf bY;unfold yG at h;split at h;case h_2=>cases h
 rename_i g fs cs;split at h;case h_2=>cases h
 rename_i HK;simp only[bm,dp,tp]at HK;obtain⟨rfl,rfl,rfl⟩:=HK;split at h;case isFalse=>cases h
 rename_i hx;injection h with h;injection h with h1 h2;subst h1;have hs:=ul hx;rw[h2]at hs;clear h2 hx;obtain⟨b,c,zs,dQ,dy,rfl,hgb,rfl⟩:=hs;obtain⟨zT,pV,bP,zA,MO,mI,rfl⟩:=hf.iA;cases zA;obtain rfl:pV=#[]:=by have h1:pV.toList.length=0:=MO.1.symm;exact pB.1 (jd.1 h1)
 obtain rfl:bP=#[]:=by have h1:bP.toList.length=0:=mI.1.symm;exact pB.1 (jd.1 h1)
 obtain⟨v',rfl,hv⟩:∃v',cw=[v']/\VR σ (.slice (some ⟨b,0,none⟩) zs.length c) v':=by
  obtain⟨hl,hv⟩:=bY;match cw,hl with
  |[v'],_=>exact⟨v',rfl,hv 0 _ _ rfl rfl⟩
 obtain⟨sg,yS,hg,rfl⟩:∃(sg:pY) (yS:Nat),σ b=some sg/\v'=.slice (some ⟨sg.B,sg.s,none⟩) zs.length yS:=by
  have uR:0<zs.length:=qv.2 dQ;generalize hl:zs.length=l at hv uR;cases hv with
  |slice a l c c' g h hs hc=>exact⟨g,c',h,rfl⟩
  |cD=>omega
 refine⟨dJ Ee mR hb _ w,?_⟩;have e1:(#[]:Array ae)++[Value.slice (some ⟨sg.B,sg.s,none⟩) zs.length yS].toArray++#[]=#[.slice (some ⟨sg.B,sg.s,none⟩) zs.length yS]:=by simp
 rw[e1];obtain⟨cc,t,RG,k1,k0,k2,k3,k4⟩:=hW.obj b _ _ hgb hg;have LW:sg.s<sg.e:=by rw[fW]at k2;have:=qv.2 dQ;omega
 obtain rfl:=k0 LW;have Hy:∀j,(hj:j<zs.length)->cc[sg.s+j]? =some (.af zs[j]):=λj hj=>by obtain⟨u,u1,u2⟩:=k4 j (.af zs[j]) (by rw[kN,cx hj];rfl);cases u2;exact u1
 have hH:Holds (Value.int .i64) w sg.B sg.s zs.toArray:=λj hj=>by
  have hj':j<zs.length:=by simpa using hj
  refine⟨?_,(jh.adA (hW.obj b _ _ hgb hg) (λ_ hx=>by cases hx) LW rfl)⟩;unfold World.cell?;simp only[k1,Hy j hj',sO];rw[getElem!_pos zs.toArray j hj];simp
 have hbl:=(hW.lH b _ hg).2;refine kh (show CallsIn Fence.wide 0 P g _ w _ from(qw (n:=0)).2 (Y6 sg.B sg.s yS zs w hH hbl (by omega))) ?_;rintro e w' ⟨rfl,n,os,rfl⟩;have hsl:(gX zs).length=zs.length:=qI zs;have T2:∀B,B≠sg.B->(putRow (Value.int .i64) (Sort.ahead w n) sg.B sg.s (gX zs).toArray).heap[B]? =w.heap[B]? :=λB hB=>by show(w.heap.modify sg.B _)[B]? =_;rw[um,ay (bL hB)]
 have ko:(putRow (Value.int .i64) (Sort.ahead w n) sg.B sg.s (gX zs).toArray).heap[sg.B]? =some (.cells (putCells (Value.int .i64) sg.s (gX zs).toArray cc) t (0,0)):=by show(w.heap.modify sg.B _)[sg.B]? =_;rw[um,ax rfl,k1];rfl
 have Mp:∀i,(putCells (Value.int .i64) sg.s (gX zs).toArray cc)[i]? =(cc[i]?).map λx=>if sg.s<=i/\i<sg.s+(gX zs).toArray.size then Value.int .i64 (gX zs).toArray[i-sg.s]! else x:=λi=>by unfold putCells;rw[Array.getElem?_mapIdx]
 rw[fW]at k2;obtain⟨r1,r2⟩:=hW.write (w':=putRow (Value.int .i64) (Sort.ahead w n) sg.B sg.s (gX zs).toArray) (bP:=(gX zs).map (Value.int .i64)) hgb hg (by show(w.heap.modify _ _).size=_;simp) rfl rfl rfl T2 k1 ko (by unfold putCells;simp)
  (λi hi=>by
    rw[Mp];have:¬(sg.s<=i/\i<sg.s+(gX zs).toArray.size):=by rw[rI,hsl];omega
    simp only[this,cE];cases cc[i]? <;>rfl)
  (by rw[fW,hsl];exact k2)
  (λi v hv=>by
    rw[kN]at hv;have hi:i<(gX zs).length:=by
     rcases qF i (gX zs).length with h|h
     ·exact h
     ·rw[nB h]at hv;cases hv
    rw[cx hi]at hv;injection hv with hv;subst hv;refine⟨_,?_,.int _ _⟩;rw[Mp,Hy i (by omega)];have:sg.s<=sg.s+i/\sg.s+i<sg.s+(gX zs).toArray.size:=by rw[rI];omega
    simp only[this,md,bc,bR,w5];rw[getElem!_pos (gX zs).toArray i (by simpa using hi)];simp)
 obtain⟨q1,q2⟩:=r1.OJ os;exact⟨_,rfl,σ,.tuple' (.nil),q1,r2.trans q2⟩
end
end Go.Eng
namespace Go.Eng
open Go
section
variable [aj]
section
variable {P:ag} {W:AW} {α:Type}
def pi(n:Int):List ae:=[.af n]
def yg(n:Int):(pi n).length=1:=rfl
def C0(n:Int):(pi n).all one=true:=rfl
def Qk(n:Int)(pre post:List ae):vQ .i64 (pre++(pi n++post)) pre.length n:=by unfold vQ;rw[ir (by omega)];simp[pi]
def yh:∀l:List Int,l.flatMap pi=l.map (Value.int .i64)
 |[]=>rfl
 |a::l=>by rw[ly,iN,yh l];rfl
def wS.ints{lo:Nat}{v:ae}{l:List Int}(h:wS lo W 1 pi v l):lR W v l:=h.row yg Qk
def wS.sort{lo:Nat}{v:ae}{l:List Int}(h:wS lo W 1 pi v l)(h0:l≠[])(hl:l.length<1099511627776):∃W',jC W [v] W'/\wS lo W' 1 pi v (gX l)/\W'.next=W.next/\∀A,Le A W->A.next<=lo->Le A W':=by
 rcases h with⟨rfl,_⟩|⟨_,B,h1,h2,rfl,h4⟩
 ·exact absurd rfl h0
 ·refine⟨_,⟨B,_,l,h0,hl,rfl,by rw[h4,yh],rfl⟩,.inr ⟨?_,B,h1,by rw[AW.cu];exact h2,by rw[qI],by rw[AW.bH,yh]⟩,AW.cu _ _ _,λA hA HT=>hA.put (by omega) _⟩;intro e;have:=qI l;rw[e]at this;exact h0 (jd.1 this.symm)
def O3{W':AW}{z:Nat}{at_:List ae->Nat->α->Prop}{v:ae}{k:aK}{e:Int}{l:List α}(bk:Le W W')(h:Row W' z at_ v l):∃W2,gc W (.tuple #[v,.int k e],W')=(.tuple #[v,.int k e],W2)/\Le W W2/\Le W2 W'/\Row W2 z at_ v l:=by
 obtain⟨a,c,rfl,h⟩:=h;cases a with
 |none=>
  refine⟨W,sW rfl bk,.refl _,bk,none,c,rfl,?_⟩;rcases h with h|⟨b,o,cs,h,_⟩
  ·exact .inl h
  ·cases h
 |some a=>exact⟨W',uD rfl,bk,.refl _,some a,c,rfl,h⟩
def HV{o t:Option (ae×AW)}{z:Nat}{at_:List ae->Nat->α->Prop}{l:List α}{k:aK}{e:Int}(h:Ok t λr=>∃v,r.1=.tuple #[v,.int k e]/\Le W r.2/\Row r.2 z at_ v l)(K7:∀{r},t=some r->o=some (gc W r)):
 ∃v W2,o=some (.tuple #[v,.int k e],W2)/\Le W W2/\Row W2 z at_ v l:=by
 obtain⟨⟨u,W'⟩,h1,v,h2,h3,h4⟩:=h;simp only at h2 h3 h4;subst h2;obtain⟨W2,k1,k2,_,k3⟩:=O3 (k:=k) (e:=e) h3 h4;exact⟨v,W2,by rw[K7 h1,k1],k2,k3⟩
def Row.nil{z:Nat}{at_:List ae->Nat->α->Prop}:Row W z at_ (.slice none 0 0) ([]:List α):=⟨none,0,rfl,.inl rfl⟩
def Ou{ts:Array ah}{z bytes:Nat}(hk:iY P ts z bytes=true){a:Option aM}{l c:Nat}(h:l<=c)(hb:l<1099511627776)(gW:(2*l+192)*bytes<=281474976710656):
 aN P W ts (.slice a l c) (.slice none 0 0)=some (.slice a l c,W):=by
 obtain⟨t,e,zv,k1,k2,k3,k4,k5,k6⟩:=jb hk;unfold aN;simp only[k1,k2,k3,k4,bc,dA,ax (aI k5 (aI k6 (aI hb gW))),ax h]
def HE{ts:Array ah}{z bytes:Nat}(hk:iY P ts z bytes=true){b o n c:Nat}{cs new:List ae}(hc:aH W b=some cs)(hn:new=(cs.drop o).take (n*z))(hl:new.length=n*z)(h0:0<n)(h1:new.all one=true)
 {B m:Nat}{lI:List ae}(ho:aH W B=some lI)(La:lI.length=m*z)(hb:m+n<1099511627776)(gW:(2*(m+n)+192)*bytes<=281474976710656)(hm:0<m):
 aN P W ts (.slice (some ⟨B,0,none⟩) m m) (.slice (some ⟨b,o,none⟩) n c)=some (.slice (some ⟨W.next,0,none⟩) (m+n) (eS+z),W.add (.cells (lI++new))):=by
 obtain⟨t,e,zv,k1,k2,k3,k4,k5,k6⟩:=jb hk;have hr:iZ W b o (n*z)=some new:=by rw[fG,hc];simp only;rw[ax (by rw[<-hn];exact hl),hn]
 have R3:bC W (.slice (some ⟨b,o,none⟩) n c) (n*z)=some new:=by unfold bC;simp only;rw[ay (by have:=jp h0 k5;omega),bX];exact hr
 have lT:iZ W B 0 (m*z)=some lI:=by rw[fG,ho];simp only[ol];rw[mz (by omega),ax La]
 have KQ:bC W (.slice (some ⟨B,0,none⟩) m m) (m*z)=some lI:=by unfold bC;simp only;rw[ay (by have:=jp hm k5;omega),bX];exact lT
 have hB:m<eS:=by unfold eS;omega
 have Ia:¬m=eS+z:=by unfold eS;omega
 unfold aN;simp only[k1,k2,k3,k4,bc,ax (aI k5 (aI k6 (aI hb gW))),ay (show¬n=0 by omega),R3,KQ,h1,ay Ia,ax hB,ay (show¬m+n<=m by omega),AW.cF]
def xI(l:List Int)(c:Nat)(W:AW):lR (W.add (.cells (l.map (Value.int .i64)))) (.slice (some ⟨W.next,0,none⟩) l.length c) l:=
 ⟨_,_,rfl,.inr ⟨W.next,0,_,rfl,by rw[AW.aJ];omega,bO,λi hi=>by unfold vQ;rw[aU,kp,kN,cx hi];rfl⟩⟩
end
end
section
variable [aj]
def mw(l:List (Int×ae×Nat)):List MapEntry:=l.map λp=>{key:=.af p.1,val:=p.2.1,born:=p.2.2}
def AT:List (Int×ae×Nat)->Int->Option ae
 |[],_=>none
 |p::l,k=>if k=p.1 then some p.2.1 else AT l k
def qQ:List (Int×ae×Nat)->Int->Nat->Option (Nat×ae)
 |[],_,_=>none
 |p::l,k,i=>if k=p.1 then some (i,p.2.1)else qQ l k (i+1)
def Bl(l:List (Int×ae×Nat))(k:Int):∀i,Instr.findNow (.int .i64) (.af k) (mw l) i=some (qQ l k i):=by
 induction l with
 |nil=>intro i;rfl
 |cons p l ih=>
  intro i;show(match Instr.sameNow (.int .i64) (.af k) (.af p.1)with|some true=>some (some (i,p.2.1))|some false=>Instr.findNow (.int .i64) (.af k) (mw l) (i+1)|none=>none)=_;unfold qQ;by_cases h:k=p.1
  ·have:Instr.sameNow (.int .i64) (.af k) (.af p.1)=some true:=by simp[Instr.sameNow,h]
   rw[this,ax h]
  ·have:Instr.sameNow (.int .i64) (.af k) (.af p.1)=some false:=by simp[Instr.sameNow,h]
   rw[this,ay h];exact ih (i+1)
def w3(l:List (Int×ae×Nat))(k:Int):∀i,AT l k=(qQ l k i).map (·.2):=by
 induction l with
 |nil=>intro i;rfl
 |cons p l ih=>
  intro i;unfold AT qQ;by_cases h:k=p.1
  ·rw[ax h,ax h];rfl
  ·rw[ay h,ay h];exact ih (i+1)
def i5(l:List (Int×ae×Nat)):List Int:=l.map (·.1)
def Ep{l:List (Int×ae×Nat)}{k:Int}(h:k∉i5 l):AT l k=none:=by
 induction l with
 |nil=>rfl
 |cons p l ih=>unfold i5 at h;rw[iN,cP,not_or]at h;unfold AT;rw[ay h.1];exact ih h.2
def ut{k:Int}{v:ae}:∀{l:List (Int×ae×Nat)} {i j:Nat},(i5 l).Nodup->qQ l k i=some (j,v)->i<=j/\(∃b,l[j-i]? =some (k,v,b)/\∀v' k',AT (l.set (j-i) (k,v',b)) k'=if k'=k then some v' else AT l k')/\
 (∀k',AT (l.eraseIdx (j-i)) k'=if k'=k then none else AT l k')/\(i5 (l.eraseIdx (j-i))).Nodup/\(l.eraseIdx (j-i)).length+1=l.length/\∀v' b,i5 (l.set (j-i) (k,v',b))=i5 l
 |[],i,j,_,h=>by cases h
 |p::l,i,j,hn,h=>by
  unfold qQ at h;have Iu:p.1∉i5 l/\(i5 l).Nodup:=List.nodup_cons.1 hn;by_cases hk:k=p.1
  ·rw[ax hk]at h;injection h with h;injection h with h1 h2;subst h1;rw[mp];refine⟨aS _,⟨p.2.2,by rw[hk,<-h2];rfl,λv' k'=>?_⟩,λk'=>?_,Iu.2,rfl,λv' b=>by rw[BX];simp[i5,hk]⟩
   ·rw[BX];unfold AT;rw[<-hk];by_cases B4:k'=k
    ·rw[ax B4,ax B4]
    ·rw[ay B4,ay B4,ay B4]
   ·show AT l k'=_;by_cases B4:k'=k
    ·rw[ax B4,B4,hk];exact Ep Iu.1
    ·rw[ay B4];conv=>rhs;unfold AT
     rw[ay (λe=>B4 (e.trans hk.symm))]
  ·rw[ay hk]at h;obtain⟨h1,⟨b,h2,h3⟩,h4,h5,h6,h7⟩:=ut Iu.2 h;have e:j-i=(j-(i+1))+1:=by omega
   rw[e];refine⟨by omega,⟨b,by rw[Br];exact h2,λv' k'=>?_⟩,λk'=>?_,?_,?_,λv' b=>?_⟩
   ·rw[Bb];unfold AT;by_cases hp:k'=p.1
    ·have:¬k'=k:=λx=>hk (x.symm.trans hp)
     rw[ax hp,ay this,ax hp]
    ·rw[ay hp,h3,ay hp]
   ·rw[xz];unfold AT;by_cases hp:k'=p.1
    ·have:¬k'=k:=λx=>hk (x.symm.trans hp)
     rw[ax hp,ay this,ax hp]
    ·rw[ay hp,h4,ay hp]
   ·rw[xz];refine List.nodup_cons.2 ⟨λhm=>Iu.1 ?_,h5⟩;unfold i5 at hm|-;obtain⟨x,hx,hxe⟩:=qg.1 hm;exact qg.2 ⟨x,List.mem_of_mem_eraseIdx hx,hxe⟩
   ·rw[xz,dB,dB,h6]
   ·rw[Bb];show p.1::i5 _=p.1::i5 l;rw[h7]
def uI{k:Int}:∀{l:List (Int×ae×Nat)} {i:Nat},qQ l k i=none->k∉i5 l/\∀v b k',AT (l++[(k,v,b)]) k'=if k'=k then some v else AT l k'
 |[],i,_=>⟨by simp[i5],λv b k'=>by simp[AT]⟩
 |p::l,i,h=>by
  unfold qQ at h;by_cases hk:k=p.1
  ·rw[ax hk]at h;cases h
  ·rw[ay hk]at h;obtain⟨h1,h2⟩:=uI h;refine⟨?_,λv b k'=>?_⟩
   ·unfold i5;rw[iN,cP,not_or];exact⟨hk,h1⟩
   ·rw[rA];unfold AT;by_cases hp:k'=p.1
    ·have:¬k'=k:=λx=>hk (x.symm.trans hp)
     rw[ax hp,ay this,ax hp]
    ·rw[ay hp,h2,ay hp]
def E4{α β:Type}(f:α->β):∀(l:List α) (i:Nat),(l.map f).eraseIdx i=(l.eraseIdx i).map f
 |[],_=>by simp
 |a::l,0=>rfl
 |a::l,i+1=>by rw[iN,xz,xz,iN,E4 f l i]
def ni(W:AW)(r:Nat)(m:Int->Option ae)(n:Nat):Prop:=∃l c,W.get r=some (.map (mw l) c)/\(i5 l).Nodup/\l.length=n/\∀k,AT l k=m k
section
variable {P:ag} {W:AW} {r:Nat} {m:Int->Option ae} {n:Nat} {t kt e:ah}
def F0(l:List (Int×ae×Nat)):fe (mw l)=true:=by unfold fe mw;rw[List.all_map,bV];intro p _;rfl
def mM(hk:P.underlying kt=some (.int .i64))(empty:Bool)(k:Int):pn P empty kt (.af k)=true:=by
 unfold pn;have:bI P (Instr.checkKey empty 10000 kt (.af k))=some ():=by unfold Instr.checkKey;simp only[dM,dT hk,bl];rfl
 rw[this];rfl
def kD(hk:P.underlying kt=some (.int .i64))(l:List (Int×ae×Nat))(k:Int):rL P kt (.af k) (mw l)=some (qQ l k 0):=by unfold rL LO;have hp:a7 (.af k)=true/\fe (mw l)=true:=⟨rfl,F0 l⟩;simp only[ax hp,hk,Bl]
def Ow(h:ni W r m n)(ht:P.underlying t=some (.map kt e))(hk:P.underlying kt=some (.int .i64)){z:ae}(hz:iu P e=some z)(k:Int):fO P t (.map (some r)) (.af k) false W=some ((m k).getD z,W):=by
 obtain⟨l,c,hg,hn,hl,hm⟩:=h;unfold fO jv;simp only[ht,hg,mM hk,bc,kD hk];rw[<-hm k,w3 l k 0];unfold rz;cases qQ l k 0 with
 |none=>simp only[hz];rfl
 |some q=>rfl
def IK(h:ni W r m n)(ht:P.underlying t=some (.map kt e))(hk:P.underlying kt=some (.int .i64)){z:ae}(hz:iu P e=some z)(k:Int):fO P t (.map (some r)) (.af k) true W=some (.tuple #[(m k).getD z,.bool (m k).isSome],W):=by
 obtain⟨l,c,hg,hn,hl,hm⟩:=h;unfold fO jv;simp only[ht,hg,mM hk,bc,kD hk];rw[<-hm k,w3 l k 0];unfold rz;cases qQ l k 0 with
 |none=>simp only[hz];rfl
 |some q=>rfl
def Dc(h:ni W r m n)(ht:P.underlying t=some (.map kt e))(hk:P.underlying kt=some (.int .i64))(k:Int)(v:ae):∃es c,ge P t (.map (some r)) (.af k) v W=some (ai,W.put r (.map es c))/\ni (W.put r (.map es c)) r (λx=>if x=k then some v else m x) (if(m k).isSome then n else n+1):=by
 obtain⟨l,c,hg,hn,hl,hm⟩:=h;have O9:m k=(qQ l k 0).map (·.2):=by rw[<-hm k,w3 l k 0]
 cases hf:qQ l k 0 with
 |none=>
  obtain⟨h1,h2⟩:=uI hf;rw[hf]at O9;refine⟨mw (l++[(k,v,c)]),c+1,?_,l++[(k,v,c)],c+1,AW.bH _ _ _,?_,?_,λx=>by rw[h2,hm]⟩
  ·unfold ge gR;simp only[ht,hg,mM hk,bc,kD hk,hf,bR];unfold mw;rw[oA];rfl
  ·unfold i5 at h1 hn|-;rw[oA,List.nodup_append];refine⟨hn,by simp,λa ha b hb WR=>?_⟩;simp only[iN,lA,kX]at hb;subst hb;subst WR;exact h1 ha
  ·rw[O9];simp[hl]
 |some q=>
  obtain⟨j,v0⟩:=q;obtain⟨_,⟨b,h2,h3⟩,-,-,-,h7⟩:=ut hn hf;rw[Nat.sub_zero]at h2 h3 h7;rw[hf]at O9;refine⟨mw (l.set j (k,v,b)),c,?_,l.set j (k,v,b),c,AW.bH _ _ _,by rw[h7];exact hn,by rw[O9];simp[hl],λx=>by rw[h3,hm]⟩;have he:(mw l)[j]? =some {key:=.af k,val:=v0,born:=b}:=by unfold mw;rw[kN,h2];rfl
  have hs:Instr.sameBits 10000 (.af k) (.af k)=true:=by unfold Instr.sameBits;simp
  have np:a7 (.af k)=true:=rfl;unfold ge gR;simp only[ht,hg,mM hk,bc,kD hk,hf,bR,he,hs,np,md];unfold mw;rw[List.map_set]
def CY(h:ni W r m n)(ht:P.underlying t=some (.map kt e))(hk:P.underlying kt=some (.int .i64))(ts:List ah)(k:Int):∃es c,ku P W (t::ts).toArray (.map (some r)) (.af k)=some (W.put r (.map es c))/\ni (W.put r (.map es c)) r (λx=>if x=k then none else m x) (if(m k).isSome then n-1 else n):=by
 obtain⟨l,c,hg,hn,hl,hm⟩:=h;have O9:m k=(qQ l k 0).map (·.2):=by rw[<-hm k,w3 l k 0]
 cases hf:qQ l k 0 with
 |none=>
  obtain⟨h1,-⟩:=uI hf;rw[hf]at O9;refine⟨mw l,c,?_,l,c,AW.bH _ _ _,hn,by rw[O9];simp[hl],λx=>?_⟩
  ·unfold ku;simp only[ht,hg,mM hk,bc,kD hk,hf]
  ·show AT l x=if x=k then none else m x
   by_cases hx:x=k
   ·rw[ax hx,hx,Ep h1]
   ·rw[ay hx,hm]
 |some q=>obtain⟨j,v0⟩:=q;obtain⟨_,-,h4,h5,h6,-⟩:=ut hn hf;rw[Nat.sub_zero]at h4 h5 h6;rw[hf]at O9;refine⟨mw (l.eraseIdx j),c,?_,l.eraseIdx j,c,AW.bH _ _ _,h5,by rw[O9];simp;omega,λx=>by rw[h4,hm]⟩;unfold ku;simp only[ht,hg,mM hk,bc,kD hk,hf];unfold mw;rw[E4]
def C9:ni (W.add (.map [] 0)) W.next (λ_=>none) 0:=⟨[],0,AW.bf _ _,by simp[i5],rfl,λk=>rfl⟩
def ni.dD{W':AW}(h:ni W r m n)(hg:W'.get r=W.get r):ni W' r m n:=by obtain⟨l,c,h1,h2⟩:=h;exact⟨l,c,hg.trans h1,h2⟩
end
end
end Go.Eng
namespace Go.Proofs.YtekljimefjclgaaGreatDoor
open Go Go.Eng
def Kv:List Int:=[0,1,7,27,7,7,99,67,7,64,11,11,128]
def mZ:List ae:=Kv.map (Value.int .i64)
def upF(n:Nat):Nat->List Nat:=Nat.rec (motive:=λ_=>Nat->List Nat) (λ_=>[]) (λ_ ih s=>s::ih (s+1)) n
def aeg(l:List (Nat×Nat)):List Nat:=List.rec (motive:=λ_=>List Nat) [] (λp _ ih=>List.rec (motive:=λ_=>List Nat) ih (λa _ r=>a::r) (upF p.2 p.1)) l
def lkF(i:Nat)(l:List (Nat×List Nat)):List Nat:=List.rec (motive:=λ_=>List Nat) [] (λp _ ih=>Bool.rec (motive:=λ_=>List Nat) ih p.2 (Nat.beq p.1 i)) l
def zF(x:List (Nat×List Nat))(o:List Nat):List (Nat×List Nat):=List.rec (motive:=λ_=>List (Nat×List Nat)) [] (λi _ r=>(i,lkF i x)::r) o
abbrev TB:=T (List (Nat×List Nat))
def rt(k n:Nat)(l:List (Nat×Nat))(x:List (Nat×List Nat))(t:TB):TB:=T.set (some (zF x (List.rec (motive:=λ_=>List Nat) (upF n 0) (λ_ _ _=>aeg l) l))) (path k) t
def tab:TB:=rt 557174 0 [(0,2),(3,1),(2,1),(4,4)] [(2,[3])]<|
 rt 557180 0 [(0,2),(3,1),(2,1),(4,4)] [(2,[3])]<|
 rt 577608 0 [(0,2),(3,2),(7,3),(2,1),(5,2),(10,3)] [(2,[9,4]),(5,[9])]<|
 rt 1106137 14 [] [(10,[7])]<|
 rt 1159430 0 [(0,20),(24,1),(20,4),(25,2)] []<|
 rt 1609972 9 [] [(7,[4])]<|
 rt 1700185 31 [] [(24,[16,13,10,4]),(25,[4])]<|
 rt 2130136 0 [(0,3),(4,2),(3,1),(6,2)] []<|
 rt 2142405 0 [(0,5),(6,2),(5,1),(8,3)] [(5,[7,6])]<|
 rt 2150610 0 [(0,6),(10,1),(6,4),(11,2)] []<|
 rt 2674842 13 [] [(9,[1])]<|
 rt 3162136 4 [] [(2,[1])]<|
 rt 3191050 0 [(0,2),(3,4),(2,1),(7,4)] [(2,[4])]<|
 rt 3195177 0 [(0,2),(3,5),(2,1),(8,4)] [(2,[5])]<|
 rt 3203465 14 [] [(12,[9,6])]<|
 rt 3207553 0 [(0,8),(12,1),(8,4),(13,2)] []<|
 rt 3699014 0 [(0,1),(2,2),(1,1),(4,3)] [(1,[2])]<|
 rt 4227420 0 [(1,2),(4,1),(6,1),(0,1),(3,1),(5,1),(7,1)] [(0,[2])]<|
 rt 4805028 0 [(0,11),(16,2),(11,5),(18,3)] []<|
 rt 5263427 5 [] [(2,[1])]<|
 rt 5292226 12 [] [(7,[5,3]),(9,[5])]<|
 rt 5800390 8 [] [(5,[4])]<|
 rt 6311989 5 [] [(2,[1])]<|
 rt 6357288 16 [] [(9,[7,5,3]),(11,[7,5]),(13,[7])]<|
 rt 6357448 0 [(0,3),(4,9),(3,1),(13,3)] [(3,[9,7,5])]<|
 rt 7405976 16 [] [(9,[7,5,3]),(11,[7,5]),(13,[7])]<|
 rt 7463625 30 [] [(24,[4])]<|
 rt 8438266 12 [] [(7,[5,3]),(9,[5])]<|
 rt 8491684 25 [] [(19,[4,0])]<|
 rt 11059842 12 [] [(7,[5,3]),(9,[5])]<|
 rt 17372640 17 [] [(13,[10,7,5])]<|.lf
def iO:List (Nat×List ae):=[(0,mZ)]
end Go.Proofs.YtekljimefjclgaaGreatDoor
namespace Go.Eng
open Go
section
variable [aj]
section
variable {P:ag} {W:AW}
def GL{t:ah}{z:Nat}(hz:rQ P t=some z)(h0:0<z){b o l h:Nat}{k:aK}(h1:h<=l):
 dX P t (.slice (some ⟨b,o,none⟩) l (eS+z)) none (some (.int k (h:Int))) none W=some (.slice (some ⟨b,o,none⟩) h (eS+z),W):=by
 obtain⟨e,he,hz⟩:=sm hz;have h2:((⟨b,o,none⟩:aM).add (0*z))=⟨b,o,none⟩:=by rw[cO];simp
 unfold dX jS;simp only[he,hz,eW,iX,Nat.zero_le,bc,true_and,ax h0,ax h1,Nat.sub_zero,h2]
end
end
section
variable [aj]
def Vb(W:AW)(cs:List ae)(b:Nat):aH (W.add (.cells cs)) b=if b=W.next then some cs else aH W b:=by
 by_cases h:b=W.next
 ·subst h;rw[ax rfl];exact bO
 ·rw[ay h];unfold aH;rw[W.aZ _ (λe=>h e.symm)]
def Tk(W:AW)(c:Nat)(cs:List ae)(b:Nat):aH (W.put c (.cells cs)) b=if b=c then some cs else aH W b:=by
 by_cases h:b=c
 ·subst h;rw[ax rfl];exact mg _
 ·rw[ay h];exact pC _ (λe=>h e.symm)
def Tj(W:AW)(cs:List ae)(b:Nat):aA (W.add (.cells cs)) b=if b=W.next then some cs else aA W b:=by
 by_cases h:b=W.next
 ·subst h;rw[ax rfl];exact bz
 ·rw[ay h];unfold aA;rw[W.aZ _ (λe=>h e.symm)]
def Vt(W:AW)(c:Nat)(cs:List ae)(b:Nat):aA (W.put c (.cells cs)) b=if b=c then some cs else aA W b:=by
 by_cases h:b=c
 ·subst h;rw[ax rfl];exact bt _
 ·rw[ay h];exact aW _ (λe=>h e.symm)
def IX(W:AW):Le W W=True:=eq_true (Le.refl W)
def M9{W W':AW}(h:Le W W')(o:de):Le W (W'.add o)=True:=eq_true (h.add o)
def NU{W W':AW}(h:Le W W'){b:Nat}(hb:W.next<=b)(o:de):Le W (W'.put b o)=True:=eq_true (h.put hb o)
def P4(a:Option aM):one (.pointer a)=true:=aL rfl rfl
def Qg{W:AW}{b o:Nat}{x:Option aM}:cS 1 (.pointer (some ⟨b,o,none⟩)) (.pointer x) W=(aA W b).bind λcs=>if o<cs.length then some (ai,W.put b (.cells (cs.set o (.pointer x))))else none:=ky rfl rfl
def II(cs vs:List ae):fh cs 0 vs=vs++cs.drop vs.length:=by unfold fh;rw[oZ,mB,aU]
def WU(b:Bool):bi ai b=false:=aL (by unfold bi ai;rfl) rfl
def HX:=aI @Vb (aI @Tk (aI @Tj (aI @Vt (aI @IX (aI @M9 (aI @NU (aI @P4 (aI @Qg (aI @AW.aJ (aI @AW.cu (aI @jW (aI @Nat.le_add_right (aI @aS (aI @Nat.add_eq_left (aI @Nat.left_eq_add (aI @II (aI @gH (aI @cE.{1} (aI @Nat.one_ne_zero (aI @pH (aI @List.take_nil.{0} (aI @true_and (aI @and_true (aI @WU @aq))))))))))))))))))))))))
end
section
variable [aj]
section
variable {P:ag} {W:AW} {α:Type}
def JT{ts:Array ah}{z bytes:Nat}(hk:iY P ts z bytes=true){b o n c:Nat}{cs new:List ae}(hc:aH W b=some cs)(hn:new=(cs.drop o).take (n*z))(hl:new.length=n*z)(h0:0<n)(h1:new.all Eng.one=true)
 {a:aM}(hb:n<1099511627776)(gW:(2*n+192)*bytes<=281474976710656):
 aN P W ts (.slice (some a) 0 0) (.slice (some ⟨b,o,none⟩) n c)=some (.slice (some ⟨W.next,0,none⟩) n (eS+z),W.add (.cells new)):=by
 obtain⟨t,e,zv,k1,k2,k3,k4,k5,k6⟩:=jb hk;have hr:iZ W b o (n*z)=some new:=by rw[fG,hc];simp only;rw[ax (by rw[<-hn];exact hl),hn]
 have R3:bC W (.slice (some ⟨b,o,none⟩) n c) (n*z)=some new:=by unfold bC;simp only;rw[ay (by have:=jp h0 k5;omega),bX];exact hr
 have KQ:bC W (.slice (some a) 0 0) (0*z)=some []:=by unfold bC;simp
 have hB:0<eS:=by unfold eS;omega
 have Ia:¬0=eS+z:=by unfold eS;omega
 unfold aN;simp only[k1,k2,k3,k4,bc,aU,ax (aI k5 (aI k6 (aI hb gW))),ay (show¬n=0 by omega),R3,KQ,h1,ay Ia,ax hB,ay (show¬n<=0 by omega),AW.cF,mB]
def uq{ts:Array ah}{z bytes:Nat}(hk:iY P ts z bytes=true){a a2:Option aM}{l c c2:Nat}(h:l<=c)(hb:l<1099511627776)(gW:(2*l+192)*bytes<=281474976710656):
 aN P W ts (.slice a l c) (.slice a2 0 c2)=some (.slice a l c,W):=by
 obtain⟨t,e,zv,k1,k2,k3,k4,k5,k6⟩:=jb hk;unfold aN;simp only[k1,k2,k3,k4,bc,dA,ax (aI k5 (aI k6 (aI hb gW))),ax h]
def Ev{f:α->List ae}(h1:∀a,(f a).all one=true):∀l:List α,(l.flatMap f).all one=true
 |[]=>rfl
 |a::l=>by rw[ly,List.all_append,h1 a,Ev h1 l];rfl
def EL(lo:Nat)(W:AW)(z:Nat)(f:α->List ae)(v:ae)(l:List α):Prop:=
 (l=[]/\(v=.slice none 0 0\/∃B,v=.slice (some ⟨B,0,none⟩) 0 0))\/(l≠[]/\∃B c,lo<=B/\B<W.next/\v=.slice (some ⟨B,0,none⟩) l.length c/\(c=eS+z\/c=l.length)/\W.get B=some (.cells (l.flatMap f)))
def Rd(W:AW)(z:Nat)(f:α->List ae)(v:ae)(l:List α):Prop:=
 ∃a c,v=.slice a l.length c/\(l=[]\/∃b o cs,a=some ⟨b,o,none⟩/\b<W.next/\aH W b=some cs/\(cs.drop o).take (l.length*z)=l.flatMap f)
def EL.nil(lo:Nat)(W:AW)(z:Nat)(f:α->List ae):EL lo W z f (.slice none 0 0) []:=.inl ⟨rfl,.inl rfl⟩
def EL.acD(lo:Nat)(W:AW)(z:Nat)(f:α->List ae)(B:Nat):EL lo W z f (.slice (some ⟨B,0,none⟩) 0 0) []:=.inl ⟨rfl,.inr ⟨B,rfl⟩⟩
def EL.dD{lo z:Nat}{f:α->List ae}{v:ae}{l:List α}{W':AW}(h:EL lo W z f v l)(hn:W.next<=W'.next)(hg:∀b,lo<=b->b<W.next->W'.get b=W.get b):EL lo W' z f v l:=by
 rcases h with h|⟨h0,B,c,h1,h2,h3,hc,h4⟩
 ·exact .inl h
 ·exact .inr ⟨h0,B,c,h1,by omega,h3,hc,by rw[hg B h1 h2];exact h4⟩
def EL.mono{lo z:Nat}{f:α->List ae}{v:ae}{l:List α}{W':AW}(h:EL lo W z f v l)(bk:Le W W'):EL lo W' z f v l:=h.dD bk.next λb _ hb=>bk.get b hb
def EL.low{lo OU z:Nat}{f:α->List ae}{v:ae}{l:List α}(h:EL lo W z f v l)(hl:OU<=lo):EL OU W z f v l:=by
 rcases h with h|⟨h0,B,c,h1,h⟩
 ·exact .inl h
 ·exact .inr ⟨h0,B,c,by omega,h⟩
def wS.el{lo z:Nat}{f:α->List ae}{v:ae}{l:List α}(h:wS lo W z f v l):EL lo W z f v l:=by
 rcases h with⟨rfl,rfl⟩|⟨h0,B,h1,h2,h3,h4⟩
 ·exact .inl ⟨rfl,.inl rfl⟩
 ·exact .inr ⟨h0,B,_,h1,h2,h3,.inl rfl,h4⟩
def EL.slice{lo z:Nat}{f:α->List ae}{v:ae}{l:List α}(h:EL lo W z f v l):∃a c,v=.slice a l.length c:=by rcases h with⟨rfl,rfl|⟨B,rfl⟩⟩|⟨_,B,c,_,_,rfl,_⟩<;>exact⟨_,_,rfl⟩
def EL.row{lo z:Nat}{f:α->List ae}{v:ae}{l:List α}{at_:List ae->Nat->α->Prop}(hf:∀a,(f a).length=z)(h:EL lo W z f v l)(ko:∀a pre post,at_ (pre++(f a++post)) pre.length a):Row W z at_ v l:=by
 rcases h with⟨rfl,rfl|⟨B,rfl⟩⟩|⟨h0,B,c,i1,i2,rfl,hc,i4⟩
 ·exact⟨none,0,rfl,.inl rfl⟩
 ·exact⟨_,0,rfl,.inl rfl⟩
 ·refine⟨_,_,rfl,.inr ⟨B,0,_,rfl,i2,bw i4,λi hi=>?_⟩⟩;have e:l.flatMap f=(l.take i).flatMap f++(f l[i]++(l.drop (i+1)).flatMap f):=by rw[<-ly,<-oz hi,<-fH,uX]
  have e2:((l.take i).flatMap f).length=0+i*z:=by rw[bS hf,dR];rw[mG (by omega),aU]
  rw[e,<-e2];exact ko _ _ _
def EL.rd{lo z:Nat}{f:α->List ae}{v:ae}{l:List α}(hf:∀a,(f a).length=z)(h:EL lo W z f v l):Rd W z f v l:=by
 rcases h with⟨rfl,rfl|⟨B,rfl⟩⟩|⟨h0,B,c,i1,i2,rfl,hc,i4⟩
 ·exact⟨none,0,rfl,.inl rfl⟩
 ·exact⟨_,0,rfl,.inl rfl⟩
 ·exact⟨_,_,rfl,.inr ⟨B,0,_,rfl,i2,bw i4,by rw[ol,<-bS hf l,dK]⟩⟩
def Rd.dD{z:Nat}{f:α->List ae}{v:ae}{l:List α}{W':AW}(h:Rd W z f v l)(bk:Le W W'):Rd W' z f v l:=by
 obtain⟨a,c,rfl,h⟩:=h;refine⟨a,c,rfl,?_⟩;rcases h with h|⟨b,o,cs,h1,h2,h3,h4⟩
 ·exact .inl h
 ·exact .inr ⟨b,o,cs,h1,ef h2 bk.next,by unfold aH at h3|-;rw[bk.get b h2];exact h3,h4⟩
section
variable {t:ah} {z lo:Nat} {f:α->List ae} {v:ae} {l:List α} {kk:aK} {k:Nat}
def JX(hf:∀a,(f a).length=z)(l:List α)(k:Nat):(l.flatMap f).take (k*z)=(l.take k).flatMap f:=by
 rcases qF l.length k with h|h
 ·rw[mz (by rw[bS hf];exact oB z (by omega)),mz (by omega)]
 ·have e:l.flatMap f=(l.take k).flatMap f++(l.drop k).flatMap f:=by rw[<-fH,uX]
  have e2:((l.take k).flatMap f).length=k*z:=by rw[bS hf,dR,mG h]
  rw[e,<-e2,tj]
def IF(hf:∀a,(f a).length=z)(l:List α)(k:Nat):(l.flatMap f).drop (k*z)=(l.drop k).flatMap f:=by
 rcases qF l.length k with h|h
 ·rw[xe (by rw[bS hf];exact oB z (by omega)),xe (by omega)];rfl
 ·have e:l.flatMap f=(l.take k).flatMap f++(l.drop k).flatMap f:=by rw[<-fH,uX]
  have e2:((l.take k).flatMap f).length=k*z:=by rw[bS hf,dR,mG h]
  rw[e,<-e2,List.drop_left]
def EL.app{ts:Array ah}{bytes:Nat}{v2:ae}{l2:List α}(hk:iY P ts z bytes=true)(hf:∀a,(f a).length=z)(h1:∀a,(f a).all one=true)
 (h:EL lo W z f v l)(h2:Rd W z f v2 l2)(hb:l.length+l2.length<1099511627776)(gW:(2*(l.length+l2.length)+192)*bytes<=281474976710656)(HT:lo<=W.next):
 ∃v' W',aN P W ts v v2=some (v',W')/\EL lo W' z f v' (l++l2)/\W.next<=W'.next/\∀b,b<lo->W'.get b=W.get b:=by
 have IL:0<z:=by obtain⟨t,e,zv,_,_,_,_,k5,_⟩:=jb hk;exact k5
 obtain⟨a,c,rfl,h2⟩:=h2;by_cases he:l2=[]
 ·subst he;rw[jY];have Vg:(2*l.length+192)*bytes<=281474976710656:=by simpa using gW
  rcases h with⟨rfl,rfl|⟨B,rfl⟩⟩|⟨Nf,B,c',i1,i2,rfl,hc,i4⟩
  ·exact⟨_,_,uq hk (aS _) (by simp at hb;omega) (by simpa using Vg),.inl ⟨rfl,.inl rfl⟩,aS _,λ_ _=>rfl⟩
  ·exact⟨_,_,uq hk (aS _) (by simp at hb;omega) (by simpa using Vg),.inl ⟨rfl,.inr ⟨B,rfl⟩⟩,aS _,λ_ _=>rfl⟩
  ·exact⟨_,_,uq hk (by rcases hc with rfl|rfl<;>(try unfold eS)<;>omega) (by omega) Vg,.inr ⟨Nf,B,c',i1,i2,rfl,hc,i4⟩,aS _,λ_ _=>rfl⟩
 ·rcases h2 with h2|⟨b,o,cs,rfl,j1,j2,j3⟩
  ·exact absurd h2 he
  have Hz:0<l2.length:=qv.2 he;have CJ:(l2.flatMap f).length=l2.length*z:=bS hf l2;have ha:=Ev h1 l2;rcases h with⟨rfl,rfl|⟨B,rfl⟩⟩|⟨Nf,B,c',i1,i2,rfl,hc,i4⟩
  ·refine⟨_,_,wN hk j2 j3.symm CJ Hz ha (by simp at hb;omega) (by simpa using gW),.inr ⟨by simpa using he,W.next,_,HT,by rw[AW.aJ];omega,by simp,.inl rfl,by rw[AW.bf];simp⟩,by rw[AW.aJ];omega,λb hb=>AW.aZ _ _ (by omega)⟩
  ·refine⟨_,_,JT hk j2 j3.symm CJ Hz ha (by simp at hb;omega) (by simpa using gW),.inr ⟨by simpa using he,W.next,_,HT,by rw[AW.aJ];omega,by simp,.inl rfl,by rw[AW.bf];simp⟩,by rw[AW.aJ];omega,λb hb=>AW.aZ _ _ (by omega)⟩
  ·have uR:0<l.length:=qv.2 Nf;rcases hc with rfl|rfl
   ·refine⟨_,_,Ht hk j2 j3.symm CJ Hz ha i4 (bS hf l) hb gW uR,.inr ⟨by simp[Nf],W.next,_,HT,by rw[AW.aJ,AW.dm];omega,by rw[dj],.inl rfl,?_⟩,by rw[AW.aJ,AW.dm];omega,λb hb=>?_⟩
    ·have:=(W.kill B).bf (.cells (l.flatMap f++l2.flatMap f));rw[AW.dm]at this;rw[this,fH]
    ·rw[AW.aZ _ _ (by rw[AW.dm];omega),AW.db _ (by omega)]
   ·refine⟨_,_,HE hk j2 j3.symm CJ Hz ha (bw i4) (bS hf l) hb gW uR,.inr ⟨by simp[Nf],W.next,_,HT,by rw[AW.aJ];omega,by rw[dj],.inl rfl,by rw[AW.bf,fH]⟩,by rw[AW.aJ];omega,λb hb=>AW.aZ _ _ (by omega)⟩
end
end
def mV{α:Type}(W:AW)(z:Nat)(f:α->List ae)(v:ae)(l:List α)(bo:Option Nat):Prop:=
 (l=[]/\v=.slice none 0 0/\bo=none)\/(l≠[]/\∃B,bo=some B/\B<W.next/\v=.slice (some ⟨B,0,none⟩) l.length (eS+z)/\W.get B=some (.cells (l.flatMap f)))
def mV.lst{α:Type}{W:AW}{z:Nat}{f:α->List ae}{v:ae}{l:List α}{bo:Option Nat}(h:mV W z f v l bo):wS 0 W z f v l:=by
 rcases h with⟨h1,h2,-⟩|⟨h0,B,-,h2,h3,h4⟩
 ·exact .inl ⟨h1,h2⟩
 ·exact .inr ⟨h0,B,Nat.zero_le _,h2,h3,h4⟩
def mV.dD{α:Type}{W W':AW}{z:Nat}{f:α->List ae}{v:ae}{l:List α}{bo:Option Nat}(h:mV W z f v l bo)(hn:W.next<=W'.next)(hg:∀B,bo=some B->W'.get B=W.get B):mV W' z f v l bo:=by
 rcases h with h|⟨h0,B,h1,h2,h3,h4⟩
 ·exact .inl h
 ·exact .inr ⟨h0,B,h1,by omega,h3,(hg B h1).trans h4⟩
def mV.lt{α:Type}{W:AW}{z:Nat}{f:α->List ae}{v:ae}{l:List α}{bo:Option Nat}(h:mV W z f v l bo){B:Nat}(hB:bo=some B):B<W.next:=by
 rcases h with⟨-,-,h⟩|⟨h0,B',h1,h2,-⟩
 ·rw[h]at hB;cases hB
 ·rw[h1]at hB;injection hB with hB;omega
def mV.push{α:Type}{P:ag}{W:AW}{ts:Array ah}{z bytes:Nat}{f:α->List ae}{v:ae}{l:List α}{bo:Option Nat}{a:α}(hk:iY P ts z bytes=true)(hf:∀a,(f a).length=z)(h1:∀a,(f a).all one=true)
 (h:mV W z f v l bo){b c:Nat}(hc:aH W b=some (f a))(hb:l.length+1<1099511627776)(gW:(2*(l.length+1)+192)*bytes<=281474976710656):
 ∃v' W',aN P W ts v (.slice (some ⟨b,0,none⟩) 1 c)=some (v',W')/\mV W' z f v' (l++[a]) (some W.next)/\W'.next=W.next+1/\∀b,b<W.next->bo≠some b->W'.get b=W.get b:=by
 have hn:f a=((f a).drop 0).take (1*z):=by rw[ol,Nat.one_mul,<-hf a,dK]
 have hl:(f a).length=1*z:=by rw[hf];omega
 rcases h with⟨rfl,rfl,rfl⟩|⟨h0,B,rfl,i2,rfl,i4⟩
 ·refine⟨_,_,wN (b:=b) (o:=0) (c:=c) hk hc hn hl (by omega) (h1 a) (by omega) (by simpa using gW),.inr ⟨by simp,W.next,rfl,by rw[AW.aJ];omega,by simp,by rw[AW.bf];simp⟩,AW.aJ _ _,λd hd _=>AW.aZ _ _ (by omega)⟩
 ·have uR:0<l.length:=qv.2 h0;refine⟨_,_,Ht (b:=b) (o:=0) (c:=c) hk hc hn hl (by omega) (h1 a) i4 (bS hf l) (by omega) gW uR,.inr ⟨by simp,W.next,rfl,by rw[AW.aJ,AW.dm];omega,by simp,?_⟩,by rw[AW.aJ,AW.dm],λd hd dQ=>?_⟩
  ·have:=(W.kill B).bf (.cells (l.flatMap f++f a));rw[AW.dm]at this;rw[this,fH];simp
  ·rw[AW.aZ _ _ (by rw[AW.dm];omega),AW.db _ (λe=>dQ (by rw[e]))]
section
variable {P:ag} {W:AW} {α:Type} {t:ah} {z lo:Nat} {f:α->List ae} {v:ae} {l:List α} {kk:aK} {k:Nat}
end
def Ql{W W':AW}(v:ae):gc W (v,W')=(v,W')\/(gc W (v,W')=(v,W)/\Le W W'/\a7 v=true):=by
 unfold gc;split
 ·rename_i h;have:=h.1;simp only[bm]at this;exact .inr ⟨rfl,h.2,this.1⟩
 ·exact .inl rfl
def sD{o t:Option (ae×AW)}{W:AW}{Q:ae->AW->Prop}(h:Ok t λr=>Q r.1 r.2)(K7:∀{r},t=some r->o=some (gc W r))(hq:∀v W',Q v W'->Le W W'->a7 v=true->Q v W):∃v W',o=some (v,W')/\Q v W':=by
 obtain⟨⟨v,W'⟩,h1,h2⟩:=h;rcases Ql (W:=W) (W':=W') v with hg|⟨hg,bk,hp⟩
 ·exact⟨v,W',by rw[K7 h1,hg],h2⟩
 ·exact⟨v,W,by rw[K7 h1,hg],hq v W' h2 bk hp⟩
end
end Go.Eng
namespace Go.Eng
open Go Go.RowKit
section
variable [aj]
def M2(P:ag)(dh:Nat):Nat->List mX->Bool
 |off,[]=>off==dh
 |off,f::fs=>f.offset==off&&M2 P dh (off+P.cellsOf f.type) fs
def Og(P:ag):Nat->ah->Bool
 |0,_=>false
 |n+1,t=>match P.underlying t with
  |some .bool=>true
  |some (.int _)=>true
  |some .string=>true
  |some (.struct fs)=>M2 P (P.cellsOf t) 0 fs.toList&&fs.toList.all λf=>Og P n f.type
  |some (.slice e)=>decide (0<P.cellsOf e)&&Og P n e
  |_=>false
def tr(g:ah->List ae->Prop):List ah->List ae->Prop
 |[],cs=>cs=[]
 |t::ts,cs=>∃c1 c2,cs=c1++c2/\g t c1/\tr g ts c2
def tr.imp{g g':ah->List ae->Prop}(h:∀t cs,g t cs->g' t cs):∀{ts:List ah} {cs:List ae},tr g ts cs->tr g' ts cs
 |[],_,hc=>hc
 |_::_,_,⟨c1,c2,e,h1,h2⟩=>⟨c1,c2,e,h _ _ h1,tr.imp h h2⟩
def DR(P:ag)(W:AW):Nat->ah->List ae->Prop
 |0,_,_=>False
 |n+1,t,cs=>match P.underlying t with
  |some .bool=>∃b,cs=[.bool b]
  |some (.int k)=>∃m,cs=[.int k m]/\k.min<=m/\m<=k.max
  |some .string=>∃s:ByteArray,cs=[.string s]/\s.size<9223372036854775808
  |some (.struct fs)=>tr (DR P W n) (fs.toList.map (·.type)) cs
  |some (.slice e)=>∃a len cap,cs=[.slice a len cap]/\len<=cap/\cap<eS/\(a=none\/∃b,a=some ⟨b,0,none⟩)/\(len=0\/∃(b:Nat) (l:List (List ae)),a=some ⟨b,0,none⟩/\b<W.next/\aH W b=some l.flatten/\l.length=len/\∀c∈l,c.length=P.cellsOf e/\DR P W n e c)
  |_=>False
def DR.mono{P:ag}{W W':AW}(bk:Le W W'):∀{n:Nat} {t:ah} {cs:List ae},DR P W n t cs->DR P W' n t cs:=by
 intro n;induction n with
 |zero=>intro t cs h;exact h.elim
 |succ n ih=>
  intro t cs h;unfold DR at h|-;split at h
  ·exact h
  ·exact h
  ·exact h
  ·exact tr.imp (λt cs h=>ih h) h
  ·obtain⟨a,len,cap,e1,e2,e3,e3',h⟩:=h;refine⟨a,len,cap,e1,e2,e3,e3',?_⟩;rcases h with h|⟨b,l,e4,e5,e6,e7,h⟩
   ·exact .inl h
   ·exact .inr ⟨b,l,e4,ef e5 bk.next,(bk.aH e5).trans e6,e7,λc hc=>⟨(h c hc).1,ih (h c hc).2⟩⟩
  ·exact h
structure je (σ:cm) (W:AW) (w:ap):Prop where
 rel:aX σ W w.heap
 ro:Ao σ W
 some_:∃b g,σ b=some g
def je.add{σ:cm}{W:AW}{w:ap}(h:je σ W w){B s:Nat}{cs:List ae}{c:Array ae}{t:ah}{fr:Nat×Nat}(hB:w.heap[B]? =some (.cells c t fr))
 (hc:∀(i:Nat) (v:ae),cs[i]? =some v->∃v',c[s+i]? =some v'/\VR σ v v'):
 je (bu σ W.next ⟨B,s,s+cs.length⟩) (W.add (.ro cs)) w/\Sub σ (bu σ W.next ⟨B,s,s+cs.length⟩):=by
 have zA:=h.rel.fresh;have hs:Sub σ (bu σ W.next ⟨B,s,s+cs.length⟩):=cA zA;have fy:B<w.heap.size:=(cQ.1 hB).1;have dQ:∀{x:Nat},x≠W.next->(W.add (.ro cs)).get x=W.get x:=λhx=>W.aZ _ (bL hx)
 have lu:∀x g,bu σ W.next ⟨B,s,s+cs.length⟩ x=some g->(x=W.next/\g=⟨B,s,s+cs.length⟩)\/(x≠W.next/\σ x=some g):=λx g hc=>by
  unfold bu at hc;split at hc
  ·rename_i hx;injection hc with hc;exact .inl ⟨hx,hc.symm⟩
  ·rename_i hx;exact .inr ⟨hx,hc⟩
 have lT:Ao (bu σ W.next ⟨B,s,s+cs.length⟩) (W.add (.ro cs)):=by
  intro x g hx;rcases lu x g hx with⟨rfl,rfl⟩|⟨h1,h2⟩
  ·exact⟨cs,AW.bf _ _⟩
  ·obtain⟨bP,mI⟩:=h.ro x g h2;exact⟨bP,by rw[dQ h1];exact mI⟩
 refine⟨⟨⟨?_,?_,?_,?_⟩,lT,?_⟩,hs⟩
 ·intro x hx;rw[AW.aJ]at hx;rw[dQ (by omega)];exact h.rel.free x (by omega)
 ·intro x g hx;rw[AW.aJ];rcases lu x g hx with⟨rfl,rfl⟩|⟨_,h2⟩
  ·exact⟨by omega,fy⟩
  ·have:=h.rel.lH x g h2;exact⟨by omega,this.2⟩
 ·intro x o g hx hk;rcases lu x g hk with⟨rfl,rfl⟩|⟨h1,h2⟩
  ·rw[AW.bf]at hx;injection hx with hx;subst hx;exact⟨c,t,fr,hB,aS _,λi v hv=>let⟨v',a,b⟩:=hc i v hv;⟨v',a,b.mono hs⟩⟩
  ·rw[dQ h1]at hx;exact(h.rel.obj x o g hx h2).mono hs
 ·intro b1 b2 o1 o2 g1 g2 CI h1 h2 k1 k2 hr;obtain⟨c1,e1⟩:=lT b1 g1 k1;obtain⟨c2,e2⟩:=lT b2 g2 k2;rw[h1]at e1;rw[h2]at e2;injection e1 with e1;injection e2 with e2;subst e1;subst e2;simp[K6]at hr
 ·obtain⟨b,g,hb⟩:=h.some_;exact⟨b,g,hs b g hb⟩
def AL{w:ap}{base:Nat}{a:aM}{n:Nat}{cs:List ae}(h:w.cells? base a n=some cs)(hn:0<n):∃c t fr,w.heap[a.block]? =some (.cells c t fr)/\a.spot=none/\cs.length=n/\∀i,i<n->c[a.off+i]? =cs[i]? :=by
 unfold World.cells? at h;split at h;case isFalse=>cases h
 have hl:=mapM_some_length h;rw[List.length_range]at hl;have hg:∀i,i<n->w.cell? (a.add i)=cs[i]? :=λi hi=>mapM_some_get h i i (by simp[hi])
 have h0:=hg 0 hn;have e0:a.add 0=a:=by simp[Addr.add]
 rw[e0,cx (by omega)]at h0;unfold World.cell? at h0;split at h0;case h_2=>cases h0
 rename_i c t fr hh;split at h0;case isTrue=>cases h0
 rename_i mb;refine⟨c,t,fr,hh,by simpa using mb,hl,λi hi=>?_⟩;rw[<-hg i hi];unfold World.cell?;have eb:(a.add i).block=a.block:=by unfold Addr.add;split<;>rfl
 have eo:(a.add i).off=a.off+i:=by unfold Addr.add;split<;>simp_all
 have es:(a.add i).spot=none:=by unfold Addr.add;split<;>simp_all
 rw[eb,hh];simp only[es,eo,sO,kW,cE]
section
variable {H:Type} {enc:ah×ae->H} {P:ag} {w:ap}
def Lh(P:ag)(w:ap)(n:Nat)(t:ah)(bP:List ae):Prop:=∀σ W,je σ W w->∃σ2 W2 cs,je σ2 W2 w/\Sub σ σ2/\Le W W2/\LR σ2 cs bP/\DR P W2 n t cs
def t7{n:Nat}{dh:Nat}{bP:List ae}(hl:bP.length=dh):∀{fs:List mX} {off:Nat},M2 P dh off fs=true->(∀f∈fs,Lh P w n f.type ((bP.drop f.offset).take (P.cellsOf f.type)))->
 ∀σ W,je σ W w->∃σ2 W2 cs,je σ2 W2 w/\Sub σ σ2/\Le W W2/\LR σ2 cs (bP.drop off)/\tr (DR P W2 n) (fs.map (·.type)) cs
 |[],off,h,_,σ,W,ho=>by unfold M2 at h;have:=lZ.1 h;refine⟨σ,W,[],ho,.refl _,.refl _,?_,rfl⟩;rw[xe (by omega)];exact .nil
 |f::fs,off,h,hf,σ,W,ho=>by
  unfold M2 at h;simp only[bm]at h;have Cg:=lZ.1 h.1;obtain⟨σ1,W1,c1,o1,s1,l1,r1,a1⟩:=hf f (by simp) σ W ho;obtain⟨σ2,W2,c2,o2,s2,l2,r2,a2⟩:=t7 hl h.2 (λg hg=>hf g (by simp[hg])) σ1 W1 o1;refine⟨σ2,W2,c1++c2,o2,s1.trans s2,l1.trans l2,?_,c1,c2,rfl,a1.mono l2,a2⟩;rw[Cg]at r1;have e:bP.drop off=(bP.drop off).take (P.cellsOf f.type)++bP.drop (off+P.cellsOf f.type):=by rw[<-oe,uX]
  rw[e];exact(r1.mono s2).append r2
def xr{n z:Nat}{e:ah}:∀{LL:List (List ae)},(∀c∈LL,c.length=z/\Lh P w n e c)->
 ∀σ W,je σ W w->∃(σ2:cm) (W2:AW) (l:List (List ae)),je σ2 W2 w/\Sub σ σ2/\Le W W2/\LR σ2 l.flatten LL.flatten/\l.length=LL.length/\∀c∈l,c.length=z/\DR P W2 n e c
 |[],_,σ,W,ho=>⟨σ,W,[],ho,.refl _,.refl _,.nil,rfl,by simp⟩
 |c0::LL,h,σ,W,ho=>by
  obtain⟨σ1,W1,c1,o1,s1,l1,r1,a1⟩:=(h c0 (by simp)).2 σ W ho;obtain⟨σ2,W2,l,o2,s2,l2,r2,e2,a2⟩:=xr (LL:=LL) (λc hc=>h c (by simp[hc])) σ1 W1 o1;refine⟨σ2,W2,c1::l,o2,s1.trans s2,l1.trans l2,?_,by simp[e2],?_⟩
  ·rw[List.flatten_cons,List.flatten_cons];exact(r1.mono s2).append r2
  ·intro c hc;rcases cP.1 hc with rfl|hc
   ·exact⟨by rw[r1.1];exact(h c0 (by simp)).1,a1.mono l2⟩
   ·exact a2 c hc
def EN(L:List ae)(o z:Nat):∀n,((List.range n).map λi=>(L.drop (o+i*z)).take z).flatten=(L.drop o).take (n*z)
 |0=>by simp
 |n+1=>by rw[nv,oA,List.flatten_append,EN L o z n,Nat.succ_mul,List.take_add,oe];simp
def FQ:∀{n m:Nat} {t:ah} {bP:List ae} {x:bs H×List cI},Og P n t=true->DataW.trod enc P w 0 (λ_=>true) true m t bP=some x->Lh P w n t bP:=by
 intro n;induction n with
 |zero=>intro m t bP x h;cases h
 |succ n ih=>
  intro m t bP x h hx σ W ho;unfold Og at h;split at h
  ·rename_i ht;obtain⟨b,rfl,_⟩:=DataW.trod_bool ht hx;exact⟨σ,W,[.bool b],ho,.refl _,.refl _,.cons (.bool b) .nil,by unfold DR;rw[ht];exact⟨b,rfl⟩⟩
  ·rename_i k ht;obtain⟨z,rfl,_,hwf⟩:=DataW.trod_int ht hx;simp only[Lit.wf,bm,oq]at hwf;exact⟨σ,W,[.int k z],ho,.refl _,.refl _,.cons (.int k z) .nil,by unfold DR;rw[ht];exact⟨z,rfl,hwf⟩⟩
  ·rename_i ht;obtain⟨s,rfl,_,hs⟩:=DataW.trod_string ht hx;exact⟨σ,W,[.string s],ho,.refl _,.refl _,.cons (.string s) .nil,by unfold DR;rw[ht];exact⟨s,rfl,by unfold maxLen at hs;omega⟩⟩
  ·rename_i fs ht;simp only[bm,bV]at h;obtain⟨xs,m',_,_,hl,dy,hf⟩:=DataW.trod_struct ht hx;have:=t7 (P:=P) (w:=w) (n:=n) hl h.1 (λf hfm=>by
    obtain⟨i,hi,rfl⟩:=tv hfm;have hi2:i<fs.size:=by simpa using hi
    have h1:=hf i fs[i] (by rw[ft hi2]);rw[cx (by omega)]at h1;have e:fs.toList[i]=fs[i]:=by simp
    rw[e];exact ih (by rw[<-e];exact h.2 _ hfm) h1) σ W ho;obtain⟨σ2,W2,cs,o2,s2,l2,r2,a2⟩:=this;rw[ol]at r2;exact⟨σ2,W2,cs,o2,s2,l2,r2,by unfold DR;rw[ht];exact a2⟩
  ·rename_i e ht;simp only[bm,oq]at h;obtain⟨hz,LW⟩:=h;have mk:∀{W2:AW} {a:Option aM} {len cap:Nat},len<=cap->cap<eS->(a=none\/∃b,a=some ⟨b,0,none⟩)->(len=0\/∃(b:Nat) (l:List (List ae)),a=some ⟨b,0,none⟩/\b<W2.next/\aH W2 b=some l.flatten/\l.length=len/\∀c∈l,c.length=P.cellsOf e/\DR P W2 n e c)->DR P W2 (n+1) t [.slice a len cap]:=λh1 h2 h2' h3=>by unfold DR;rw[ht];exact⟨_,_,_,rfl,h1,h2,h2',h3⟩
   rcases DataW.trod_slice ht hx with⟨rfl,_⟩|⟨a,len,cap,afM,gn,m',_,rfl,_,_,RR,la,hel,bk,mb,_⟩
   ·exact⟨σ,W,[.slice none 0 0],ho,.refl _,.refl _,.cons (.zn 0 0) .nil,mk (aS _) (by unfold eS;omega) (.inl rfl) (.inl rfl)⟩
   obtain⟨hrl,Fb⟩:=mb rfl;have RP:cap<eS:=by unfold maxLen at la;unfold eS;omega
   by_cases hc0:cap=0
   ·obtain rfl:len=0:=by omega
    subst hc0;obtain⟨b,g,hg⟩:=ho.some_;exact⟨σ,W,[.slice (some ⟨b,0,none⟩) 0 0],ho,.refl _,.refl _,.cons (.cD ⟨b,0,none⟩ a 0 g hg (.inl rfl)) .nil,mk (aS _) (by unfold eS;omega) (.inr ⟨b,rfl⟩) (.inl rfl)⟩
   ·
    have oP:∀i,i<cap->∃ci,w.cells? 0 (a.add (i*P.cellsOf e)) (P.cellsOf e)=some ci/\∃x,DataW.trod enc P w 0 (λ_=>true) true m' e ci=some x:=by
     intro i hi;by_cases Rl:i<len
     ·have h1:=bk i Rl;rw[cx (by omega)]at h1;obtain⟨ci,h2,h3⟩:=Option.bind_eq_some_iff.1 h1;exact⟨ci,h2,_,h3⟩
     ·have h1:=Fb (i-len) (by omega);rw[cx (by omega),show len+(i-len)=i by omega]at h1;obtain⟨ci,h2,h3⟩:=Option.bind_eq_some_iff.1 h1;exact⟨ci,h2,_,h3⟩
    obtain⟨c0,ZL,_⟩:=oP 0 (by omega);have ea0:a.add (0*P.cellsOf e)=a:=by simp[Addr.add]
    rw[ea0]at ZL;obtain⟨c,tt,fr,hB,RU,_,_⟩:=AL ZL hz;have hci:∀i,i<cap->∃x,((c.toList.drop (a.off+i*P.cellsOf e)).take (P.cellsOf e)).length=P.cellsOf e/\DataW.trod enc P w 0 (λ_=>true) true m' e ((c.toList.drop (a.off+i*P.cellsOf e)).take (P.cellsOf e))=some x:=by
     intro i hi;obtain⟨ci,h1,x,h2⟩:=oP i hi;obtain⟨c2,t2,fr2,Ia,_,qN,D3⟩:=AL h1 hz;have eb:(a.add (i*P.cellsOf e)).block=a.block:=by unfold Addr.add;split<;>rfl
     have eo:(a.add (i*P.cellsOf e)).off=a.off+i*P.cellsOf e:=by unfold Addr.add;split<;>simp_all
     rw[eb,hB]at Ia;injection Ia with Ia;injection Ia with Ia;subst Ia;rw[eo]at D3;have ec:(c.toList.drop (a.off+i*P.cellsOf e)).take (P.cellsOf e)=ci:=by
      apply qy;intro j;by_cases hj:j<P.cellsOf e
      ·rw[jg,ax hj,pk,pm];exact D3 j hj
      ·rw[jg,ay hj,nB (by omega)]
     rw[ec];exact⟨x,qN,h2⟩
    obtain⟨σ1,W1,l,o1,s1,l1,r1,e1,a1⟩:=xr (P:=P) (w:=w) (n:=n) (z:=P.cellsOf e) (e:=e) (LL:=(List.range len).map λi=>(c.toList.drop (a.off+i*P.cellsOf e)).take (P.cellsOf e)) (λci hm=>by
     obtain⟨i,hi,rfl⟩:=qg.1 hm;rw[qh]at hi;obtain⟨x,h1,h2⟩:=hci i (by omega);exact⟨h1,ih LW h2⟩) σ W ho;rw[EN]at r1;rw[fW,List.length_range]at e1;obtain⟨o2,s2⟩:=o1.add (s:=a.off) (cs:=l.flatten) hB (λi v hv=>by
     obtain⟨v',OL,hr⟩:=r1.get hv;refine⟨v',?_,hr⟩;rw[jg]at OL;split at OL
     ·rw[pk,pm]at OL;exact OL
     ·cases OL);have lw:Le W1 (W1.add (.ro l.flatten)):=(Le.refl W1).add _;have ev:(⟨a.block,a.off+0,none⟩:aM)=a:=by
     obtain⟨b,o,s⟩:=a;simp only at RU;subst RU;rfl
    have hv:VR (bu σ1 W1.next ⟨a.block,a.off,a.off+l.flatten.length⟩) (.slice (some ⟨W1.next,0,none⟩) len cap) (.slice (some ⟨a.block,a.off+0,none⟩) len cap):=
     .slice ⟨W1.next,0,none⟩ len cap cap ⟨a.block,a.off,a.off+l.flatten.length⟩ cz rfl (.known cap RP)
    rw[ev]at hv;refine⟨_,_,[.slice (some ⟨W1.next,0,none⟩) len cap],o2,s1.trans s2,l1.trans lw,.cons hv .nil,mk RR RP (.inr ⟨W1.next,rfl⟩) (.inr ⟨W1.next,l,rfl,by rw[AW.aJ];omega,yM (W1.bf _),e1,λci hm=>⟨(a1 ci hm).1,(a1 ci hm).2.mono lw⟩⟩)⟩
  ·cases h
end
end
end Go.Eng
namespace Go.Eng
open Go Go.RowKit Go.ChangeShapes Go.WideShapes
section
variable [aj]
section
variable {P:ag} {W:AW} {α:Type}
def DR.int{n:Nat}{t:ah}{cs:List ae}{k:aK}(h:DR P W (n+1) t cs)(ht:P.underlying t=some (.int k)):∃m,cs=[.int k m]:=by unfold DR at h;rw[ht]at h;obtain⟨m,h,_⟩:=h;exact⟨m,h⟩
def DR.str{n:Nat}{t:ah}{cs:List ae}(h:DR P W (n+1) t cs)(ht:P.underlying t=some .string):∃s:ByteArray,cs=[.string s]/\s.size<9223372036854775808:=by unfold DR at h;rw[ht]at h;exact h
def DR.struct{n:Nat}{t:ah}{cs:List ae}{fs:Array mX}(h:DR P W (n+1) t cs)(ht:P.underlying t=some (.struct fs)):tr (DR P W n) (fs.toList.map (·.type)) cs:=by unfold DR at h;rw[ht]at h;exact h
def DR.slice{n:Nat}{t e:ah}{cs:List ae}(h:DR P W (n+1) t cs)(ht:P.underlying t=some (.slice e)):
 ∃a len cap,cs=[.slice a len cap]/\len<=cap/\cap<eS/\(len=0\/∃(b:Nat) (l:List (List ae)),a=some ⟨b,0,none⟩/\b<W.next/\aH W b=some l.flatten/\l.length=len/\∀c∈l,c.length=P.cellsOf e/\DR P W n e c):=by
 unfold DR at h;rw[ht]at h;obtain⟨a,len,cap,h1,h2,h3,_,h4⟩:=h;exact⟨a,len,cap,h1,h2,h3,h4⟩
def DR.Sw{n:Nat}{t e:ah}{cs:List ae}(h:DR P W (n+1) t cs)(ht:P.underlying t=some (.slice e)):
 ∃a len cap,cs=[.slice a len cap]/\len<=cap/\cap<eS/\(a=none\/∃b,a=some ⟨b,0,none⟩)/\(len=0\/∃(b:Nat) (l:List (List ae)),a=some ⟨b,0,none⟩/\b<W.next/\aH W b=some l.flatten/\l.length=len/\∀c∈l,c.length=P.cellsOf e/\DR P W n e c):=by
 unfold DR at h;rw[ht]at h;exact h
def Dq{z:Nat}{at_:List ae->Nat->α->Prop}:∀{l:List (List ae)},(∀c∈l,c.length=z/\∃x:α,∀pre post,at_ (pre++(c++post)) pre.length x)->∀pre:List ae,
 ∃xs:List α,xs.length=l.length/\∀i (h:i<xs.length),at_ (pre++l.flatten) (pre.length+i*z) xs[i]
 |[],_,_=>⟨[],rfl,λi h=>by simp at h⟩
 |c::l,hc,pre=>by
  obtain⟨hz,x,hx⟩:=hc c (by simp);obtain⟨xs,h1,h2⟩:=Dq (l:=l) (λd hd=>hc d (by simp[hd])) (pre++c);refine⟨x::xs,by simp[h1],λi h=>?_⟩;rw[List.flatten_cons];match i with
  |0=>simpa using hx pre l.flatten
  |i+1=>have:=h2 i (by simpa using h);rw[dj,hz,pM]at this;rw[List.getElem_cons_succ,Nat.succ_mul,Nat.add_comm (i*z) z,<-jW];exact this
def ZK{α:Type}(W:AW)(z:Nat)(at_:List ae->Nat->α->Prop)(v:ae)(l:List α):Prop:=Row W z at_ v l/\(∃a c,v=.slice a l.length c/\l.length<=c/\c<eS/\(l≠[]->∃b o,a=some ⟨b,o,none⟩))
def DR.row{n:Nat}{t e:ah}{cs:List ae}(h:DR P W (n+1) t cs)(ht:P.underlying t=some (.slice e)){at_:List ae->Nat->α->Prop}
 (ko:∀c,c.length=P.cellsOf e->DR P W n e c->∃x:α,∀pre post,at_ (pre++(c++post)) pre.length x):∃v l,cs=[v]/\ZK W (P.cellsOf e) at_ v l:=by
 obtain⟨a,len,cap,rfl,h1,h2,h3⟩:=h.slice ht;rcases h3 with rfl|⟨b,l,rfl,h4,h5,rfl,h6⟩
 ·exact⟨_,[],rfl,⟨a,cap,rfl,.inl rfl⟩,a,cap,rfl,h1,h2,λh=>absurd rfl h⟩
 ·obtain⟨xs,e1,e2⟩:=Dq (z:=P.cellsOf e) (at_:=at_) (l:=l) (λc hc=>⟨(h6 c hc).1,ko c (h6 c hc).1 (h6 c hc).2⟩) [];refine⟨_,xs,rfl,⟨_,cap,by rw[e1],.inr ⟨b,0,l.flatten,rfl,h4,h5,λi hi=>?_⟩⟩,_,cap,by rw[e1],by omega,h2,λ_=>⟨b,0,rfl⟩⟩;have:=e2 i hi;simpa using this
def DR.ints{n:Nat}{t e:ah}{cs:List ae}{k:aK}(h:DR P W (n+2) t cs)(ht:P.underlying t=some (.slice e))(he:P.underlying e=some (.int k))(hz:P.cellsOf e=1):∃v l,cs=[v]/\ZK W 1 (vQ k) v l:=by have:=h.row ht (at_:=vQ k) (λc _ hc=>by obtain⟨m,rfl⟩:=hc.int he;refine⟨m,λpre post=>?_⟩;unfold vQ;rw[ir (by omega)];simp);rwa [hz]at this
def tr.nil{g:ah->List ae->Prop}{cs:List ae}(h:tr g [] cs):cs=[]:=h
def tr.cons{g:ah->List ae->Prop}{t:ah}{ts:List ah}{cs:List ae}(h:tr g (t::ts) cs):∃c1 c2,cs=c1++c2/\g t c1/\tr g ts c2:=h
end
section
variable {H:Type} {enc:ah×ae->H} {P:ag} {w w':ap} {base:Nat} {NY:Nat->Bool} {held:Bool}
def cW.same{p:cI}(hq:cW w w')(hp:p.block<w.heap.size):w.sameAt w' p:=by
 cases p with
 |cell b off=>exact World.cell?_of_block (a:=⟨b,off,none⟩) (hq.block b hp)
 |map b=>exact hq.block b hp
def cW.trodAll(hq:cW w w'):∀{ts:List ah} {vs:List ae} {ds:List (bs H)} {ps:List cI},DataW.TrodAll enc P w base NY held ts vs ds ps->DataW.TrodAll enc P w' base NY held ts vs ds ps
 |[],[],[],_,h=>h
 |_::_,_::_,_::_,_,⟨p,q,⟨n,h1⟩,h2,e⟩=>⟨p,q,⟨n,DataW.trod_carry n _ _ _ h1 (λx hx=>hq.same (DataW.trod_lt n _ _ _ h1 x hx))⟩,hq.trodAll h2,e⟩
def Jf{f:dV}{s:ChangeSpec}{args:Array ae}{ds gs:List (bs H)}{jO:List cI}{T:ah->Prop}(K:Kids P T)(hz:∀t e,T t->P.underlying t=some (.slice e)->0<P.cellsOf e)(hT:∀t∈f.params.toList,T t)
 (hW:DataW.Whole enc P f.params.toList s.vars false w args.toList ds gs jO)(hq:cW w w')(hv:s.vars=[])(Ee:s.fn H ds={results:=[.lit (.bool true)],args:=ds}){t:ah}(hr:f.resultTypes=#[t])(ht:P.underlying t=some .bool):
 s.post enc P f false true false false w args (.bool true) w':=by
 have T7:=hW;obtain⟨p,q,hA,hV,rfl,_,_⟩:=hW;rw[hv]at hV;obtain⟨rfl,rfl⟩:=trodVars_none hV;have fy:=hA.lt;refine⟨ds,[],p++[],[],p,[],T7,?_,?_,?_,hq.grown.frame _,λh=>by cases h⟩
 ·rw[hr,jY,Ee];exact trodAll_cons_mk (shut_bool ht _) trodAll_mk0
 ·rw[jY,Ee];exact hq.trodAll (hA.respare K hz hT (λx hx=>by simpa using fy x hx))
 ·rw[hv,jY,Ee];exact rfl
end
end
end Go.Eng
namespace Go.Eng
open Go
@[reducible] noncomputable def HJ (D:Nat->Array am->Option (List (Nat×List Nat))) (ng:List Nat) (ex:ah->Bool:=λ_=>false):aj where
 D:=D
 ex:=ex
 ng:=ng
 Fr:=T ae
 G9:=λR t=>(T.get (path t) R).getD ai
 NK:=λR t v=>T.set (some v) (path t) R
 blank:=.lf
 iC:=λR t v=>by rw[T.iC];rfl
 eL:=λR t u v h=>by rw[T.eL _ _ _ _ (qH h)]
 uv:=λt=>by rw[T.uu];rfl
end Go.Eng
namespace Go.Proofs.YtekljimefjclgaaGreatDoor
open Go Go.Proofs
def Kf:Go.Shelf.Ren:=⟨λ|189=>165|125=>178|257=>177|128=>194|129=>195|294=>185|295=>186|296=>187|297=>188|298=>189|299=>190|216=>191|300=>192|301=>193|328=>198|329=>199|330=>200|331=>201|332=>202|215=>203|343=>205|n=>n,λ|28=>64|3=>3|46=>250|0=>0|51=>36|53=>37|4=>4|183=>274|182=>273|131=>163|5=>5|9=>9|218=>282|222=>286|228=>288|229=>289|n=>n,λ|n=>n⟩
def Wl:Lays.n189 Tryz.prog Kf where
 mixed:=by kernel_rfl
 f125:=Tryz.func178.trans (cg some (by kernel_rfl))
 f128:=Tryz.func194.trans (cg some (by kernel_rfl))
 f129:=Tryz.func195.trans (cg some (by kernel_rfl))
 f189:=Tryz.func165.trans (cg some (by kernel_rfl))
 f215:=Tryz.func203.trans (cg some (by kernel_rfl))
 f216:=Tryz.func191.trans (cg some (by kernel_rfl))
 f257:=Tryz.func177.trans (cg some (by kernel_rfl))
 f294:=Tryz.func185.trans (cg some (by kernel_rfl))
 f295:=Tryz.func186.trans (cg some (by kernel_rfl))
 f296:=Tryz.func187.trans (cg some (by kernel_rfl))
 f297:=Tryz.func188.trans (cg some (by kernel_rfl))
 f298:=Tryz.func189.trans (cg some (by kernel_rfl))
 f299:=Tryz.func190.trans (cg some (by kernel_rfl))
 f300:=Tryz.func192.trans (cg some (by kernel_rfl))
 f301:=Tryz.func193.trans (cg some (by kernel_rfl))
 f328:=Tryz.func198.trans (cg some (by kernel_rfl))
 f329:=Tryz.func199.trans (cg some (by kernel_rfl))
 f330:=Tryz.func200.trans (cg some (by kernel_rfl))
 f331:=Tryz.func201.trans (cg some (by kernel_rfl))
 f332:=Tryz.func202.trans (cg some (by kernel_rfl))
 f343:=Tryz.func205.trans (cg some (by kernel_rfl))
 t0:=Tryz.underlying0
 a0:=Tryz.isAgg0
 z0:=Tryz.sizeOf0
 v0:=Tryz.zeroValue0
 t3:=Tryz.underlying3
 a3:=Tryz.isAgg3
 z3:=Tryz.sizeOf3
 v3:=Tryz.zeroValue3
 t4:=Tryz.underlying4
 a4:=Tryz.isAgg4
 z4:=Tryz.sizeOf4
 v4:=Tryz.zeroValue4
 t5:=Tryz.underlying5
 a5:=Tryz.isAgg5
 z5:=Tryz.sizeOf5
 v5:=Tryz.zeroValue5
 t9:=Tryz.underlying9
 a9:=Tryz.isAgg9
 z9:=Tryz.sizeOf9
 v9:=Tryz.zeroValue9
 t28:=Tryz.underlying64
 a28:=Tryz.isAgg64
 z28:=Tryz.sizeOf64
 v28:=Tryz.zeroValue64
 t46:=Tryz.underlying250
 a46:=Tryz.isAgg250
 z46:=Tryz.sizeOf250
 v46:=Tryz.zeroValue250
 t51:=Tryz.underlying36
 a51:=Tryz.isAgg36
 z51:=Tryz.sizeOf36
 v51:=Tryz.zeroValue36
 t53:=Tryz.underlying37
 a53:=Tryz.isAgg37
 z53:=Tryz.sizeOf37
 v53:=Tryz.zeroValue37
 t131:=Tryz.underlying163
 a131:=Tryz.isAgg163
 z131:=Tryz.sizeOf163
 v131:=Tryz.zeroValue163
 t182:=Tryz.underlying273
 a182:=Tryz.isAgg273
 z182:=Tryz.sizeOf273
 v182:=Tryz.zeroValue273
 t183:=Tryz.underlying274
 a183:=Tryz.isAgg274
 z183:=Tryz.sizeOf274
 v183:=Tryz.zeroValue274
 t218:=Tryz.underlying282
 a218:=Tryz.isAgg282
 z218:=Tryz.sizeOf282
 v218:=Tryz.zeroValue282
 t222:=Tryz.underlying286
 a222:=Tryz.isAgg286
 z222:=Tryz.sizeOf286
 v222:=Tryz.zeroValue286
 t228:=Tryz.underlying288
 a228:=Tryz.isAgg288
 z228:=Tryz.sizeOf288
 v228:=Tryz.zeroValue288
 t229:=Tryz.underlying289
 a229:=Tryz.isAgg289
 z229:=Tryz.sizeOf289
 v229:=Tryz.zeroValue289
end Go.Proofs.YtekljimefjclgaaGreatDoor
